/- ScriptChecks: for whatever grammar and expression the law returns true, and the input reads as it did. No condition. -/
import Derived.Test.YtmikgaphknbcaaaRows
import Derived.Test.YtmikgaphknbcaaaSCLaw
import Derived.WalkKit
import Derived.ProofKit
import Derived.OpenShut
import Derived.ChangeOld
import Derived.Below
import Derived.SizedLaws
namespace Go.Proofs.Ytmikgaphknbcaaa.scriptChecks
open Go.RowKit Go.ChangeShapes Go.WideShapes Go.ChangeAt Go.X Go.Proofs.Ytmikgaphknbcaaa.B Go.Proofs.YtmikgaphknbcaaaW.PrintWords

theorem _root_.Go.Proofs.Ytmikgaphknbcaaa.B.Bx.texts {xs : List F.S47} (h : Bx xs) : TextsFit xs := fun x hx => by
  have := h.2 x hx
  have r := reachBytes_lt
  have h2 : x.f2.size ≤ reachBytes := this
  omega
theorem _root_.Go.Proofs.Ytmikgaphknbcaaa.B.Bg.texts {us : List F.S69} {rs : List F.S34} (h : Bg (us, rs)) : GramTexts us rs := by
  obtain ⟨⟨_, h1⟩, _, h3⟩ := h
  have r := reachBytes_lt
  refine ⟨fun u hu => ?_, fun x hx => ?_⟩
  · have h2 : u.f0.size ≤ reachBytes ∧ u.f1.size ≤ reachBytes := h1 u hu
    omega
  · obtain ⟨_, ⟨_, a⟩, b⟩ := h3 x hx
    exact ⟨fun s hs => by have := a s hs; omega, b.texts⟩
theorem laidOut : laidOutB Try.prog = true := by kernel_rfl
theorem own : ownKnob Try.prog.godebug = none := by kernel_rfl
set_option maxRecDepth 100000 in
theorem lifted (os : Os) (started : os.Started) (H : Type) (enc : TypeId × Value → H) :
    ReturnsInHanded {} Try.checked os 13 .any (Rows.scriptChecksSpec.pre6 enc Try.prog Try.f13 Rows.scriptChecksRow.domain false) (Rows.scriptChecksSpec.post enc Try.prog Try.f13 false true false false) := by
  refine returnsInHanded_of_change_sized (C := Try.checked) own started (by kernel_rfl) Try.func13
    (ChangeSpec.witness6 (enc := enc) (C := Try.checked) false ⟨#[], #[.agg #[.slice none 0 0, .slice none 0 0], .slice none 0 0], []⟩ 8 (by kernel_rfl) (by kernel_rfl) (by kernel_rfl) (by kernel_rfl)) ?_
  intro W base args ds gs before hval0 hW _ hsz _
  have hW' := hW
  obtain ⟨p, q, hA0, hV, rfl, _, _⟩ := hW
  have hA : DataW.TrodAll enc Try.prog W 0 (fun _ => true) true Try.f13.params.toList args.toList ds p := hA0
  have hval : ∀ (j : Nat) t v, Try.f13.params[j]? = some t → args[j]? = some v → Value.okWide Try.prog W .any base t v := hval0
  rw [Try.params13] at hA hval
  obtain ⟨v0, vs0, d0, ds0, p0, q0, ha0, rfl, rfl, h0, r0⟩ := trodAll_cons hA
  obtain ⟨v1, vs1, d1, ds1, p1, q1, rfl, rfl, rfl, h1, r1⟩ := trodAll_cons r0
  obtain ⟨rfl, rfl, rfl⟩ := trodAll_nil r1
  obtain rfl : args = #[v0, v1] := by cases args; simp_all
  obtain ⟨rfl, rfl⟩ := trodVars_none hV
  clear hA0 hA
  have lt0 := trod_lt h0
  have lt1 := trod_lt h1
  rw [Try.params13] at hsz
  obtain ⟨Au, cu, us, Ar, cr, rs, rfl, _, _, hu, hr, hB⟩ := openGrammar (hval 0 26 v0 rfl rfl) h0 (Fits.of_each hsz (j := 0) rfl rfl)
  obtain ⟨Ae, ce, xs, rfl, _, hC, hX⟩ := OpensB.arg Try.underlying32 opensB32 (hval 1 32 v1 rfl rfl) h1 (Fits.of_each hsz (j := 1) rfl rfl)
  refine (ScriptChecks.calls Au Ar Ae cu cr ce us rs xs W hu hr hC (Bg.fit hB) hB.texts hX.texts).mono fun e W' ⟨he, bel⟩ => ?_
  subst he
  exact ⟨_, rfl, _, _, _, [], _, [], hW', trodAll_mk1 (shut_bool Try.underlying4 _),
    trodAll_cons_mk (Below.trod laidOut (by kernel_rfl) (of_decide_eq_true (by kernel_rfl)) h0 bel lt0) (trodAll_cons_mk (Below.trod laidOut (by kernel_rfl) (of_decide_eq_true (by kernel_rfl)) h1 bel lt1) trodAll_mk0), rfl, bel.frame _, fun h => by cases h⟩
theorem over : Rows.scriptChecksRow.holds Try.pinned (OpenSpec.ofChange Rows.scriptChecksSpec) :=
  OpenClaim.holds_of_wide 13 Try.f13 rfl rfl rfl rfl rfl rfl rfl ⟨rfl, rfl, rfl, rfl, rfl⟩ rfl rfl rfl rfl rfl (by kernel_rfl) Try.func13 (by kernel_rfl)
    (of_decide_eq_true (by kernel_rfl)) (by unfold Func.isWrapper; first | (rw [if_pos (by decide +kernel)]; kernel_rfl) | (rw [if_neg (by decide +kernel)]; exact ⟨rfl, rfl⟩))
    (fun os started H enc _ => lifted os started H enc)
end Go.Proofs.Ytmikgaphknbcaaa.scriptChecks
namespace Go.Proofs.Ytmikgaphknbcaaa
theorem scriptChecks_holds : Rows.ScriptChecksSaid := scriptChecks.over
end Go.Proofs.Ytmikgaphknbcaaa
