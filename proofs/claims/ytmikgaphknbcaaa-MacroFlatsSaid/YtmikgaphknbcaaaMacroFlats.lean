/- MacroFlats: for whatever grammar the law returns true, and the input reads as it did. No condition. -/
import Derived.Test.YtmikgaphknbcaaaRows
import Derived.Test.YtmikgaphknbcaaaMLaw
import Derived.WalkKit
import Derived.ProofKit
import Derived.OpenShut
import Derived.ChangeOld
import Derived.Below
import Derived.SizedLaws
namespace Go.Proofs.Ytmikgaphknbcaaa.macroFlats
open Go.RowKit Go.ChangeShapes Go.WideShapes Go.ChangeAt Go.X Go.Proofs.Ytmikgaphknbcaaa.B Go.Proofs.YtmikgaphknbcaaaW.PrintWords

theorem laidOut : laidOutB Try.prog = true := by kernel_rfl
theorem own : ownKnob Try.prog.godebug = none := by kernel_rfl
set_option maxRecDepth 100000 in
theorem lifted (os : Os) (started : os.Started) (H : Type) (enc : TypeId × Value → H) :
    ReturnsInHanded {} Try.checked os 11 .any (Rows.macroFlatsSpec.pre6 enc Try.prog Try.f11 Rows.macroFlatsRow.domain false) (Rows.macroFlatsSpec.post enc Try.prog Try.f11 false true false false) := by
  refine returnsInHanded_of_change_sized (C := Try.checked) own started (by kernel_rfl) Try.func11
    (ChangeSpec.witness6 (enc := enc) (C := Try.checked) false ⟨#[], #[.agg #[.slice none 0 0, .slice none 0 0]], []⟩ 8 (by kernel_rfl) (by kernel_rfl) (by kernel_rfl) (by kernel_rfl)) ?_
  intro W base args ds gs before hval0 hW _ hsz _
  have hW' := hW
  obtain ⟨p, q, hA0, hV, rfl, _, _⟩ := hW
  have hA : DataW.TrodAll enc Try.prog W 0 (fun _ => true) true Try.f11.params.toList args.toList ds p := hA0
  have hval : ∀ (j : Nat) t v, Try.f11.params[j]? = some t → args[j]? = some v → Value.okWide Try.prog W .any base t v := hval0
  rw [Try.params11] at hA hval
  obtain ⟨v0, vs0, d0, ds0, p0, q0, ha0, rfl, rfl, h0, r0⟩ := trodAll_cons hA
  obtain ⟨rfl, rfl, rfl⟩ := trodAll_nil r0
  obtain rfl : args = #[v0] := by cases args; simp_all
  obtain ⟨rfl, rfl⟩ := trodVars_none hV
  clear hA0 hA
  have lt0 := trod_lt h0
  rw [Try.params11] at hsz
  obtain ⟨Au, cu, us, Ar, cr, rs, rfl, _, _, hu, hr, hB⟩ := openGrammar (hval 0 26 v0 rfl rfl) h0 (Fits.of_each hsz (j := 0) rfl rfl)
  refine (MacroFlats.calls Au Ar cu cr us rs W hu hr (Bg.fit hB)).mono fun e W' ⟨he, bel⟩ => ?_
  subst he
  exact ⟨_, rfl, _, _, _, [], _, [], hW', trodAll_mk1 (shut_bool Try.underlying4 _),
    trodAll_cons_mk (Below.trod laidOut (by kernel_rfl) (of_decide_eq_true (by kernel_rfl)) h0 bel lt0) trodAll_mk0, rfl, bel.frame _, fun h => by cases h⟩
theorem over : Rows.macroFlatsRow.holds Try.pinned (OpenSpec.ofChange Rows.macroFlatsSpec) :=
  OpenClaim.holds_of_wide 11 Try.f11 rfl rfl rfl rfl rfl rfl rfl ⟨rfl, rfl, rfl, rfl, rfl⟩ rfl rfl rfl rfl rfl (by kernel_rfl) Try.func11 (by kernel_rfl)
    (of_decide_eq_true (by kernel_rfl)) (by unfold Func.isWrapper; first | (rw [if_pos (by decide +kernel)]; kernel_rfl) | (rw [if_neg (by decide +kernel)]; exact ⟨rfl, rfl⟩))
    (fun os started H enc _ => lifted os started H enc)
end Go.Proofs.Ytmikgaphknbcaaa.macroFlats
namespace Go.Proofs.Ytmikgaphknbcaaa
theorem macroFlats_holds : Rows.MacroFlatsSaid := macroFlats.over
end Go.Proofs.Ytmikgaphknbcaaa
