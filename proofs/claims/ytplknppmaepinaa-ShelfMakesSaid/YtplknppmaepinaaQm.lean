/- ShelfMakes: for whatever files, room and troubles the law returns true, and the input reads as it did. No condition. -/
import Derived.Test.YtplknppmaepinaaRows
import Derived.WalkKit
import Derived.ProofKit
import Derived.OpenShut
import Derived.ChangeOld
import Derived.Below
import Derived.SizedLaws
import Derived.Test.YtplknppmaepinaaQm1
import Derived.Test.YtplknppmaepinaaQm5
namespace Go.Proofs.Ytplknppmaepinaa.shelfMakes
open Go Go.RowKit Go.ChangeShapes Go.WideShapes Go.ChangeAt Go.X Go.Proofs.Ytplknppmaepinaa.S Go.Proofs.Ytplknppmaepinaa.F Go.Proofs.YtplknppmaepinaaW.PrintWords

theorem reach_is : reachBytes = 140737488351232 := rfl
theorem laidOut : laidOutB Try.prog = true := by kernel_rfl
theorem own : ownKnob Try.prog.godebug = none := by kernel_rfl
set_option maxRecDepth 100000 in
theorem lifted (os : Os) (started : os.Started) (H : Type) (enc : TypeId × Value → H) :
    ReturnsInHanded {} Try.checked os 3 .any (Rows.shelfMakesSpec.pre6 enc Try.prog Try.f3 Rows.shelfMakesRow.domain false) (Rows.shelfMakesSpec.post enc Try.prog Try.f3 false true false false) := by
  refine returnsInHanded_of_change_sized (C := Try.checked) own started (by kernel_rfl) Try.func3
    (ChangeSpec.witness6 (enc := enc) (C := Try.checked) false ⟨#[], #[.agg #[.slice none 0 0, .int .i64 0, .slice none 0 0]], []⟩ 8 (by kernel_rfl) (by kernel_rfl) (by kernel_rfl) (by kernel_rfl)) ?_
  intro W base args ds gs before hval0 hW _ hsz _
  have hW' := hW
  obtain ⟨p, q, hA0, hV, rfl, _, _⟩ := hW
  have hA : DataW.TrodAll enc Try.prog W 0 (fun _ => true) true Try.f3.params.toList args.toList ds p := hA0
  have hval : ∀ (j : Nat) t v, Try.f3.params[j]? = some t → args[j]? = some v → Value.okWide Try.prog W .any base t v := hval0
  rw [Try.params3] at hA hval
  obtain ⟨v0, vs0, d0, ds0, p0, q0, ha0, rfl, rfl, h0, r0⟩ := trodAll_cons hA
  obtain ⟨rfl, rfl, rfl⟩ := trodAll_nil r0
  obtain rfl : args = #[v0] := by cases args; simp_all
  obtain ⟨rfl, rfl⟩ := trodVars_none hV
  clear hA0 hA
  have lt0 := trod_lt h0
  rw [Try.params3] at hsz
  obtain ⟨Af, cf, fs, room, Ap, cp, ps, rfl, lf, lp, hf, hp, hbf, hwr, hbp⟩ := openWorld (hval 0 25 v0 rfl rfl) h0 (Fits.of_each hsz (j := 0) rfl rfl)
  have hr := reach_is
  refine (makes.calls Af Ap cf cp fs ps room W hf hp lf lp (by have := hbf.1; omega) (fun f hm => by have := (hbf.2 f hm).2; unfold Bd at this; omega) (fun f hm => by have := (hbf.2 f hm).1; simp only [maxLen]; omega) (by have := hbp.1; omega) hbp.2).mono fun e W' ⟨he, bel⟩ => ?_
  subst he
  exact ⟨_, rfl, _, _, _, [], _, [], hW', trodAll_mk1 (shut_bool Try.underlying4 _),
    trodAll_cons_mk (Below.trod laidOut (by kernel_rfl) (of_decide_eq_true (by kernel_rfl)) h0 bel lt0) trodAll_mk0, rfl, bel.frame _, fun h => by cases h⟩
theorem over : Rows.shelfMakesRow.holds Try.pinned (OpenSpec.ofChange Rows.shelfMakesSpec) :=
  OpenClaim.holds_of_wide 3 Try.f3 rfl rfl rfl rfl rfl rfl rfl ⟨rfl, rfl, rfl, rfl, rfl⟩ rfl rfl rfl rfl rfl (by kernel_rfl) Try.func3 (by kernel_rfl)
    (of_decide_eq_true (by kernel_rfl)) (by unfold Func.isWrapper; first | (rw [if_pos (by decide +kernel)]; kernel_rfl) | (rw [if_neg (by decide +kernel)]; exact ⟨rfl, rfl⟩))
    (fun os started H enc _ => lifted os started H enc)
end Go.Proofs.Ytplknppmaepinaa.shelfMakes
namespace Go.Proofs.Ytplknppmaepinaa
theorem shelfMakes_holds : Rows.ShelfMakesSaid := shelfMakes.over
end Go.Proofs.Ytplknppmaepinaa
