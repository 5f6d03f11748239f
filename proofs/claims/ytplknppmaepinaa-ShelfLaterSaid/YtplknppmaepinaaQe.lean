/- ShelfLater: for whatever arguments the law returns true, and the input reads as it did. No condition. -/
import Derived.Test.YtplknppmaepinaaRows
import Derived.WalkKit
import Derived.ProofKit
import Derived.OpenShut
import Derived.ChangeOld
import Derived.Below
import Derived.SizedLaws
import Derived.Test.YtplknppmaepinaaQe1
import Derived.Test.YtplknppmaepinaaQe6
namespace Go.Proofs.Ytplknppmaepinaa.shelfLater
open Go Go.RowKit Go.ChangeShapes Go.WideShapes Go.ChangeAt Go.X Go.Proofs.Ytplknppmaepinaa.S Go.Proofs.Ytplknppmaepinaa.F Go.Proofs.YtplknppmaepinaaW.PrintWords

theorem reach_is : reachBytes = 140737488351232 := rfl
theorem laidOut : laidOutB Try.prog = true := by kernel_rfl
theorem own : ownKnob Try.prog.godebug = none := by kernel_rfl
set_option maxRecDepth 100000 in
theorem contract (H : Type) (enc : TypeId × Value → H) (W : World) (base : Nat) (args : Array Value) (ds gs : List (DataW H)) (before : List MemPlace)
    (hval0 : ∀ (j : Nat) t v, Try.f7.params[j]? = some t → args[j]? = some v → Value.okWide Try.prog W .any base t v)
    (hW : DataW.Whole enc Try.prog Try.f7.params.toList Rows.shelfLaterSpec.vars false W args.toList ds gs before)
    (hsz : (DataW.weightsEach Try.prog (Try.f7.params.toList ++ Rows.shelfLaterSpec.plain.varTypes Try.prog) (ds ++ gs)).all (· ≤ reachBytes) = true) :
    Calls Try.prog 7 args W fun e W' => ∃ v, e = .returned v ∧ Rows.shelfLaterSpec.post enc Try.prog Try.f7 false true false false W args v W' := by
  have hW' := hW
  obtain ⟨p, q, hA0, hV, rfl, _, _⟩ := hW
  have hA : DataW.TrodAll enc Try.prog W 0 (fun _ => true) true Try.f7.params.toList args.toList ds p := hA0
  have hval : ∀ (j : Nat) t v, Try.f7.params[j]? = some t → args[j]? = some v → Value.okWide Try.prog W .any base t v := hval0
  rw [Try.params7] at hA hval
  obtain ⟨v0, vs0, d0, ds0, p0, q0, ha0, rfl, rfl, h0, r0⟩ := trodAll_cons hA
  obtain ⟨v1, vs1, d1, ds1, p1, q1, rfl, rfl, rfl, h1, r1⟩ := trodAll_cons r0
  obtain ⟨v2, vs2, d2, ds2, p2, q2, rfl, rfl, rfl, h2, r2⟩ := trodAll_cons r1
  obtain ⟨rfl, rfl, rfl⟩ := trodAll_nil r2
  obtain rfl : args = #[v0, v1, v2] := by cases args; simp_all
  obtain ⟨rfl, rfl⟩ := trodVars_none hV
  clear hA0 hA
  have lt0 := trod_lt h0
  have lt1 := trod_lt h1
  have lt2 := trod_lt h2
  rw [Try.params7] at hsz
  obtain ⟨Af0, cf0, fs0, room0, Ap0, cp0, ps0, rfl, lf0, lp0, hf0, hp0, hbf0, hwr0, hbp0⟩ := openWorld (hval 0 25 v0 rfl rfl) h0 (Fits.of_each hsz (j := 0) rfl rfl)
  obtain ⟨Ao1, co1, os1, rfl, lo1, ho1, hbo1⟩ := openScript (hval 1 37 v1 rfl rfl) h1 (Fits.of_each hsz (j := 1) rfl rfl)
  obtain ⟨n2, rfl, hn2⟩ := open_int (k := .i64) (by kernel_rfl) (hval 2 3 v2 rfl rfl) h2
  have hr := reach_is
  refine (later.calls Af0 Ap0 Ao1 cf0 cp0 co1 fs0 ps0 os1 room0 n2 W hf0 hp0 ho1 lf0 (by have := hbf0.1; omega) (fun f hm => by have := (hbf0.2 f hm).2; unfold Bd at this; omega) (fun f hm => by have := (hbf0.2 f hm).1; simp only [maxLen]; omega) (by have := hbo1.1; omega) (fun o hm => by have := (hbo1.2 o hm).1; have := (hbo1.2 o hm).2; unfold Bd at this; simp only [maxLen]; omega)).mono fun e W' ⟨he, bel⟩ => ?_
  subst he
  exact ⟨_, rfl, _, _, _, [], _, [], hW', trodAll_mk1 (shut_bool Try.underlying4 _), (trodAll_cons_mk (Below.trod laidOut (by kernel_rfl) (of_decide_eq_true (by kernel_rfl)) h0 bel lt0) (trodAll_cons_mk (Below.trod laidOut (by kernel_rfl) (of_decide_eq_true (by kernel_rfl)) h1 bel lt1) (trodAll_cons_mk (Below.trod laidOut (by kernel_rfl) (of_decide_eq_true (by kernel_rfl)) h2 bel lt2) trodAll_mk0))), rfl, bel.frame _, fun h => by cases h⟩
set_option maxRecDepth 100000 in
theorem lifted (os : Os) (started : os.Started) (H : Type) (enc : TypeId × Value → H) :
    ReturnsInHanded {} Try.checked os 7 .any (Rows.shelfLaterSpec.pre6 enc Try.prog Try.f7 Rows.shelfLaterRow.domain false) (Rows.shelfLaterSpec.post enc Try.prog Try.f7 false true false false) := by
  refine returnsInHanded_of_change_sized (C := Try.checked) own started (by kernel_rfl) Try.func7
    (ChangeSpec.witness6 (enc := enc) (C := Try.checked) false ⟨#[], #[.agg #[.slice none 0 0, .int .i64 0, .slice none 0 0], .slice none 0 0, .int .i64 0], []⟩ 8 (by kernel_rfl) (by kernel_rfl) (by kernel_rfl) (by kernel_rfl)) ?_
  intro W base args ds gs before hval hW _ hsz _
  exact contract H enc W base args ds gs before hval hW hsz
theorem over : Rows.shelfLaterRow.holds Try.pinned (OpenSpec.ofChange Rows.shelfLaterSpec) :=
  OpenClaim.holds_of_wide 7 Try.f7 rfl rfl rfl rfl rfl rfl rfl ⟨rfl, rfl, rfl, rfl, rfl⟩ rfl rfl rfl rfl rfl (by kernel_rfl) Try.func7 (by kernel_rfl)
    (of_decide_eq_true (by kernel_rfl)) (by unfold Func.isWrapper; first | (rw [if_pos (by decide +kernel)]; kernel_rfl) | (rw [if_neg (by decide +kernel)]; exact ⟨rfl, rfl⟩))
    (fun os started H enc _ => lifted os started H enc)
end Go.Proofs.Ytplknppmaepinaa.shelfLater
namespace Go.Proofs.Ytplknppmaepinaa
theorem shelfLater_holds : Rows.ShelfLaterSaid := shelfLater.over
end Go.Proofs.Ytplknppmaepinaa
