/- script.CheckExpr, dowelref06's CheckExpr, script.long. -/
import Derived.Test.YtmikgaphknbcaaaCShapem
import Derived.Test.YtmikgaphknbcaaaCHeadm
namespace Go.Proofs.Ytmikgaphknbcaaa.B
open Go Go.RowKit Go.X Go.Proofs.YtmikgaphknbcaaaW.PrintWords Go.Proofs.Ytmikgaphknbcaaa.F

def exprCode (xs : List S47) : Int := if 4096 < xs.length then 1 else if shapedOK xs = false then 6 else if 100 < nestOf xs then 3 else 0
set_option maxRecDepth 100000 in
set_option maxHeartbeats 4000000 in
theorem CheckExpr.calls (A : Option Addr) (c : Nat) (xs : List S47) (w : World) (hr : Kd.C k47 w A xs.length xs) (ht : TextsFit xs) :
    Calls Try.prog 31 #[.slice A xs.length c] w fun e w' => e = .returned (.int .i64 (exprCode xs)) ∧ Below w.heap.size w w' := by
  have HR := Lib.hid hr; clear hr
  have HT := Lib.hid ht; clear ht
  go_enter Try.func31, Try.ntmps31
  by_cases h1 : 4096 < xs.length
  · have HV : Hid (exprCode xs = 1) := by show _ = _; rw [exprCode, if_pos h1]
    go_wp2
    go_ret
    exact ⟨by rw [HV.out]; rfl, Below.refl _ _⟩
  go_wp2_with (fail)
  refine (shaped.calls A c xs w HR.out HT.out (by omega)).mono ?_
  rintro e w1 ⟨rfl, hb⟩
  have HB := Lib.hid hb; clear hb
  dsimp only
  cases hs : shapedOK xs
  · have HV : Hid (exprCode xs = 6) := by show _ = _; rw [exprCode, if_neg h1, if_pos hs]
    clear hs
    go_wp2
    go_ret
    exact ⟨by rw [HV.out]; rfl, HB.out⟩
  have HE : Hid (exprCode xs = if 100 < nestOf xs then 3 else 0) := by show _ = _; rw [exprCode, if_neg h1, if_neg (by rw [hs]; decide)]
  clear hs
  go_wp2_with (fail)
  refine (Nest.calls A c xs w1 (Kd.C_below HR.out HB.out) (by omega)).mono ?_
  rintro e w2 ⟨rfl, hb⟩
  have HB2 : Hid (Below w.heap.size w w2) := HB.out.trans (hb.mono HB.out.size)
  clear hb
  dsimp only
  generalize nestOf xs = m at *
  by_cases h2 : 100 < m
  · go_wp2
    go_ret
    exact ⟨by rw [HE.out, if_pos h2]; rfl, HB2.out⟩
  · go_wp2
    go_ret
    exact ⟨by rw [HE.out, if_neg (by omega)]; rfl, HB2.out⟩
set_option maxRecDepth 100000 in
set_option maxHeartbeats 4000000 in
theorem CheckExprR.calls (A : Option Addr) (c : Nat) (xs : List S47) (w : World) (hr : Kd.C k47 w A xs.length xs) (ht : TextsFit xs) :
    Calls Try.prog 32 #[.slice A xs.length c] w fun e w' => e = .returned (.int .i64 (exprCode xs)) ∧ Below w.heap.size w w' := by
  have HR := Lib.hid hr; clear hr
  have HT := Lib.hid ht; clear ht
  go_enter Try.func32, Try.ntmps32
  by_cases h1 : 4096 < xs.length
  · have HV : Hid (exprCode xs = 1) := by show _ = _; rw [exprCode, if_pos h1]
    go_wp2
    go_ret
    exact ⟨by rw [HV.out]; rfl, Below.refl _ _⟩
  go_wp2_with (fail)
  refine (shapedR.calls A c xs w HR.out HT.out (by omega)).mono ?_
  rintro e w1 ⟨rfl, hb⟩
  have HB := Lib.hid hb; clear hb
  dsimp only
  cases hs : shapedOK xs
  · have HV : Hid (exprCode xs = 6) := by show _ = _; rw [exprCode, if_neg h1, if_pos hs]
    clear hs
    go_wp2
    go_ret
    exact ⟨by rw [HV.out]; rfl, HB.out⟩
  have HE : Hid (exprCode xs = if 100 < nestOf xs then 3 else 0) := by show _ = _; rw [exprCode, if_neg h1, if_neg (by rw [hs]; decide)]
  clear hs
  go_wp2_with (fail)
  refine (NestR.calls A c xs w1 (Kd.C_below HR.out HB.out) (by omega)).mono ?_
  rintro e w2 ⟨rfl, hb⟩
  have HB2 : Hid (Below w.heap.size w w2) := HB.out.trans (hb.mono HB.out.size)
  clear hb
  dsimp only
  generalize nestOf xs = m at *
  by_cases h2 : 100 < m
  · go_wp2
    go_ret
    exact ⟨by rw [HE.out, if_pos h2]; rfl, HB2.out⟩
  · go_wp2
    go_ret
    exact ⟨by rw [HE.out, if_neg (by omega)]; rfl, HB2.out⟩
def total : List S34 → Nat
  | [] => 0
  | x :: r => x.f2.length + total r
def tooLong (us : List S69) (rs : List S34) : Bool := decide (64 < us.length ∨ 256 < rs.length ∨ 4096 < total rs)
theorem drop_rule {rs : List S34} {k : Nat} (h : k < rs.length) : rs.drop k = rl rs k :: rs.drop (k + 1) := by
  rw [List.drop_eq_getElem_cons h, rl, List.getD_eq_getElem?_getD, List.getElem?_eq_getElem h]; rfl
set_option maxRecDepth 100000 in
set_option maxHeartbeats 4000000 in
theorem long.calls (Au Ar : Option Addr) (cu cr : Nat) (us : List S69) (rs : List S34) (w : World) (hr : Kd.C k34 w Ar rs.length rs) (hok : GramOK us rs) :
    Calls Try.prog 48 #[.agg #[.slice Au us.length cu, .slice Ar rs.length cr]] w fun e w' => e = .returned (.bool (tooLong us rs)) ∧ Below w.heap.size w w' := by
  have HR := Lib.hid hr; clear hr
  obtain ⟨k1, k2, hk⟩ := hok
  have HM := Lib.hid hk; clear hk
  go_enter Try.func48, Try.ntmps48
  by_cases h1 : 64 < us.length
  · have h1' : (64 : Int) < (us.length : Int) := by omega
    have HV : Hid (tooLong us rs = true) := by show _ = _; rw [tooLong, decide_eq_true_iff]; exact .inl h1
    go_wp2
    go_ret
    exact ⟨by rw [HV.out]; rfl, (Below.refl _ w).alloc (Nat.le_refl _) _⟩
  have h1' : ¬ (64 : Int) < (us.length : Int) := by omega
  by_cases h2 : 256 < rs.length
  · have h2' : (256 : Int) < (rs.length : Int) := by omega
    have HV : Hid (tooLong us rs = true) := by show _ = _; rw [tooLong, decide_eq_true_iff]; exact .inr (.inl h2)
    go_wp2
    go_ret
    exact ⟨by rw [HV.out]; rfl, (Below.refl _ w).alloc (Nat.le_refl _) _⟩
  have h2' : ¬ (256 : Int) < (rs.length : Int) := by omega
  have HV : Hid (tooLong us rs = decide (4096 < total rs)) := by
    show _ = _
    rw [tooLong, Bool.eq_iff_iff]
    simp [h1, h2]
  go_wp2
  have HB : Hid (Below w.heap.size w (w.alloc (.cells #[.slice Au us.length cu, .slice Ar rs.length cr] 26))) := (Below.refl _ w).alloc (Nat.le_refl _) _
  generalize w.alloc (.cells #[.slice Au us.length cu, .slice Ar rs.length cr] 26) = wa at *
  go_loopg [3, 19] rs.length (fun q s v wr => ∃ (k n : Nat), q + k = rs.length ∧ v = .int .i64 k ∧ s = .int .i64 n ∧ n ≤ k * 1048576 ∧ Hid (total rs = n + total (rs.drop k)) ∧ Hid (Below w.heap.size w wr))
  case atStart => exact ⟨0, 0, by simp, rfl, rfl, by simp, by show _ = _; simp, HB⟩
  case round =>
    clear HB
    obtain ⟨k, n, hk, rfl, rfl, hn, HT, HW⟩ := hrel
    by_cases hlt : k < rs.length
    · obtain ⟨ad, A1, c1, A2, c2, eA, e0, e1, e2, l1, g1, l2, g2⟩ := rule_at (Kd.C_below HR.out HW.out) k hlt
      subst eA
      have hx := (HM.out _ (rl_mem hlt)).2
      have HT2 := Lib.hid (drop_rule hlt ▸ HT.out)
      clear l1 l2 g1 g2 HT
      generalize rl rs k = x at *
      have hw : wrap64 ((n : Int) + (x.f2.length : Int)) = ((n + x.f2.length : Nat) : Int) := by rw [IntWalk.wrap64_in _ (by omega)]; rfl
      go_wp2
      go_roundg (rs.length - (k + 1))
      case measure => omega
      case rel => exact ⟨k + 1, n + x.f2.length, by omega, by go_num, by first | rfl | rw [hw], by omega, by have := HT2.out; rw [total] at this; show _ = _; omega, HW.out.alloc HW.out.size _⟩
    · have HE : Hid (total rs = n) := by have := HT.out; rw [List.drop_of_length_le (by omega), total] at this; exact this
      go_wp2
      go_ret
      refine ⟨congrArg (fun b => Ending.returned (.bool b)) (?_ : _ = tooLong us rs), HW.out⟩
      rw [HV.out, HE.out, Bool.eq_iff_iff]
      simp
      omega
end Go.Proofs.Ytmikgaphknbcaaa.B
