/- Texts joined and shortened (wip/tools/shrink.py): Fx13, MFree. -/
import Derived.Test.YtmpkkphohilkoaaQr2
import Derived.Test.YtmpkkphohilkoaaQr10
import Derived.WalkKit
import Derived.Lib.Hide
import Derived.Deep.LoopGhost
namespace Go.Proofs.Ytmpkkphohilkoaa.F
open Go.RowKit Go.Proofs.YtmpkkphohilkoaaW.PrintWords Go.Proofs.YtmpkkphohilkoaaW.PrintLast Go.Proofs.YtmpkkphohilkoaaW.PrintMore
attribute [local go_sem] max2_int min2_int max_two min_two max_three min_three max_four min_four   -- for this text's walks alone
set_option linter.unusedVariables false
set_option linter.unusedSimpArgs false

/-! ### dowelbook_Cores: function 23 -/
mutual
def dowelbook_Cores.j0 : Nat → Bool → List (S45) → Int → List (S45) → Int → Option (Bool)
  | 0, _, _, _, _, _ => none
  | k + 1, x19, x223000, x223001, x224000, x224001 => if x19 = true then (some false) else (dowelbook_Cores.l0 k 0 x223000 x223001 x224000 x224001)
def dowelbook_Cores.l0 : Nat → Int → List (S45) → Int → List (S45) → Int → Option (Bool)
  | 0, _, _, _, _, _ => none
  | k + 1, x5, x223000, x223001, x224000, x224001 => if x5 < (x223000.length : Int) then (if 0 ≤ x5 then (if x5 < (x224000.length : Int) then (if ((rd_T45 x223000 x5).f0).toList = ((rd_T45 x224000 x5).f0).toList then ((dowelbook_CoreBodies.f k ((rd_T45 x223000 x5).f1) ((rd_T45 x224000 x5).f1)).bind fun t228 => (if t228 = true then (dowelbook_Cores.l0 k (wrap64 (x5 + 1)) x223000 x223001 x224000 x224001) else (some false))) else (some false)) else (none)) else (none)) else (some true)
end
def dowelbook_Cores.f (k : Nat) (l0_0 : List (S45)) (a0_1 : Int) (l1_0 : List (S45)) (a1_1 : Int) : Option (Bool) := if a0_1 = a1_1 then (dowelbook_Cores.j0 k ((l0_0.length : Int) != (l1_0.length : Int)) l0_0 a0_1 l1_0 a1_1) else (dowelbook_Cores.j0 k true l0_0 a0_1 l1_0 a1_1)
set_option maxHeartbeats 8000000 in
set_option maxRecDepth 100000 in
theorem dowelbook_Cores.calls (k : Nat) (A0_0 : Option Addr) (c0_0 : Nat) (l0_0 : List (S45)) (a0_1 : Int) (A1_0 : Option Addr) (c1_0 : Nat) (l1_0 : List (S45)) (a1_1 : Int) (r : Bool) (w : World) (hr0_0 : Kd.C k45 w A0_0 l0_0.length l0_0) (hc0_0 : l0_0.length ≤ c0_0) (hr1_0 : Kd.C k45 w A1_0 l1_0.length l1_0) (hc1_0 : l1_0.length ≤ c1_0) (h : dowelbook_Cores.f k l0_0 a0_1 l1_0 a1_1 = some r) :
    Calls Try.prog 23 #[.agg #[.slice A0_0 l0_0.length c0_0, .int .i64 a0_1], .agg #[.slice A1_0 l1_0.length c1_0, .int .i64 a1_1]] w fun e w' => e = .returned (.bool r) ∧ Below w.heap.size w w' := by
  have hu24 := Try.underlying24
  have HR0_0 := Aside0.mk hr0_0
  have HC0_0 := Aside0.mk hc0_0
  clear hr0_0 hc0_0
  have HR1_0 := Aside0.mk hr1_0
  have HC1_0 := Aside0.mk hc1_0
  clear hr1_0 hc1_0
  have HB := Aside0.mk (Below.refl w.heap.size w)
  have H : (if a0_1 = a1_1 then (dowelbook_Cores.j0 k ((l0_0.length : Int) != (l1_0.length : Int)) l0_0 a0_1 l1_0 a1_1) else (dowelbook_Cores.j0 k true l0_0 a0_1 l1_0 a1_1)) = some r := h
  clear h
  have HC3 := Aside0.mk H
  clear H
  go_enter Try.func23, Try.ntmps23
  go_upto_region 1 with (first | ((with_reducible refine gate_dst (N := 2) rfl ?_); (try (refine gate_guard (by rfl) ?_; dsimp only)); refine box_event ?hg (N := 2) ?hd (cs := #[.slice A0_0 l0_0.length c0_0, .int .i64 a0_1]) (t := 24) ?hr ?_; (case hd => rfl); (case hg => rfl); (case hr => first | (go_simp; done) | (go_simp; rfl)); intro gb222 hg w4 hbox hb; have n0_ := Aside0.mk (below_step (by repeat (first | (with_reducible first | exact HB.out | apply below_alloc | apply pw_below_drewN | apply below_drew1) | exact HB.out)) hb); have n1_ := Aside0.mk (hbox); have n2_ := Aside0.mk ((by rw [hg]; exact (below_size (by repeat (first | (with_reducible first | exact HB.out | apply below_alloc | apply pw_below_drewN | apply below_drew1) | exact HB.out))) : w.heap.size ≤ gb222)); have n3_ := Aside0.mk ((by rw [hg]; exact (below_size (by repeat (first | (with_reducible first | exact HB.out | apply below_alloc | apply pw_below_drewN | apply below_drew1) | exact HB.out))) : w.heap.size ≤ gb222)); clear HB; have HB := n0_; have BK222 := n1_; have GW222 := n2_; have GE222 := n3_; clear n0_ n1_ n2_ n3_; clear hb hbox hg) | ((with_reducible refine gate_dst (N := 3) rfl ?_); (try (refine gate_guard (by rfl) ?_; dsimp only)); refine box_event ?hg (N := 3) ?hd (cs := #[.slice A1_0 l1_0.length c1_0, .int .i64 a1_1]) (t := 24) ?hr ?_; (case hd => rfl); (case hg => rfl); (case hr => first | (go_simp; done) | (go_simp; rfl)); intro gb223 hg w5 hbox hb; have n0_ := Aside0.mk (blk_below (g := gb222) (o := .cells #[.slice A0_0 l0_0.length c0_0, .int .i64 a0_1] 24 (0, 0)) (by (with_reducible repeat (first | refine blk_drewN ?_ _ | refine blk_drew ?_ | refine blk_alloc ?_ _)); exact BK222.out) hb); have n1_ := Aside0.mk (below_step (by repeat (first | (with_reducible first | exact HB.out | apply below_alloc | apply pw_below_drewN | apply below_drew1 | refine below_set ?_ GE222.out) | exact HB.out)) hb); have n2_ := Aside0.mk (hbox); have n3_ := Aside0.mk ((by rw [hg]; exact (below_size (by repeat (first | (with_reducible first | exact HB.out | apply below_alloc | apply pw_below_drewN | apply below_drew1 | refine below_set ?_ GE222.out) | exact HB.out))) : w.heap.size ≤ gb223)); have n4_ := Aside0.mk ((by rw [hg]; exact (below_size (by repeat (first | (with_reducible first | exact HB.out | apply below_alloc | apply pw_below_drewN | apply below_drew1 | refine below_set ?_ GE222.out) | exact HB.out))) : w.heap.size ≤ gb223)); have n5_ := Aside0.mk ((by rw [hg]; exact Nat.ne_of_lt (blk_lt (g := gb222) (o := .cells #[.slice A0_0 l0_0.length c0_0, .int .i64 a0_1] 24 (0, 0)) (by (with_reducible repeat (first | refine blk_drewN ?_ _ | refine blk_drew ?_ | refine blk_alloc ?_ _)); exact BK222.out)) : gb222 ≠ gb223)); have n6_ := Aside0.mk ((by rw [hg]; exact Nat.ne_of_gt (blk_lt (g := gb222) (o := .cells #[.slice A0_0 l0_0.length c0_0, .int .i64 a0_1] 24 (0, 0)) (by (with_reducible repeat (first | refine blk_drewN ?_ _ | refine blk_drew ?_ | refine blk_alloc ?_ _)); exact BK222.out)) : gb223 ≠ gb222)); clear BK222; clear HB; have BK222 := n0_; have HB := n1_; have BK223 := n2_; have GW223 := n3_; have GE223 := n4_; have NB222_223 := n5_; have NB223_222 := n6_; clear n0_ n1_ n2_ n3_ n4_ n5_ n6_; clear hb hbox hg))
  repeat (go_quiet (first | ((with_reducible refine gate_dst (N := 2) rfl ?_); (try (refine gate_guard (by rfl) ?_; dsimp only)); refine box_event ?hg (N := 2) ?hd (cs := #[.slice A0_0 l0_0.length c0_0, .int .i64 a0_1]) (t := 24) ?hr ?_; (case hd => rfl); (case hg => rfl); (case hr => first | (go_simp; done) | (go_simp; rfl)); intro gb222 hg w4 hbox hb; have n0_ := Aside0.mk (below_step (by repeat (first | (with_reducible first | exact HB.out | apply below_alloc | apply pw_below_drewN | apply below_drew1) | exact HB.out)) hb); have n1_ := Aside0.mk (hbox); have n2_ := Aside0.mk ((by rw [hg]; exact (below_size (by repeat (first | (with_reducible first | exact HB.out | apply below_alloc | apply pw_below_drewN | apply below_drew1) | exact HB.out))) : w.heap.size ≤ gb222)); have n3_ := Aside0.mk ((by rw [hg]; exact (below_size (by repeat (first | (with_reducible first | exact HB.out | apply below_alloc | apply pw_below_drewN | apply below_drew1) | exact HB.out))) : w.heap.size ≤ gb222)); clear HB; have HB := n0_; have BK222 := n1_; have GW222 := n2_; have GE222 := n3_; clear n0_ n1_ n2_ n3_; clear hb hbox hg) | ((with_reducible refine gate_dst (N := 3) rfl ?_); (try (refine gate_guard (by rfl) ?_; dsimp only)); refine box_event ?hg (N := 3) ?hd (cs := #[.slice A1_0 l1_0.length c1_0, .int .i64 a1_1]) (t := 24) ?hr ?_; (case hd => rfl); (case hg => rfl); (case hr => first | (go_simp; done) | (go_simp; rfl)); intro gb223 hg w5 hbox hb; have n0_ := Aside0.mk (blk_below (g := gb222) (o := .cells #[.slice A0_0 l0_0.length c0_0, .int .i64 a0_1] 24 (0, 0)) (by (with_reducible repeat (first | refine blk_drewN ?_ _ | refine blk_drew ?_ | refine blk_alloc ?_ _)); exact BK222.out) hb); have n1_ := Aside0.mk (below_step (by repeat (first | (with_reducible first | exact HB.out | apply below_alloc | apply pw_below_drewN | apply below_drew1 | refine below_set ?_ GE222.out) | exact HB.out)) hb); have n2_ := Aside0.mk (hbox); have n3_ := Aside0.mk ((by rw [hg]; exact (below_size (by repeat (first | (with_reducible first | exact HB.out | apply below_alloc | apply pw_below_drewN | apply below_drew1 | refine below_set ?_ GE222.out) | exact HB.out))) : w.heap.size ≤ gb223)); have n4_ := Aside0.mk ((by rw [hg]; exact (below_size (by repeat (first | (with_reducible first | exact HB.out | apply below_alloc | apply pw_below_drewN | apply below_drew1 | refine below_set ?_ GE222.out) | exact HB.out))) : w.heap.size ≤ gb223)); have n5_ := Aside0.mk ((by rw [hg]; exact Nat.ne_of_lt (blk_lt (g := gb222) (o := .cells #[.slice A0_0 l0_0.length c0_0, .int .i64 a0_1] 24 (0, 0)) (by (with_reducible repeat (first | refine blk_drewN ?_ _ | refine blk_drew ?_ | refine blk_alloc ?_ _)); exact BK222.out)) : gb222 ≠ gb223)); have n6_ := Aside0.mk ((by rw [hg]; exact Nat.ne_of_gt (blk_lt (g := gb222) (o := .cells #[.slice A0_0 l0_0.length c0_0, .int .i64 a0_1] 24 (0, 0)) (by (with_reducible repeat (first | refine blk_drewN ?_ _ | refine blk_drew ?_ | refine blk_alloc ?_ _)); exact BK222.out)) : gb223 ≠ gb222)); clear BK222; clear HB; have BK222 := n0_; have HB := n1_; have BK223 := n2_; have GW223 := n3_; have GE223 := n4_; have NB222_223 := n5_; have NB223_222 := n6_; clear n0_ n1_ n2_ n3_ n4_ n5_ n6_; clear hb hbox hg)); go_upto_region 1 with (first | ((with_reducible refine gate_dst (N := 2) rfl ?_); (try (refine gate_guard (by rfl) ?_; dsimp only)); refine box_event ?hg (N := 2) ?hd (cs := #[.slice A0_0 l0_0.length c0_0, .int .i64 a0_1]) (t := 24) ?hr ?_; (case hd => rfl); (case hg => rfl); (case hr => first | (go_simp; done) | (go_simp; rfl)); intro gb222 hg w4 hbox hb; have n0_ := Aside0.mk (below_step (by repeat (first | (with_reducible first | exact HB.out | apply below_alloc | apply pw_below_drewN | apply below_drew1) | exact HB.out)) hb); have n1_ := Aside0.mk (hbox); have n2_ := Aside0.mk ((by rw [hg]; exact (below_size (by repeat (first | (with_reducible first | exact HB.out | apply below_alloc | apply pw_below_drewN | apply below_drew1) | exact HB.out))) : w.heap.size ≤ gb222)); have n3_ := Aside0.mk ((by rw [hg]; exact (below_size (by repeat (first | (with_reducible first | exact HB.out | apply below_alloc | apply pw_below_drewN | apply below_drew1) | exact HB.out))) : w.heap.size ≤ gb222)); clear HB; have HB := n0_; have BK222 := n1_; have GW222 := n2_; have GE222 := n3_; clear n0_ n1_ n2_ n3_; clear hb hbox hg) | ((with_reducible refine gate_dst (N := 3) rfl ?_); (try (refine gate_guard (by rfl) ?_; dsimp only)); refine box_event ?hg (N := 3) ?hd (cs := #[.slice A1_0 l1_0.length c1_0, .int .i64 a1_1]) (t := 24) ?hr ?_; (case hd => rfl); (case hg => rfl); (case hr => first | (go_simp; done) | (go_simp; rfl)); intro gb223 hg w5 hbox hb; have n0_ := Aside0.mk (blk_below (g := gb222) (o := .cells #[.slice A0_0 l0_0.length c0_0, .int .i64 a0_1] 24 (0, 0)) (by (with_reducible repeat (first | refine blk_drewN ?_ _ | refine blk_drew ?_ | refine blk_alloc ?_ _)); exact BK222.out) hb); have n1_ := Aside0.mk (below_step (by repeat (first | (with_reducible first | exact HB.out | apply below_alloc | apply pw_below_drewN | apply below_drew1 | refine below_set ?_ GE222.out) | exact HB.out)) hb); have n2_ := Aside0.mk (hbox); have n3_ := Aside0.mk ((by rw [hg]; exact (below_size (by repeat (first | (with_reducible first | exact HB.out | apply below_alloc | apply pw_below_drewN | apply below_drew1 | refine below_set ?_ GE222.out) | exact HB.out))) : w.heap.size ≤ gb223)); have n4_ := Aside0.mk ((by rw [hg]; exact (below_size (by repeat (first | (with_reducible first | exact HB.out | apply below_alloc | apply pw_below_drewN | apply below_drew1 | refine below_set ?_ GE222.out) | exact HB.out))) : w.heap.size ≤ gb223)); have n5_ := Aside0.mk ((by rw [hg]; exact Nat.ne_of_lt (blk_lt (g := gb222) (o := .cells #[.slice A0_0 l0_0.length c0_0, .int .i64 a0_1] 24 (0, 0)) (by (with_reducible repeat (first | refine blk_drewN ?_ _ | refine blk_drew ?_ | refine blk_alloc ?_ _)); exact BK222.out)) : gb222 ≠ gb223)); have n6_ := Aside0.mk ((by rw [hg]; exact Nat.ne_of_gt (blk_lt (g := gb222) (o := .cells #[.slice A0_0 l0_0.length c0_0, .int .i64 a0_1] 24 (0, 0)) (by (with_reducible repeat (first | refine blk_drewN ?_ _ | refine blk_drew ?_ | refine blk_alloc ?_ _)); exact BK222.out)) : gb223 ≠ gb222)); clear BK222; clear HB; have BK222 := n0_; have HB := n1_; have BK223 := n2_; have GW223 := n3_; have GE223 := n4_; have NB222_223 := n5_; have NB223_222 := n6_; clear n0_ n1_ n2_ n3_ n4_ n5_ n6_; clear hb hbox hg)))
  (try simp only [Act.put, List.setIfInBounds_toArray, List.set_cons_zero, List.set_cons_succ])
  go_cut [19] (fun v19 wc => ∃ (kq : Nat) (x19_2 : Bool), v19 = .bool x19_2 ∧ Aside0 (dowelbook_Cores.j0 kq x19_2 l0_0 a0_1 l1_0 a1_1 = some r) ∧ Aside0 (kq ≤ k) ∧ Aside0 (wc.heap[gb222]? = some (.cells #[(.slice A0_0 l0_0.length c0_0), .int .i64 a0_1] 24 (0, 0))) ∧ Aside0 (wc.heap[gb223]? = some (.cells #[(.slice A1_0 l1_0.length c1_0), .int .i64 a1_1] 24 (0, 0))) ∧ Aside0 (Below w.heap.size w wc))
  case first =>
    have H := HC3.out
    clear HC3
    by_cases c6 : a0_1 = a1_1
    · rw [if_pos c6] at H
      have c6b0 : (a0_1 == a1_1) = true := beq_iff_eq.mpr c6
      have c6b1 : (a0_1 != a1_1) = false := bne_eq_false_iff_eq.mpr c6
      clear c6
      (first | rw [c6b0] | (simp only [i64_w, i32_w]; rw [c6b0]) | skip)
      have H' := Aside0.mk H
      clear H
      have hnb7 := NB222_223.out
      have hnc7 := NB223_222.out
      have hcz8_0 : w5.cell? ⟨gb222, 0, none⟩ = some (.slice A0_0 l0_0.length c0_0) := (blk_cell BK222.out 0).trans rfl
      have hcz8_1 : w5.cell? ⟨gb222, 1, none⟩ = some (.int .i64 a0_1) := (blk_cell BK222.out 1).trans rfl
      have hfz8_0 := blk_frozen BK222.out 0
      have hfz8_1 := blk_frozen BK222.out 1
      have hcz9_0 : w5.cell? ⟨gb223, 0, none⟩ = some (.slice A1_0 l1_0.length c1_0) := (blk_cell BK223.out 0).trans rfl
      have hcz9_1 : w5.cell? ⟨gb223, 1, none⟩ = some (.int .i64 a1_1) := (blk_cell BK223.out 1).trans rfl
      have hfz9_0 := blk_frozen BK223.out 0
      have hfz9_1 := blk_frozen BK223.out 1
      go_wp2
      repeat (go_quiet (fail); try go_wp2)
      go_meet
      case rel => exact ⟨_, (((l0_0.length : Int) != (l1_0.length : Int))), (by first | rfl | (simp; done) | (simp [*]; done)), H', ⟨by first | omega | exact Nat.le_refl _⟩, ⟨by (with_reducible repeat (first | refine blk_drewN ?_ _ | refine blk_drew ?_ | refine blk_alloc ?_ _)); exact BK222.out⟩, ⟨by (with_reducible repeat (first | refine blk_drewN ?_ _ | refine blk_drew ?_ | refine blk_alloc ?_ _)); exact BK223.out⟩, ⟨by repeat (first | (with_reducible first | exact HB.out | apply below_alloc | apply pw_below_drewN | apply below_drew1 | refine below_set ?_ GE222.out | refine below_set ?_ GE223.out) | exact HB.out)⟩⟩
    · rw [if_neg c6] at H
      have c6b0 : (a0_1 == a1_1) = false := beq_eq_false_iff_ne.mpr c6
      have c6b1 : (a0_1 != a1_1) = true := bne_iff_ne.mpr c6
      (first | rw [c6b0] | (simp only [i64_w, i32_w]; rw [c6b0]) | skip)
      have H' := Aside0.mk H
      clear H
      have hnb10 := NB222_223.out
      have hnc10 := NB223_222.out
      have hcz11_0 : w5.cell? ⟨gb222, 0, none⟩ = some (.slice A0_0 l0_0.length c0_0) := (blk_cell BK222.out 0).trans rfl
      have hcz11_1 : w5.cell? ⟨gb222, 1, none⟩ = some (.int .i64 a0_1) := (blk_cell BK222.out 1).trans rfl
      have hfz11_0 := blk_frozen BK222.out 0
      have hfz11_1 := blk_frozen BK222.out 1
      have hcz12_0 : w5.cell? ⟨gb223, 0, none⟩ = some (.slice A1_0 l1_0.length c1_0) := (blk_cell BK223.out 0).trans rfl
      have hcz12_1 : w5.cell? ⟨gb223, 1, none⟩ = some (.int .i64 a1_1) := (blk_cell BK223.out 1).trans rfl
      have hfz12_0 := blk_frozen BK223.out 0
      have hfz12_1 := blk_frozen BK223.out 1
      go_wp2
      repeat (go_quiet (fail); try go_wp2)
      go_meet
      case rel => exact ⟨_, (true), (by first | rfl | (simp; done) | (simp [*]; done)), H', ⟨by first | omega | exact Nat.le_refl _⟩, ⟨by (with_reducible repeat (first | refine blk_drewN ?_ _ | refine blk_drew ?_ | refine blk_alloc ?_ _)); exact BK222.out⟩, ⟨by (with_reducible repeat (first | refine blk_drewN ?_ _ | refine blk_drew ?_ | refine blk_alloc ?_ _)); exact BK223.out⟩, ⟨by repeat (first | (with_reducible first | exact HB.out | apply below_alloc | apply pw_below_drewN | apply below_drew1 | refine below_set ?_ GE222.out | refine below_set ?_ GE223.out) | exact HB.out)⟩⟩
  case rest =>
    clear HC3
    try clear c1
    try clear c2
    try clear p2
    try clear c6
    try clear c6b0
    try clear c6b1
    try clear c7
    try clear c10
    try clear hcz11_0
    try clear hcz11_1
    try clear hcz12_0
    try clear hcz12_1
    try clear hcz8_0
    try clear hcz8_1
    try clear hcz9_0
    try clear hcz9_1
    try clear hfz11_0
    try clear hfz11_1
    try clear hfz12_0
    try clear hfz12_1
    try clear hfz8_0
    try clear hfz8_1
    try clear hfz9_0
    try clear hfz9_1
    obtain ⟨kq, x19_2, rfl, HA, HJ2, BK222, BK223, HB⟩ := hcut
    cases kq with
    | zero => exact absurd HA.out (by simp [dowelbook_Cores.j0])
    | succ kj2 =>
      have H := HA.out
      clear HA
      simp only [dowelbook_Cores.j0] at H
      by_cases c13 : x19_2 = true
      · subst c13
        have H1 : (some false) = some r := by rw [if_pos rfl] at H; exact H
        clear H
        have H := H1
        clear H1
        obtain rfl := Option.some.inj H
        go_wp2
        repeat (go_quiet (fail); try go_wp2)
        go_ret
        exact ⟨by first | rfl | (simp [errW_none, errW_some] <;> rfl) | (simp [*, errW_none, errW_some] <;> rfl), by repeat (first | (with_reducible first | exact HB.out | apply below_alloc | apply pw_below_drewN | apply below_drew1 | refine below_set ?_ GE222.out | refine below_set ?_ GE223.out) | exact HB.out)⟩
      · replace c13 := Bool.eq_false_iff.mpr c13
        subst c13
        have H1 : (dowelbook_Cores.l0 kj2 0 l0_0 a0_1 l1_0 a1_1) = some r := by rw [if_neg (show ¬ (false = true) by decide)] at H; exact H
        clear H
        have H := H1
        clear H1
        have H' := Aside0.mk H
        clear H
        go_wp2
        repeat (go_quiet (fail); try go_wp2)
        go_loopg [5] kj2 (fun kq v5 w' => ∃ (x5_2 : Int), v5 = .int .i64 x5_2 ∧ Aside0 (dowelbook_Cores.l0 kq x5_2 l0_0 a0_1 l1_0 a1_1 = some r) ∧ Aside0 (kq ≤ kj2) ∧ Aside0 (w'.heap[gb222]? = some (.cells #[(.slice A0_0 l0_0.length c0_0), .int .i64 a0_1] 24 (0, 0))) ∧ Aside0 (w'.heap[gb223]? = some (.cells #[(.slice A1_0 l1_0.length c1_0), .int .i64 a1_1] 24 (0, 0))) ∧ Aside0 (Below w.heap.size w w'))
        case atStart => exact ⟨(0), (by first | rfl | (simp; done) | (simp [*]; done)), H', ⟨Nat.le_refl _⟩, ⟨by (with_reducible repeat (first | refine blk_drewN ?_ _ | refine blk_drew ?_ | refine blk_alloc ?_ _)); exact BK222.out⟩, ⟨by (with_reducible repeat (first | refine blk_drewN ?_ _ | refine blk_drew ?_ | refine blk_alloc ?_ _)); exact BK223.out⟩, ⟨by repeat (first | (with_reducible first | exact HB.out | apply below_alloc | apply pw_below_drewN | apply below_drew1 | refine below_set ?_ GE222.out | refine below_set ?_ GE223.out) | exact HB.out)⟩⟩
        case round =>
          clear H'
          try clear c1
          try clear c2
          try clear p2
          try clear c6
          try clear c6b0
          try clear c6b1
          try clear c7
          try clear c10
          try clear c13
          try clear hcz11_0
          try clear hcz11_1
          try clear hcz12_0
          try clear hcz12_1
          try clear hcz8_0
          try clear hcz8_1
          try clear hcz9_0
          try clear hcz9_1
          try clear hfz11_0
          try clear hfz11_1
          try clear hfz12_0
          try clear hfz12_1
          try clear hfz8_0
          try clear hfz8_1
          try clear hfz9_0
          try clear hfz9_1
          try clear p2
          obtain ⟨x5_2, rfl, HA, HK2, BK222, BK223, HB⟩ := hrel
          cases gk with
          | zero => exact absurd HA.out (by simp [dowelbook_Cores.l0])
          | succ k2 =>
            have H := HA.out
            clear HA
            simp only [dowelbook_Cores.l0] at H
            by_cases c14 : x5_2 < (l0_0.length : Int)
            · rw [if_pos c14] at H
              have c14b0 : decide (x5_2 < (l0_0.length : Int)) = true := decide_eq_true c14
              clear c14
              by_cases c15 : 0 ≤ x5_2
              · rw [if_pos c15] at H
                have c15b0 : decide (0 ≤ x5_2) = true := decide_eq_true c15
                clear c15
                by_cases c16 : x5_2 < (l1_0.length : Int)
                · rw [if_pos c16] at H
                  have c16b0 : decide (x5_2 < (l1_0.length : Int)) = true := decide_eq_true c16
                  clear c16
                  by_cases c17 : ((rd_T45 l0_0 x5_2).f0).toList = ((rd_T45 l1_0 x5_2).f0).toList
                  · rw [if_pos c17] at H
                    have c17b0 : (((rd_T45 l0_0 x5_2).f0).toList == ((rd_T45 l1_0 x5_2).f0).toList) = true := beq_iff_eq.mpr c17
                    have c17b1 : (((rd_T45 l0_0 x5_2).f0).toList != ((rd_T45 l1_0 x5_2).f0).toList) = false := bne_eq_false_iff_eq.mpr c17
                    clear c17
                    replace H := Option.bind_eq_some_iff.mp H
                    obtain ⟨t228, A180, H⟩ := H
                    replace H : (if t228 = true then (dowelbook_Cores.l0 k2 (wrap64 (x5_2 + 1)) l0_0 a0_1 l1_0 a1_1) else (some false)) = some r := H
                    have A18 := Aside0.mk A180
                    clear A180
                    by_cases c19 : t228 = true
                    · subst c19
                      have H1 : (dowelbook_Cores.l0 k2 (wrap64 (x5_2 + 1)) l0_0 a0_1 l1_0 a1_1) = some r := by rw [if_pos rfl] at H; exact H
                      clear H
                      have H := H1
                      clear H1
                      have H' := Aside0.mk H
                      clear H
                      have hnb20 := NB222_223.out
                      have hnc20 := NB223_222.out
                      have hcz21_0 : wr.cell? ⟨gb222, 0, none⟩ = some (.slice A0_0 l0_0.length c0_0) := (blk_cell BK222.out 0).trans rfl
                      have hcz21_1 : wr.cell? ⟨gb222, 1, none⟩ = some (.int .i64 a0_1) := (blk_cell BK222.out 1).trans rfl
                      have hfz21_0 := blk_frozen BK222.out 0
                      have hfz21_1 := blk_frozen BK222.out 1
                      have p224 : 0 ≤ (x5_2 : Int) := of_decide_eq_true (by first | (with_reducible assumption) | assumption)
                      have q224 : x5_2 < (l0_0.length : Int) := of_decide_eq_true (by first | (with_reducible assumption) | assumption)
                      obtain ⟨ad224, A224_1, c224_1, e224, hx224_0, hx224_1, hl224_1, hi224_1⟩ := at_T45 HR0_0.out x5_2 p224 q224
                      cases e224
                      replace hx224_0 := (HB.out.cell (World.block_lt_of_cell? w _ hx224_0)).trans hx224_0
                      replace hx224_1 := (HB.out.cell (World.block_lt_of_cell? w _ hx224_1)).trans hx224_1
                      have HR224_1 := Aside0.mk hi224_1
                      have HC224_1 := Aside0.mk hl224_1
                      clear hi224_1 hl224_1
                      replace p224 := eq_true p224
                      replace q224 := eq_true q224
                      have hcz22_0 : wr.cell? ⟨gb223, 0, none⟩ = some (.slice A1_0 l1_0.length c1_0) := (blk_cell BK223.out 0).trans rfl
                      have hcz22_1 : wr.cell? ⟨gb223, 1, none⟩ = some (.int .i64 a1_1) := (blk_cell BK223.out 1).trans rfl
                      have hfz22_0 := blk_frozen BK223.out 0
                      have hfz22_1 := blk_frozen BK223.out 1
                      have p225 : 0 ≤ (x5_2 : Int) := of_decide_eq_true (by first | (with_reducible assumption) | assumption)
                      have q225 : x5_2 < (l1_0.length : Int) := of_decide_eq_true (by first | (with_reducible assumption) | assumption)
                      obtain ⟨ad225, A225_1, c225_1, e225, hx225_0, hx225_1, hl225_1, hi225_1⟩ := at_T45 HR1_0.out x5_2 p225 q225
                      cases e225
                      replace hx225_0 := (HB.out.cell (World.block_lt_of_cell? w _ hx225_0)).trans hx225_0
                      replace hx225_1 := (HB.out.cell (World.block_lt_of_cell? w _ hx225_1)).trans hx225_1
                      have HR225_1 := Aside0.mk hi225_1
                      have HC225_1 := Aside0.mk hl225_1
                      clear hi225_1 hl225_1
                      replace p225 := eq_true p225
                      replace q225 := eq_true q225
                      have p226 : 0 ≤ (x5_2 : Int) := of_decide_eq_true (by first | (with_reducible assumption) | assumption)
                      have q226 : x5_2 < (l0_0.length : Int) := of_decide_eq_true (by first | (with_reducible assumption) | assumption)
                      obtain ⟨ad226, A226_1, c226_1, e226, hx226_0, hx226_1, hl226_1, hi226_1⟩ := at_T45 HR0_0.out x5_2 p226 q226
                      obtain rfl : ad224 = ad226 := (by injection e226)
                      replace hx226_0 := (HB.out.cell (World.block_lt_of_cell? w _ hx226_0)).trans hx226_0
                      replace hx226_1 := (HB.out.cell (World.block_lt_of_cell? w _ hx226_1)).trans hx226_1
                      have HR226_1 := Aside0.mk hi226_1
                      have HC226_1 := Aside0.mk hl226_1
                      clear hi226_1 hl226_1
                      replace p226 := eq_true p226
                      replace q226 := eq_true q226
                      have ea_ := Option.some.inj (hx224_1.symm.trans hx226_1)
                      injection ea_ with ea_ en_ ec_
                      subst ea_
                      subst ec_
                      clear en_
                      have p227 : 0 ≤ (x5_2 : Int) := of_decide_eq_true (by first | (with_reducible assumption) | assumption)
                      have q227 : x5_2 < (l1_0.length : Int) := of_decide_eq_true (by first | (with_reducible assumption) | assumption)
                      obtain ⟨ad227, A227_1, c227_1, e227, hx227_0, hx227_1, hl227_1, hi227_1⟩ := at_T45 HR1_0.out x5_2 p227 q227
                      obtain rfl : ad225 = ad227 := (by injection e227)
                      replace hx227_0 := (HB.out.cell (World.block_lt_of_cell? w _ hx227_0)).trans hx227_0
                      replace hx227_1 := (HB.out.cell (World.block_lt_of_cell? w _ hx227_1)).trans hx227_1
                      have HR227_1 := Aside0.mk hi227_1
                      have HC227_1 := Aside0.mk hl227_1
                      clear hi227_1 hl227_1
                      replace p227 := eq_true p227
                      replace q227 := eq_true q227
                      have ea_ := Option.some.inj (hx225_1.symm.trans hx227_1)
                      injection ea_ with ea_ en_ ec_
                      subst ea_
                      subst ec_
                      clear en_
                      go_wp2_with (first | (go_at_call 37; (with_reducible refine (dowelbook_CoreBodies.calls k2 _ _ ((rd_T45 l0_0 x5_2).f1) _ _ ((rd_T45 l1_0 x5_2).f1) true _ ?side1 ?side2 ?side3 ?side4 A18.out).mono ?_); (case side1 => repeat (first | exact (Kd.C_below HR226_1.out HB.out) | (with_reducible refine Kd.C_alloc ?_ _) | (with_reducible refine Kd.C_drewN ?_ _) | (with_reducible refine Kd.C_drew ?_))); (case side2 => exact HC226_1.out); (case side3 => repeat (first | exact (Kd.C_below HR227_1.out HB.out) | (with_reducible refine Kd.C_alloc ?_ _) | (with_reducible refine Kd.C_drewN ?_ _) | (with_reducible refine Kd.C_drew ?_))); (case side4 => exact HC227_1.out); rintro e w' ⟨rfl, ⟨nd, rfl⟩⟩; (try first | exact ⟨rfl, _, World.drewN_drewN _ _ _⟩ | exact ⟨rfl, _, Eq.trans (World.drewN_drewN _ _ _) (congrArg (World.drewN _) (Nat.add_assoc _ _ _))⟩)))
                      repeat (go_quiet (first | (go_at_call 37; (with_reducible refine (dowelbook_CoreBodies.calls k2 _ _ ((rd_T45 l0_0 x5_2).f1) _ _ ((rd_T45 l1_0 x5_2).f1) true _ ?side1 ?side2 ?side3 ?side4 A18.out).mono ?_); (case side1 => repeat (first | exact (Kd.C_below HR226_1.out HB.out) | (with_reducible refine Kd.C_alloc ?_ _) | (with_reducible refine Kd.C_drewN ?_ _) | (with_reducible refine Kd.C_drew ?_))); (case side2 => exact HC226_1.out); (case side3 => repeat (first | exact (Kd.C_below HR227_1.out HB.out) | (with_reducible refine Kd.C_alloc ?_ _) | (with_reducible refine Kd.C_drewN ?_ _) | (with_reducible refine Kd.C_drew ?_))); (case side4 => exact HC227_1.out); rintro e w' ⟨rfl, ⟨nd, rfl⟩⟩; (try first | exact ⟨rfl, _, World.drewN_drewN _ _ _⟩ | exact ⟨rfl, _, Eq.trans (World.drewN_drewN _ _ _) (congrArg (World.drewN _) (Nat.add_assoc _ _ _))⟩))); try go_wp2_with (first | (go_at_call 37; (with_reducible refine (dowelbook_CoreBodies.calls k2 _ _ ((rd_T45 l0_0 x5_2).f1) _ _ ((rd_T45 l1_0 x5_2).f1) true _ ?side1 ?side2 ?side3 ?side4 A18.out).mono ?_); (case side1 => repeat (first | exact (Kd.C_below HR226_1.out HB.out) | (with_reducible refine Kd.C_alloc ?_ _) | (with_reducible refine Kd.C_drewN ?_ _) | (with_reducible refine Kd.C_drew ?_))); (case side2 => exact HC226_1.out); (case side3 => repeat (first | exact (Kd.C_below HR227_1.out HB.out) | (with_reducible refine Kd.C_alloc ?_ _) | (with_reducible refine Kd.C_drewN ?_ _) | (with_reducible refine Kd.C_drew ?_))); (case side4 => exact HC227_1.out); rintro e w' ⟨rfl, ⟨nd, rfl⟩⟩; (try first | exact ⟨rfl, _, World.drewN_drewN _ _ _⟩ | exact ⟨rfl, _, Eq.trans (World.drewN_drewN _ _ _) (congrArg (World.drewN _) (Nat.add_assoc _ _ _))⟩))))
                      go_roundg k2
                      case measure => have := HJ2.out; have := HK2.out; omega
                      case rel => exact ⟨(wrap64 (x5_2 + 1)), (by first | rfl | (simp; done) | (simp [*]; done)), H', ⟨by have := HJ2.out; have := HK2.out; omega⟩, ⟨by (with_reducible repeat (first | refine blk_drewN ?_ _ | refine blk_drew ?_ | refine blk_alloc ?_ _)); exact BK222.out⟩, ⟨by (with_reducible repeat (first | refine blk_drewN ?_ _ | refine blk_drew ?_ | refine blk_alloc ?_ _)); exact BK223.out⟩, ⟨by repeat (first | (with_reducible first | exact HB.out | apply below_alloc | apply pw_below_drewN | apply below_drew1 | refine below_set ?_ GE222.out | refine below_set ?_ GE223.out) | exact HB.out)⟩⟩
                    · replace c19 := Bool.eq_false_iff.mpr c19
                      subst c19
                      have H1 : (some false) = some r := by rw [if_neg (show ¬ (false = true) by decide)] at H; exact H
                      clear H
                      have H := H1
                      clear H1
                      obtain rfl := Option.some.inj H
                      have hnb23 := NB222_223.out
                      have hnc23 := NB223_222.out
                      have hcz24_0 : wr.cell? ⟨gb222, 0, none⟩ = some (.slice A0_0 l0_0.length c0_0) := (blk_cell BK222.out 0).trans rfl
                      have hcz24_1 : wr.cell? ⟨gb222, 1, none⟩ = some (.int .i64 a0_1) := (blk_cell BK222.out 1).trans rfl
                      have hfz24_0 := blk_frozen BK222.out 0
                      have hfz24_1 := blk_frozen BK222.out 1
                      have p224 : 0 ≤ (x5_2 : Int) := of_decide_eq_true (by first | (with_reducible assumption) | assumption)
                      have q224 : x5_2 < (l0_0.length : Int) := of_decide_eq_true (by first | (with_reducible assumption) | assumption)
                      obtain ⟨ad224, A224_1, c224_1, e224, hx224_0, hx224_1, hl224_1, hi224_1⟩ := at_T45 HR0_0.out x5_2 p224 q224
                      cases e224
                      replace hx224_0 := (HB.out.cell (World.block_lt_of_cell? w _ hx224_0)).trans hx224_0
                      replace hx224_1 := (HB.out.cell (World.block_lt_of_cell? w _ hx224_1)).trans hx224_1
                      have HR224_1 := Aside0.mk hi224_1
                      have HC224_1 := Aside0.mk hl224_1
                      clear hi224_1 hl224_1
                      replace p224 := eq_true p224
                      replace q224 := eq_true q224
                      have hcz25_0 : wr.cell? ⟨gb223, 0, none⟩ = some (.slice A1_0 l1_0.length c1_0) := (blk_cell BK223.out 0).trans rfl
                      have hcz25_1 : wr.cell? ⟨gb223, 1, none⟩ = some (.int .i64 a1_1) := (blk_cell BK223.out 1).trans rfl
                      have hfz25_0 := blk_frozen BK223.out 0
                      have hfz25_1 := blk_frozen BK223.out 1
                      have p225 : 0 ≤ (x5_2 : Int) := of_decide_eq_true (by first | (with_reducible assumption) | assumption)
                      have q225 : x5_2 < (l1_0.length : Int) := of_decide_eq_true (by first | (with_reducible assumption) | assumption)
                      obtain ⟨ad225, A225_1, c225_1, e225, hx225_0, hx225_1, hl225_1, hi225_1⟩ := at_T45 HR1_0.out x5_2 p225 q225
                      cases e225
                      replace hx225_0 := (HB.out.cell (World.block_lt_of_cell? w _ hx225_0)).trans hx225_0
                      replace hx225_1 := (HB.out.cell (World.block_lt_of_cell? w _ hx225_1)).trans hx225_1
                      have HR225_1 := Aside0.mk hi225_1
                      have HC225_1 := Aside0.mk hl225_1
                      clear hi225_1 hl225_1
                      replace p225 := eq_true p225
                      replace q225 := eq_true q225
                      have p226 : 0 ≤ (x5_2 : Int) := of_decide_eq_true (by first | (with_reducible assumption) | assumption)
                      have q226 : x5_2 < (l0_0.length : Int) := of_decide_eq_true (by first | (with_reducible assumption) | assumption)
                      obtain ⟨ad226, A226_1, c226_1, e226, hx226_0, hx226_1, hl226_1, hi226_1⟩ := at_T45 HR0_0.out x5_2 p226 q226
                      obtain rfl : ad224 = ad226 := (by injection e226)
                      replace hx226_0 := (HB.out.cell (World.block_lt_of_cell? w _ hx226_0)).trans hx226_0
                      replace hx226_1 := (HB.out.cell (World.block_lt_of_cell? w _ hx226_1)).trans hx226_1
                      have HR226_1 := Aside0.mk hi226_1
                      have HC226_1 := Aside0.mk hl226_1
                      clear hi226_1 hl226_1
                      replace p226 := eq_true p226
                      replace q226 := eq_true q226
                      have ea_ := Option.some.inj (hx224_1.symm.trans hx226_1)
                      injection ea_ with ea_ en_ ec_
                      subst ea_
                      subst ec_
                      clear en_
                      have p227 : 0 ≤ (x5_2 : Int) := of_decide_eq_true (by first | (with_reducible assumption) | assumption)
                      have q227 : x5_2 < (l1_0.length : Int) := of_decide_eq_true (by first | (with_reducible assumption) | assumption)
                      obtain ⟨ad227, A227_1, c227_1, e227, hx227_0, hx227_1, hl227_1, hi227_1⟩ := at_T45 HR1_0.out x5_2 p227 q227
                      obtain rfl : ad225 = ad227 := (by injection e227)
                      replace hx227_0 := (HB.out.cell (World.block_lt_of_cell? w _ hx227_0)).trans hx227_0
                      replace hx227_1 := (HB.out.cell (World.block_lt_of_cell? w _ hx227_1)).trans hx227_1
                      have HR227_1 := Aside0.mk hi227_1
                      have HC227_1 := Aside0.mk hl227_1
                      clear hi227_1 hl227_1
                      replace p227 := eq_true p227
                      replace q227 := eq_true q227
                      have ea_ := Option.some.inj (hx225_1.symm.trans hx227_1)
                      injection ea_ with ea_ en_ ec_
                      subst ea_
                      subst ec_
                      clear en_
                      go_wp2_with (first | (go_at_call 37; (with_reducible refine (dowelbook_CoreBodies.calls k2 _ _ ((rd_T45 l0_0 x5_2).f1) _ _ ((rd_T45 l1_0 x5_2).f1) false _ ?side1 ?side2 ?side3 ?side4 A18.out).mono ?_); (case side1 => repeat (first | exact (Kd.C_below HR226_1.out HB.out) | (with_reducible refine Kd.C_alloc ?_ _) | (with_reducible refine Kd.C_drewN ?_ _) | (with_reducible refine Kd.C_drew ?_))); (case side2 => exact HC226_1.out); (case side3 => repeat (first | exact (Kd.C_below HR227_1.out HB.out) | (with_reducible refine Kd.C_alloc ?_ _) | (with_reducible refine Kd.C_drewN ?_ _) | (with_reducible refine Kd.C_drew ?_))); (case side4 => exact HC227_1.out); rintro e w' ⟨rfl, ⟨nd, rfl⟩⟩; (try first | exact ⟨rfl, _, World.drewN_drewN _ _ _⟩ | exact ⟨rfl, _, Eq.trans (World.drewN_drewN _ _ _) (congrArg (World.drewN _) (Nat.add_assoc _ _ _))⟩)))
                      repeat (go_quiet (first | (go_at_call 37; (with_reducible refine (dowelbook_CoreBodies.calls k2 _ _ ((rd_T45 l0_0 x5_2).f1) _ _ ((rd_T45 l1_0 x5_2).f1) false _ ?side1 ?side2 ?side3 ?side4 A18.out).mono ?_); (case side1 => repeat (first | exact (Kd.C_below HR226_1.out HB.out) | (with_reducible refine Kd.C_alloc ?_ _) | (with_reducible refine Kd.C_drewN ?_ _) | (with_reducible refine Kd.C_drew ?_))); (case side2 => exact HC226_1.out); (case side3 => repeat (first | exact (Kd.C_below HR227_1.out HB.out) | (with_reducible refine Kd.C_alloc ?_ _) | (with_reducible refine Kd.C_drewN ?_ _) | (with_reducible refine Kd.C_drew ?_))); (case side4 => exact HC227_1.out); rintro e w' ⟨rfl, ⟨nd, rfl⟩⟩; (try first | exact ⟨rfl, _, World.drewN_drewN _ _ _⟩ | exact ⟨rfl, _, Eq.trans (World.drewN_drewN _ _ _) (congrArg (World.drewN _) (Nat.add_assoc _ _ _))⟩))); try go_wp2_with (first | (go_at_call 37; (with_reducible refine (dowelbook_CoreBodies.calls k2 _ _ ((rd_T45 l0_0 x5_2).f1) _ _ ((rd_T45 l1_0 x5_2).f1) false _ ?side1 ?side2 ?side3 ?side4 A18.out).mono ?_); (case side1 => repeat (first | exact (Kd.C_below HR226_1.out HB.out) | (with_reducible refine Kd.C_alloc ?_ _) | (with_reducible refine Kd.C_drewN ?_ _) | (with_reducible refine Kd.C_drew ?_))); (case side2 => exact HC226_1.out); (case side3 => repeat (first | exact (Kd.C_below HR227_1.out HB.out) | (with_reducible refine Kd.C_alloc ?_ _) | (with_reducible refine Kd.C_drewN ?_ _) | (with_reducible refine Kd.C_drew ?_))); (case side4 => exact HC227_1.out); rintro e w' ⟨rfl, ⟨nd, rfl⟩⟩; (try first | exact ⟨rfl, _, World.drewN_drewN _ _ _⟩ | exact ⟨rfl, _, Eq.trans (World.drewN_drewN _ _ _) (congrArg (World.drewN _) (Nat.add_assoc _ _ _))⟩))))
                      go_ret
                      exact ⟨by first | rfl | (simp [errW_none, errW_some] <;> rfl) | (simp [*, errW_none, errW_some] <;> rfl), by repeat (first | (with_reducible first | exact HB.out | apply below_alloc | apply pw_below_drewN | apply below_drew1 | refine below_set ?_ GE222.out | refine below_set ?_ GE223.out) | exact HB.out)⟩
                  · rw [if_neg c17] at H
                    have c17b0 : (((rd_T45 l0_0 x5_2).f0).toList == ((rd_T45 l1_0 x5_2).f0).toList) = false := beq_eq_false_iff_ne.mpr c17
                    have c17b1 : (((rd_T45 l0_0 x5_2).f0).toList != ((rd_T45 l1_0 x5_2).f0).toList) = true := bne_iff_ne.mpr c17
                    obtain rfl := Option.some.inj H
                    have hnb26 := NB222_223.out
                    have hnc26 := NB223_222.out
                    have hcz27_0 : wr.cell? ⟨gb222, 0, none⟩ = some (.slice A0_0 l0_0.length c0_0) := (blk_cell BK222.out 0).trans rfl
                    have hcz27_1 : wr.cell? ⟨gb222, 1, none⟩ = some (.int .i64 a0_1) := (blk_cell BK222.out 1).trans rfl
                    have hfz27_0 := blk_frozen BK222.out 0
                    have hfz27_1 := blk_frozen BK222.out 1
                    have p224 : 0 ≤ (x5_2 : Int) := of_decide_eq_true (by first | (with_reducible assumption) | assumption)
                    have q224 : x5_2 < (l0_0.length : Int) := of_decide_eq_true (by first | (with_reducible assumption) | assumption)
                    obtain ⟨ad224, A224_1, c224_1, e224, hx224_0, hx224_1, hl224_1, hi224_1⟩ := at_T45 HR0_0.out x5_2 p224 q224
                    cases e224
                    replace hx224_0 := (HB.out.cell (World.block_lt_of_cell? w _ hx224_0)).trans hx224_0
                    replace hx224_1 := (HB.out.cell (World.block_lt_of_cell? w _ hx224_1)).trans hx224_1
                    have HR224_1 := Aside0.mk hi224_1
                    have HC224_1 := Aside0.mk hl224_1
                    clear hi224_1 hl224_1
                    replace p224 := eq_true p224
                    replace q224 := eq_true q224
                    have hcz28_0 : wr.cell? ⟨gb223, 0, none⟩ = some (.slice A1_0 l1_0.length c1_0) := (blk_cell BK223.out 0).trans rfl
                    have hcz28_1 : wr.cell? ⟨gb223, 1, none⟩ = some (.int .i64 a1_1) := (blk_cell BK223.out 1).trans rfl
                    have hfz28_0 := blk_frozen BK223.out 0
                    have hfz28_1 := blk_frozen BK223.out 1
                    have p225 : 0 ≤ (x5_2 : Int) := of_decide_eq_true (by first | (with_reducible assumption) | assumption)
                    have q225 : x5_2 < (l1_0.length : Int) := of_decide_eq_true (by first | (with_reducible assumption) | assumption)
                    obtain ⟨ad225, A225_1, c225_1, e225, hx225_0, hx225_1, hl225_1, hi225_1⟩ := at_T45 HR1_0.out x5_2 p225 q225
                    cases e225
                    replace hx225_0 := (HB.out.cell (World.block_lt_of_cell? w _ hx225_0)).trans hx225_0
                    replace hx225_1 := (HB.out.cell (World.block_lt_of_cell? w _ hx225_1)).trans hx225_1
                    have HR225_1 := Aside0.mk hi225_1
                    have HC225_1 := Aside0.mk hl225_1
                    clear hi225_1 hl225_1
                    replace p225 := eq_true p225
                    replace q225 := eq_true q225
                    go_wp2
                    repeat (go_quiet (fail); try go_wp2)
                    go_ret
                    exact ⟨by first | rfl | (simp [errW_none, errW_some] <;> rfl) | (simp [*, errW_none, errW_some] <;> rfl), by repeat (first | (with_reducible first | exact HB.out | apply below_alloc | apply pw_below_drewN | apply below_drew1 | refine below_set ?_ GE222.out | refine below_set ?_ GE223.out) | exact HB.out)⟩
                · rw [if_neg c16] at H
                  exact absurd H (by simp)
              · rw [if_neg c15] at H
                exact absurd H (by simp)
            · rw [if_neg c14] at H
              have c14b0 : decide (x5_2 < (l0_0.length : Int)) = false := decide_eq_false c14
              clear c14
              obtain rfl := Option.some.inj H
              have hnb29 := NB222_223.out
              have hnc29 := NB223_222.out
              have hcz30_0 : wr.cell? ⟨gb222, 0, none⟩ = some (.slice A0_0 l0_0.length c0_0) := (blk_cell BK222.out 0).trans rfl
              have hcz30_1 : wr.cell? ⟨gb222, 1, none⟩ = some (.int .i64 a0_1) := (blk_cell BK222.out 1).trans rfl
              have hfz30_0 := blk_frozen BK222.out 0
              have hfz30_1 := blk_frozen BK222.out 1
              go_wp2
              repeat (go_quiet (fail); try go_wp2)
              go_ret
              exact ⟨by first | rfl | (simp [errW_none, errW_some] <;> rfl) | (simp [*, errW_none, errW_some] <;> rfl), by repeat (first | (with_reducible first | exact HB.out | apply below_alloc | apply pw_below_drewN | apply below_drew1 | refine below_set ?_ GE222.out | refine below_set ?_ GE223.out) | exact HB.out)⟩

end Go.Proofs.Ytmpkkphohilkoaa.F
/- dowelbook.FreeForests: lists of the call's own, no two in one block, share no memory. -/
namespace Go.Proofs.Ytmpkkphohilkoaa.B
open Go Go.RowKit Go.X Go.X.Fr4 Go.Proofs.YtmpkkphohilkoaaW.PrintWords Go.Proofs.Ytmpkkphohilkoaa.F
open Go.X.Fr (slen slen_slice Pre own_form')

def MI (j : Nat) : Value := .int .i64 (-1 - (j : Int))
/-- the rows' blocks -/
def S (vs : List Value) (k : Nat) : Prop := ∃ v ∈ vs, v.ownBlock = some k
def GI (j : Nat) : Value := .int .i64 (-100000 - (j : Int))

theorem info63q : (Try.prog.info? 63).map (fun i => (i.zero, i.size, i.bytes)) = some (some (.agg #[.string ⟨#[]⟩, .int .i64 0, .int .i64 0, .int .i64 0]), 4, 40) := by kernel_rfl
theorem info29 : (Try.prog.info? 29).map (fun i => (i.zero, i.size, i.bytes)) = some (some (.slice none 0 0), 1, 24) := by kernel_rfl
theorem Pre.hid_put {w : World} {base : Nat} {T : TypeId} {vs : List Value} {M : Nat → Value} {i k g n c B : Nat} {w0 : World} (h : Fr4.P1 w base T vs M i k) (hp : Pre w base T 4 vs) (hv : vs[i]? = some (.slice (some ⟨g, 0, none⟩) n c)) (hk : k < n)
    {e' : TypeId} (hB : Blk w B e' vs) (hne : e' ≠ T) (hbel : But (S vs) w0 w) (x0 x1 x2 : Value) :
    Fr4.P1 (put4 w g k x0 x1 x2 (M i)) base T vs M i (k + 1) ∧ Pre (put4 w g k x0 x1 x2 (M i)) base T 4 vs ∧ Blk (put4 w g k x0 x1 x2 (M i)) B e' vs ∧ But (S vs) w0 (put4 w g k x0 x1 x2 (M i)) ∧ (put4 w g k x0 x1 x2 (M i)).heap.size = w.heap.size := by
  obtain ⟨h1, h3⟩ := h.store hp hv hk x0 x1 x2
  have h2 := put4_grown w g k x0 x1 x2 (M i)
  obtain ⟨xs, hx⟩ := hp.own i _ hv
  obtain ⟨g', hg', _, cur, hcur, _⟩ := Fr.own_some hx (show 0 < n by omega)
  obtain rfl : g = g' := by simpa using hg'
  refine ⟨h1, h3, hB.grown h2 ?_, hbel.grown h2 (by intro k hk; obtain rfl := Option.some.inj hk; exact .inl ⟨_, List.mem_of_getElem? hv, rfl⟩), put4_size _ _ _ _ _ _ _⟩
  intro e
  exact hB.ne hcur hne (Option.some.inj e)

set_option maxRecDepth 100000 in
set_option maxHeartbeats 4000000 in
theorem FreeForests.calls (B c : Nat) (vs : List Value) (w : World) (hB : Blk w B 29 vs) (hp : Pre w 0 63 4 vs) (hn : vs.length ≤ 1000) (hs : ∀ v ∈ vs, slen v ≤ 4000000) :
    Calls Try.prog 12 #[.slice (some ⟨B, 0, none⟩) vs.length c] w fun e w' => e = .returned (.bool true) ∧ But (S vs) w w' := by
  have HB := Lib.hid hB; clear hB
  have HP := Lib.hid hp; clear hp
  have HS := Lib.hid hs; clear hs
  go_enter Try.func12, Try.ntmps12
  go_wp2
  go_loopg [3] vs.length (fun q v wr => ∃ i : Nat, q + i = vs.length ∧ v = .int .i64 i ∧ Hid (P1 wr 0 63 vs MI i 0 ∧ Pre wr 0 63 4 vs ∧ Blk wr B 29 vs ∧ But (S vs) w wr ∧ wr.heap.size = w.heap.size))
  case atStart => exact ⟨0, by simp, rfl, P1.begin HP.out, HP.out, HB.out, But.refl _ _, rfl⟩
  case round =>
    obtain ⟨i, hi, rfl, HI⟩ := hrel
    by_cases hlt : i < vs.length
    · obtain ⟨v, hv⟩ : ∃ v, vs[i]? = some v := ⟨_, List.getElem?_eq_getElem hlt⟩
      obtain ⟨xs, hx⟩ := HI.out.2.1.own i v hv
      obtain ⟨A, n, cp, rfl⟩ := own_form' hx
      clear hx
      have hsl : n ≤ 4000000 := HS.out _ (List.mem_of_getElem? hv)
      have hc : wr.cell? ⟨B, i, none⟩ = some (.slice A n cp) := (HI.out.2.2.1.cell i).trans hv
      have HV := Lib.hid hv; clear hv
      go_wp2
      go_loopg [4] n (fun q v wr' => ∃ k : Nat, q + k = n ∧ v = .int .i64 k ∧ Hid (P1 wr' 0 63 vs MI i k ∧ Pre wr' 0 63 4 vs ∧ Blk wr' B 29 vs ∧ But (S vs) w wr' ∧ wr'.heap.size = w.heap.size))
      case atStart => exact ⟨0, by simp, rfl, HI.out⟩
      case round =>
        clear hc
        obtain ⟨k, hk, rfl, HK⟩ := hrel
        have hc : wr.cell? ⟨B, i, none⟩ = some (.slice A n cp) := (HK.out.2.2.1.cell i).trans HV.out
        by_cases hkn : k < n
        · obtain ⟨xs, hx⟩ := HK.out.2.1.own i _ HV.out
          obtain ⟨g, rfl, hbg, cur, hcur, hcl, _⟩ := Fr.own_some hx (show 0 < n by omega)
          have hfz0 := hcur.frozen (k * 4)
          have hfz1 := hcur.frozen (k * 4 + 1)
          have hfz2 := hcur.frozen (k * 4 + 2)
          have hfz3 := hcur.frozen (k * 4 + 3)
          obtain ⟨old0, hold0⟩ : ∃ old, wr.cell? ⟨g, k * 4, none⟩ = some old := ⟨_, (hcur.cell (k * 4)).trans (List.getElem?_eq_getElem (by omega))⟩
          obtain ⟨old1, hold1⟩ : ∃ old, wr.cell? ⟨g, k * 4 + 1, none⟩ = some old := ⟨_, (hcur.cell (k * 4 + 1)).trans (List.getElem?_eq_getElem (by omega))⟩
          obtain ⟨old2, hold2⟩ : ∃ old, wr.cell? ⟨g, k * 4 + 2, none⟩ = some old := ⟨_, (hcur.cell (k * 4 + 2)).trans (List.getElem?_eq_getElem (by omega))⟩
          obtain ⟨old3, hold3⟩ : ∃ old, wr.cell? ⟨g, k * 4 + 3, none⟩ = some old := ⟨_, (hcur.cell (k * 4 + 3)).trans (List.getElem?_eq_getElem (by omega))⟩
          clear hx hcur hcl
          go_wp2
          have hst := Pre.hid_put HK.out.1 HK.out.2.1 HV.out hkn HK.out.2.2.1 (by decide) HK.out.2.2.2.1 (.string ⟨#[]⟩) (.int .i64 0) (.int .i64 0)
          go_roundg (n - (k + 1))
          case measure => omega
          case rel => exact ⟨k + 1, by omega, by go_num, hst.1, hst.2.1, hst.2.2.1, hst.2.2.2.1, hst.2.2.2.2.trans HK.out.2.2.2.2⟩
        · go_wp2
          have hnx := P1.next HK.out.1 HV.out (show k = slen (.slice A n cp) by rw [slen_slice]; omega)
          go_roundg (vs.length - (i + 1))
          case measure => omega
          case rel => exact ⟨i + 1, by omega, by go_num, hnx, HK.out.2⟩
    · obtain rfl : i = vs.length := by omega
      have H2 : Hid (P2 wr 0 63 w.heap.size vs MI GI 20 [] ∧ wr.ownsRow 0 29 1 (.slice none 0 0) 0 [] ∧ Blk wr B 29 vs ∧ But (S vs) w wr ∧ w.heap.size ≤ wr.heap.size ∧ (∀ b, (Value.slice none 0 0).ownBlock = some b → w.heap.size ≤ b)) :=
        ⟨P2.begin HI.out.1 HI.out.2.1 HI.out.2.2.2.2.symm, World.ownsRow_nil _ _ _ _, HI.out.2.2.1, HI.out.2.2.2.1, Nat.le_of_eq HI.out.2.2.2.2.symm, by simp [Value.ownBlock]⟩
      clear HI
      go_wp2
      go_loopg [5, 6] vs.length (fun q v5 v6 wr => ∃ gs : List Value, q + gs.length = vs.length ∧ v6 = .int .i64 gs.length ∧ Hid (P2 wr 0 63 w.heap.size vs MI GI 20 gs ∧ wr.ownsRow 0 29 1 v5 gs.length gs ∧ Blk wr B 29 vs ∧ But (S vs) w wr ∧ w.heap.size ≤ wr.heap.size ∧ (∀ b, v5.ownBlock = some b → w.heap.size ≤ b)))
      case atStart => exact ⟨[], by simp, rfl, H2⟩
      case round =>
        clear H2
        obtain ⟨gs, hgs, rfl, HI⟩ := hrel
        by_cases hlt : gs.length < vs.length
        · obtain ⟨v, hv⟩ : ∃ v, vs[gs.length]? = some v := ⟨_, List.getElem?_eq_getElem hlt⟩
          obtain ⟨zs, hz, _⟩ := HI.out.1.full _ v hv
          obtain ⟨A, n, cp, rfl⟩ := own_form' hz
          clear hz
          have hsl : n ≤ 4000000 := HS.out _ (List.mem_of_getElem? hv)
          have hc : wr.cell? ⟨B, gs.length, none⟩ = some (.slice A n cp) := (HI.out.2.2.1.cell _).trans hv
          have HV := Lib.hid hv; clear hv
          have H3 : Hid ((∃ xs ys, P3 wr 0 63 w.heap.size vs MI GI 20 gs (.slice A n cp) (.slice A n cp) wr.heap.size 0 xs ys) ∧ wr.ownsRow 0 29 1 u5 gs.length gs ∧ Blk wr B 29 vs ∧ But (S vs) w wr ∧ (∀ b, u5.ownBlock = some b → w.heap.size ≤ b)) :=
            ⟨(P3.begin HI.out.1 HI.out.2.2.2.2.1 HV.out).elim fun xs h => ⟨xs, [], h⟩, HI.out.2.1, HI.out.2.2.1, HI.out.2.2.2.1, HI.out.2.2.2.2.2⟩
          obtain ⟨HH, hHH⟩ : ∃ HH, HH = wr.heap.size := ⟨_, rfl⟩
          rw [← hHH] at H3
          clear hHH
          go_wp2
          clear HI hc
          go_loopg [7, 8] 20 (fun q v7 v8 wr' => ∃ k : Nat, q + k = 20 ∧ v8 = .int .i64 k ∧ Hid ((∃ xs ys, P3 wr' 0 63 w.heap.size vs MI GI 20 gs (.slice A n cp) v7 HH k xs ys) ∧ wr'.ownsRow 0 29 1 u5 gs.length gs ∧ Blk wr' B 29 vs ∧ But (S vs) w wr' ∧ (∀ b, u5.ownBlock = some b → w.heap.size ≤ b)))
          case atStart => exact ⟨0, by simp, rfl, H3⟩
          case round =>
            clear H3
            obtain ⟨k, hk, rfl, HK0⟩ := hrel
            obtain ⟨⟨xs3, ys3, hp3⟩, hk4⟩ := HK0.out
            have HK := Lib.hid (And.intro hp3 hk4)
            clear HK0 hp3 hk4
            by_cases hk20 : k < 20
            · have hbw' : 0 ≤ wr.heap.size := Nat.zero_le _
              go_wp2_with (first
                | (at_builtin; refine X.append1 rfl (.tmp 51) (.tmp 55) 29 63 rfl 0 _ 4 40 Try.underlying29 info63q rfl u7 (n + k) _ rfl HK.out.1.own [.string ⟨#[]⟩, .int .i64 0, .int .i64 0, .int .i64 (-100000 - (gs.length : Int))] rfl rfl ?_ ?_ ?_ hbw' ?_)
                | fail)
              · intro u hu; simp at hu; rcases hu with rfl | rfl | rfl <;> rfl
              · simp only [maxLen]; omega
              · omega
              · intro x' w1 ho ha
                try rw [← List.append_assoc] at ho
                have H4 : Hid ((∃ xs ys, P3 w1 0 63 w.heap.size vs MI GI 20 gs (.slice A n cp) x' HH (k + 1) xs ys) ∧ w1.ownsRow 0 29 1 u5 gs.length gs ∧ Blk w1 B 29 vs ∧ But (S vs) w w1 ∧ (∀ b, u5.ownBlock = some b → w.heap.size ≤ b)) := by
                  have hx := HK.out.1.own
                  refine ⟨⟨_, _, HK.out.1.step HV.out ho ha⟩, ha.keeps _ _ _ _ _ _ (HK.out.2.1.alloc _) ?_, ha.keeps_lt (HK.out.2.2.1.grown (World.grownBy_alloc _ _ none) (by simp)) ?_, ?_, HK.out.2.2.2.2⟩
                  · rcases own_type_ne HK.out.2.1 hx (by decide) with h1 | h1
                    · exact .inl h1
                    · exact .inr (.inl h1)
                  · intro e
                    obtain ⟨cells, hcs⟩ := own_typed hx B e.symm
                    exact HK.out.2.2.1.ne (show Blk wr B 63 cells.toList by simpa [Blk] using hcs) (by decide) rfl
                  · exact (HK.out.2.2.2.1.alloc _).grown ha.grown (fun b hb => HK.out.1.place.elim (fun hp => .inl ⟨_, List.mem_of_getElem? HV.out, hp.symm.trans hb⟩) (fun ⟨b', hp, hle⟩ => .inr (by rw [hp] at hb; have := HK.out.1.hH; have := Option.some.inj hb; omega)))
                clear ho ha
                go_wp2
                go_roundg (20 - (k + 1))
                case measure => omega
                case rel => exact ⟨k + 1, by omega, by go_num, H4⟩
            · obtain rfl : k = 20 := by omega
              have hbw' : 0 ≤ wr.heap.size := Nat.zero_le _
              obtain ⟨A', c', e7⟩ := Fr.own_form HK.out.1.own
              rw [slen_slice] at e7
              subst e7
              go_wp2_with (first
                | (at_builtin; refine X.append1 rfl (.tmp 57) (.tmp 59) 41 29 rfl 0 (.slice none 0 0) 1 24 Try.underlying41 info29 rfl u5 gs.length _ rfl HK.out.2.1 [(Value.slice A' (n + 20) c')] rfl rfl ?_ ?_ ?_ hbw' ?_)
                | fail)
              · intro u hu; simp at hu; subst hu; rfl
              · simp only [maxLen]; omega
              · omega
              · intro g' w1 ho ha
                have H4 : Hid (P2 w1 0 63 w.heap.size vs MI GI 20 (gs ++ [(Value.slice A' (n + 20) c')]) ∧ w1.ownsRow 0 29 1 g' (gs ++ [(Value.slice A' (n + 20) c')]).length (gs ++ [(Value.slice A' (n + 20) c')]) ∧ Blk w1 B 29 vs ∧ But (S vs) w w1 ∧ w.heap.size ≤ w1.heap.size ∧ (∀ b, g'.ownBlock = some b → w.heap.size ≤ b)) := by
                  have hsz := HK.out.2.2.2.1.size
                  have hd := (HK.out.1.done HV.out).keep (World.grownBy_alloc wr (.cells #[(Value.slice A' (n + 20) c')] 29) none) (fun _ _ _ u _ _ _ _ => by cases u.ownBlock <;> simp)
                  refine ⟨hd.keep ha.grown fun b e' sz u k ys he' hu => ?_, by rw [List.length_append, List.length_singleton]; exact ho, ha.keeps_lt (HK.out.2.2.1.grown (World.grownBy_alloc _ _ none) (by simp)) ?_, ?_, ?_, ?_⟩
                  · subst he'
                    exact own_type_ne hu (HK.out.2.1.alloc _) (by decide)
                  · intro e
                    have := HK.out.2.2.2.2 B e.symm
                    have := HB.out.lt
                    omega
                  · exact (HK.out.2.2.2.1.alloc _).grown ha.grown (fun b hb => .inr (HK.out.2.2.2.2 b hb))
                  · have := ha.grown.size
                    simp at this
                    omega
                  · intro b hb
                    rcases ha.place with hp | ⟨hp, _⟩
                    · exact HK.out.2.2.2.2 b (hp.symm.trans hb)
                    · rw [hp] at hb
                      simp at hb
                      omega
                clear ho ha
                go_wp2
                go_roundg (vs.length - (gs ++ [(Value.slice A' (n + 20) c')]).length)
                case measure => simp; omega
                case rel => exact ⟨gs ++ [(Value.slice A' (n + 20) c')], by simp; omega, by simp, H4⟩
        · have HN0 : Hid (gs.length = vs.length) := by show _ = _; omega
          go_wp2
          go_loopg [9, 10] vs.length (fun q vok v9 wr => ∃ i : Nat, q + i = vs.length ∧ vok = .bool true ∧ v9 = .int .i64 i ∧ Hid (P2 wr 0 63 w.heap.size vs MI GI 20 gs ∧ wr.ownsRow 0 29 1 u5 gs.length gs ∧ Blk wr B 29 vs ∧ But (S vs) w wr))
          case atStart => exact ⟨0, by simp, rfl, rfl, HI.out.1, HI.out.2.1, HI.out.2.2.1, HI.out.2.2.2.1⟩
          case round =>
            clear HI
            obtain ⟨i, hi, rfl, rfl, HI⟩ := hrel
            by_cases hlt : i < vs.length
            · have hN := HN0.out
              obtain ⟨v, hv⟩ : ∃ v, vs[i]? = some v := ⟨_, List.getElem?_eq_getElem hlt⟩
              obtain ⟨u, hu⟩ : ∃ u, gs[i]? = some u := ⟨_, List.getElem?_eq_getElem (by omega)⟩
              obtain ⟨zs, hfull, hzm⟩ := HI.out.1.full i v hv
              obtain ⟨⟨xs, ys, hgrew, hxl, hxm, hym⟩, _⟩ := HI.out.1.grew i v u hv hu
              obtain ⟨A, n, cp, rfl⟩ := own_form' hfull
              rw [slen_slice] at hgrew hfull hzm hxl hxm
              obtain ⟨A', cu, rfl⟩ := Fr.own_form hgrew
              obtain ⟨ga, rfl, _, cur, hcur, hcl, hct⟩ := Fr.own_some hgrew (by omega)
              obtain ⟨Ag, cg, e5⟩ := Fr.own_form HI.out.2.1
              obtain ⟨gb, eg, _, gcur, hgcur, hgl, hgt⟩ := Fr.own_some (e5 ▸ HI.out.2.1) (by omega)
              subst e5
              subst eg
              have hsl : n ≤ 4000000 := HS.out _ (List.mem_of_getElem? hv)
              have hc : wr.cell? ⟨B, i, none⟩ = some (.slice A n cp) := (HI.out.2.2.1.cell _).trans hv
              have hg : wr.cell? ⟨gb, i, none⟩ = some (.slice (some ⟨ga, 0, none⟩) (n + 20) cu) := by
                rw [hgcur.cell, ← hu, ← hgt, List.getElem?_take, if_pos (by omega)]
              have HX : ∀ k, k < n + 20 → wr.cell? ⟨ga, k * 4 + 3, none⟩ = some (if k < n then MI i else GI i) := by
                intro k hk
                rw [hcur.cell]
                have h1 : (cur.take ((n + 20) * 4))[k * 4 + 3]? = cur[k * 4 + 3]? := by rw [List.getElem?_take, if_pos (by omega)]
                rw [← h1, hct]
                by_cases hkn : k < n
                · rw [if_pos hkn, List.getElem?_append_left (by omega)]
                  exact hxm k hkn
                · rw [if_neg hkn, List.getElem?_append_right (by omega), hxl, show k * 4 + 3 - n * 4 = (k - n) * 4 + 3 by omega]
                  exact hym (k - n) (by omega)
              have HY : ∀ k, k < n → ∃ g0, A = some ⟨g0, 0, none⟩ ∧ wr.cell? ⟨g0, k * 4 + 3, none⟩ = some (MI i) := by
                intro k hk
                obtain ⟨g0, e0, _, cur0, hcur0, hcl0, hct0⟩ := Fr.own_some hfull (by omega)
                refine ⟨g0, e0, ?_⟩
                have h1 : (cur0.take (n * 4))[k * 4 + 3]? = cur0[k * 4 + 3]? := by rw [List.getElem?_take, if_pos (by omega)]
                rw [hcur0.cell, ← h1, hct0]
                exact hzm k hk
              have HX' := Lib.hid HX; clear HX
              have HY' := Lib.hid HY; clear HY
              clear hv hu hfull hgrew hcur hcl hct hgcur hgl hgt hzm hxl hxm hym
              clear hN
              clear HN0
              go_wp2
              go_loopg [9, 11] (n + 20) (fun q vok v10 wr' => ∃ k : Nat, q + k = n + 20 ∧ vok = .bool true ∧ v10 = .int .i64 k ∧ wr' = wr)
              case atStart => exact ⟨0, by simp, rfl, rfl, rfl⟩
              case round =>
                obtain ⟨k, hk, rfl, rfl, rfl⟩ := hrel
                by_cases hk20 : k < n + 20
                · have hx := HX'.out k hk20
                  by_cases hkn : k < n
                  · rw [if_pos hkn] at hx
                    have hx' : wr.cell? ⟨ga, k * 4 + 3, none⟩ = some (.int .i64 (-1 - (i : Int))) := hx
                    obtain ⟨g0, rfl, hy⟩ := HY'.out k hkn
                    have hy' : wr.cell? ⟨g0, k * 4 + 3, none⟩ = some (.int .i64 (-1 - (i : Int))) := hy
                    have hge : ¬ (n : Int) ≤ (k : Int) := by omega
                    clear hx hy
                    go_wp2
                    go_roundg (n + 20 - (k + 1))
                    case measure => omega
                    case rel => exact ⟨k + 1, by omega, by first | rfl | simp, by go_num, rfl⟩
                  · rw [if_neg hkn] at hx
                    have hx' : wr.cell? ⟨ga, k * 4 + 3, none⟩ = some (.int .i64 (-100000 - (i : Int))) := hx
                    have hge : (n : Int) ≤ (k : Int) := by omega
                    clear hx
                    go_wp2
                    go_roundg (n + 20 - (k + 1))
                    case measure => omega
                    case rel => exact ⟨k + 1, by omega, by first | rfl | simp, by go_num, rfl⟩
                · go_wp2
                  go_roundg (vs.length - (i + 1))
                  case measure => omega
                  case rel => exact ⟨i + 1, by omega, rfl, by go_num, HI.out⟩
            · go_wp2
              go_ret
              exact ⟨rfl, HI.out.2.2.2⟩
end Go.Proofs.Ytmpkkphohilkoaa.B
