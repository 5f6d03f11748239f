/- Texts joined and shortened (wip/tools/shrink.py): Fx6. -/
import Derived.Test.YtmpkkphohilkoaaDoorQu9
import Derived.Test.YtmpkkphohilkoaaDoorQu2
import Derived.Test.YtmpkkphohilkoaaDoorQu8
namespace Go.Proofs.YtmpkkphohilkoaaDoor.F
open Go.RowKit Go.Proofs.YtmpkkphohilkoaaDoorW.PrintWords Go.Proofs.YtmpkkphohilkoaaDoorW.PrintLast Go.Proofs.YtmpkkphohilkoaaDoorW.PrintMore
attribute [local go_sem] max2_int min2_int max_two min_two max_three min_three max_four min_four   -- for this text's walks alone
set_option linter.unusedVariables false
set_option linter.unusedSimpArgs false

attribute [local go_sem high] eqA47
/-! ### core_right: function 26 -/
mutual
def core_right.l0 : Nat → Int → Int → List (S47) → Int → Int → Option (Bool)
  | 0, _, _, _, _, _ => none
  | k + 1, x1, x5, x11, x12, x13 => if x13 < x12 then (if 0 ≤ x13 then (if x13 < (x11.length : Int) then ((core_arity.f k ((rd_T47 x11 x13).f0)).bind fun t116 => (if t116 ≤ x5 then (if ((rd_T47 x11 x13).f0) ≥ 0 then (core_right.j1 k x1 x5 t116 (decide (((rd_T47 x11 x13).f0) ≤ 8)) x11 x12 x13 ((rd_T47 x11 x13).f0) ((rd_T47 x11 x13).f1.f0) ((rd_T47 x11 x13).f1.f1) ((rd_T47 x11 x13).f1.f2) ((rd_T47 x11 x13).f1.f3) ((rd_T47 x11 x13).f2) ((rd_T47 x11 x13).f3) ((rd_T47 x11 x13).f0) 0 0 0 0 0 (⟨#[]⟩ : ByteArray)) else (core_right.j1 k x1 x5 t116 false x11 x12 x13 ((rd_T47 x11 x13).f0) ((rd_T47 x11 x13).f1.f0) ((rd_T47 x11 x13).f1.f1) ((rd_T47 x11 x13).f1.f2) ((rd_T47 x11 x13).f1.f3) ((rd_T47 x11 x13).f2) ((rd_T47 x11 x13).f3) ((rd_T47 x11 x13).f0) 0 0 0 0 0 (⟨#[]⟩ : ByteArray))) else (core_right.j1 k x1 x5 t116 false x11 x12 x13 ((rd_T47 x11 x13).f0) ((rd_T47 x11 x13).f1.f0) ((rd_T47 x11 x13).f1.f1) ((rd_T47 x11 x13).f1.f2) ((rd_T47 x11 x13).f1.f3) ((rd_T47 x11 x13).f2) ((rd_T47 x11 x13).f3) ((rd_T47 x11 x13).f0) 0 0 0 0 0 (⟨#[]⟩ : ByteArray)))) else (none)) else (none)) else (some (x5 == 1))
def core_right.j1 : Nat → Int → Int → Int → Bool → List (S47) → Int → Int → Int → Int → Int → Int → Int → Int → ByteArray → Int → Int → Int → Int → Int → Int → ByteArray → Option (Bool)
  | 0, _, _, _, _, _, _, _, _, _, _, _, _, _, _, _, _, _, _, _, _, _ => none
  | k + 1, x1, x5, x8, x10, x11, x12, x13, x116000, x116001, x116002, x116003, x116004, x116005, x116006, x118000, x118001, x118002, x118003, x118004, x118005, x118006 => if x116000 = 1 then (if x10 = true then (if (!(x116000 == x118000) || (!(x116005 == x118005) || (!(x116006.toList == x118006.toList)))) = true then (some false) else (core_right.l0 k x1 (wrap64 (x5 + (wrap64 (1 - x8)))) x11 x12 (wrap64 (x13 + 1)))) else (some false)) else (if x116000 = 2 then (if x10 = true then (if x116005 ≥ 0 then (if x116005 < x1 then (if (!(x116000 == x118000) || ((!(x116001 == x118001) || (!(x116002 == x118002) || (!(x116003 == x118003) || (!(x116004 == x118004))))) || (!(x116006.toList == x118006.toList)))) = true then (some false) else (core_right.l0 k x1 (wrap64 (x5 + (wrap64 (1 - x8)))) x11 x12 (wrap64 (x13 + 1)))) else (some false)) else (some false)) else (some false)) else (if x116000 = 3 then (core_right.j2 k x1 x5 x8 x10 x11 x12 x13 (x116000 == 3) x116000 x116001 x116002 x116003 x116004 x116005 x116006 x118000 x118001 x118002 x118003 x118004 x118005 x118006) else (core_right.j2 k x1 x5 x8 x10 x11 x12 x13 (x116000 == 8) x116000 x116001 x116002 x116003 x116004 x116005 x116006 x118000 x118001 x118002 x118003 x118004 x118005 x118006)))
def core_right.j2 : Nat → Int → Int → Int → Bool → List (S47) → Int → Int → Bool → Int → Int → Int → Int → Int → Int → ByteArray → Int → Int → Int → Int → Int → Int → ByteArray → Option (Bool)
  | 0, _, _, _, _, _, _, _, _, _, _, _, _, _, _, _, _, _, _, _, _, _, _ => none
  | k + 1, x1, x5, x8, x10, x11, x12, x13, x60, x116000, x116001, x116002, x116003, x116004, x116005, x116006, x118000, x118001, x118002, x118003, x118004, x118005, x118006 => if x60 = true then (if x10 = true then ((lexis_Name.f x116006).bind fun t118 => (if t118 = true then ((strings_ContainsAny.f x116006 (⟨#[58, 126]⟩ : ByteArray)).bind fun t119 => (if t119 = true then (some false) else (if (!(x116000 == x118000) || ((!(x116001 == x118001) || (!(x116002 == x118002) || (!(x116003 == x118003) || (!(x116004 == x118004))))) || (!(x116005 == x118005)))) = true then (some false) else (core_right.l0 k x1 (wrap64 (x5 + (wrap64 (1 - x8)))) x11 x12 (wrap64 (x13 + 1)))))) else (some false))) else (some false)) else (if x10 = true then (if (!(x116000 == x118000) || ((!(x116001 == x118001) || (!(x116002 == x118002) || (!(x116003 == x118003) || (!(x116004 == x118004))))) || (!(x116005 == x118005) || (!(x116006.toList == x118006.toList))))) = true then (some false) else (core_right.l0 k x1 (wrap64 (x5 + (wrap64 (1 - x8)))) x11 x12 (wrap64 (x13 + 1)))) else (some false))
end
def core_right.f (k : Nat) (l0 : List (S47)) (a1 : Int) : Option (Bool) := core_right.l0 k a1 0 l0 (l0.length : Int) 0
set_option maxHeartbeats 8000000 in
set_option maxRecDepth 100000 in
theorem core_right.calls (k : Nat) (A0 : Option Addr) (c0 : Nat) (l0 : List (S47)) (a1 : Int) (r : Bool) (w : World) (hr0 : Kd.C k47 w A0 l0.length l0) (hc0 : l0.length ≤ c0) (h : core_right.f k l0 a1 = some r) :
    Calls Tryd.prog 26 #[.slice A0 l0.length c0, .int .i64 a1] w fun e w' => e = .returned (.bool r) ∧ Below w.heap.size w w' := by
  have hu47 := Tryd.underlying47
  have hu45 := Tryd.underlying45
  have HR0 := Aside0.mk hr0
  have HC0 := Aside0.mk hc0
  clear hr0 hc0
  have HB := Aside0.mk (Below.refl w.heap.size w)
  have H : (core_right.l0 k a1 0 l0 (l0.length : Int) 0) = some r := h
  clear h
  have H' := Aside0.mk H
  clear H
  go_enter Tryd.func26, Tryd.ntmps26
  go_wp2
  go_loopg [5, 13] k (fun kq v5 v13 w' => ∃ (x5_1 : Int) (x13_1 : Int), v5 = .int .i64 x5_1 ∧ v13 = .int .i64 x13_1 ∧ Aside0 (core_right.l0 kq a1 x5_1 l0 (l0.length : Int) x13_1 = some r) ∧ Aside0 (kq ≤ k) ∧ Aside0 (Below w.heap.size w w'))
  case atStart => exact ⟨(0), (0), (by first | rfl | (simp; done) | (simp [*]; done)), (by first | rfl | (simp; done) | (simp [*]; done)), H', ⟨Nat.le_refl _⟩, ⟨by repeat (first | (with_reducible first | exact HB.out | apply below_alloc | apply pw_below_drewN | apply below_drew1) | exact HB.out)⟩⟩
  case round =>
    clear H'
    try clear c2
    try clear p2
    obtain ⟨x5_1, x13_1, rfl, rfl, HA, HK1, HB⟩ := hrel
    cases gk with
    | zero => exact absurd HA.out (by simp [core_right.l0])
    | succ k1 =>
      have H := HA.out
      clear HA
      simp only [core_right.l0] at H
      by_cases c3 : x13_1 < (l0.length : Int)
      · rw [if_pos c3] at H
        have c3b0 : decide (x13_1 < (l0.length : Int)) = true := decide_eq_true c3
        clear c3
        by_cases c4 : 0 ≤ x13_1
        · rw [if_pos c4] at H
          have c4b0 : decide (0 ≤ x13_1) = true := decide_eq_true c4
          clear c4
          by_cases c5 : x13_1 < (l0.length : Int)
          · rw [if_pos c5] at H
            have c5b0 : decide (x13_1 < (l0.length : Int)) = true := decide_eq_true c5
            clear c5
            replace H := Option.bind_eq_some_iff.mp H
            obtain ⟨t116, A60, H⟩ := H
            replace H : (if t116 ≤ x5_1 then (if ((rd_T47 l0 x13_1).f0) ≥ 0 then (core_right.j1 k1 a1 x5_1 t116 (decide (((rd_T47 l0 x13_1).f0) ≤ 8)) l0 (l0.length : Int) x13_1 ((rd_T47 l0 x13_1).f0) ((rd_T47 l0 x13_1).f1.f0) ((rd_T47 l0 x13_1).f1.f1) ((rd_T47 l0 x13_1).f1.f2) ((rd_T47 l0 x13_1).f1.f3) ((rd_T47 l0 x13_1).f2) ((rd_T47 l0 x13_1).f3) ((rd_T47 l0 x13_1).f0) 0 0 0 0 0 (⟨#[]⟩ : ByteArray)) else (core_right.j1 k1 a1 x5_1 t116 false l0 (l0.length : Int) x13_1 ((rd_T47 l0 x13_1).f0) ((rd_T47 l0 x13_1).f1.f0) ((rd_T47 l0 x13_1).f1.f1) ((rd_T47 l0 x13_1).f1.f2) ((rd_T47 l0 x13_1).f1.f3) ((rd_T47 l0 x13_1).f2) ((rd_T47 l0 x13_1).f3) ((rd_T47 l0 x13_1).f0) 0 0 0 0 0 (⟨#[]⟩ : ByteArray))) else (core_right.j1 k1 a1 x5_1 t116 false l0 (l0.length : Int) x13_1 ((rd_T47 l0 x13_1).f0) ((rd_T47 l0 x13_1).f1.f0) ((rd_T47 l0 x13_1).f1.f1) ((rd_T47 l0 x13_1).f1.f2) ((rd_T47 l0 x13_1).f1.f3) ((rd_T47 l0 x13_1).f2) ((rd_T47 l0 x13_1).f3) ((rd_T47 l0 x13_1).f0) 0 0 0 0 0 (⟨#[]⟩ : ByteArray))) = some r := H
            have A6 := Aside0.mk A60
            clear A60
            have HC7 := Aside0.mk H
            clear H
            have p114 : 0 ≤ (x13_1 : Int) := of_decide_eq_true (by first | (with_reducible assumption) | assumption)
            have q114 : x13_1 < (l0.length : Int) := of_decide_eq_true (by first | (with_reducible assumption) | assumption)
            obtain ⟨ad114, e114, hx114_0, hx114_1, hx114_2, hx114_3, hx114_4, hx114_5, hx114_6⟩ := at_T47 HR0.out x13_1 p114 q114
            cases e114
            replace hx114_0 := (HB.out.cell (World.block_lt_of_cell? w _ hx114_0)).trans hx114_0
            replace hx114_1 := (HB.out.cell (World.block_lt_of_cell? w _ hx114_1)).trans hx114_1
            replace hx114_2 := (HB.out.cell (World.block_lt_of_cell? w _ hx114_2)).trans hx114_2
            replace hx114_3 := (HB.out.cell (World.block_lt_of_cell? w _ hx114_3)).trans hx114_3
            replace hx114_4 := (HB.out.cell (World.block_lt_of_cell? w _ hx114_4)).trans hx114_4
            replace hx114_5 := (HB.out.cell (World.block_lt_of_cell? w _ hx114_5)).trans hx114_5
            replace hx114_6 := (HB.out.cell (World.block_lt_of_cell? w _ hx114_6)).trans hx114_6
            replace p114 := eq_true p114
            replace q114 := eq_true q114
            go_upto_region 7 with (first | ((with_reducible refine gate_dst (N := 7) rfl ?_); refine box_event ?hg (N := 7) ?hd (cs := #[.int .i64 0, .int .u64 0, .int .u64 0, .int .u64 0, .int .u64 0, .int .i64 0, .string (⟨#[]⟩ : ByteArray)]) (t := 47) ?hr ?_; (case hd => rfl); (case hg => rfl); (case hr => first | (go_simp; done) | (go_simp; rfl)); intro gb115 hg w8 hbox hb; have n0_ := Aside0.mk (below_step (by repeat (first | (with_reducible first | exact HB.out | apply below_alloc | apply pw_below_drewN | apply below_drew1) | exact HB.out)) hb); have n1_ := Aside0.mk (hbox); have n2_ := Aside0.mk ((by rw [hg]; exact (below_size (by repeat (first | (with_reducible first | exact HB.out | apply below_alloc | apply pw_below_drewN | apply below_drew1) | exact HB.out))) : w.heap.size ≤ gb115)); have n3_ := Aside0.mk ((by rw [hg]; exact (below_size (by repeat (first | (with_reducible first | exact HB.out | apply below_alloc | apply pw_below_drewN | apply below_drew1) | exact HB.out))) : w.heap.size ≤ gb115)); clear HB; have HB := n0_; have BK115 := n1_; have GW115 := n2_; have GE115 := n3_; clear n0_ n1_ n2_ n3_; clear hb hbox hg; have hcz9_0 : w8.cell? ⟨gb115, 0, none⟩ = some (.int .i64 0) := (blk_cell BK115.out 0).trans rfl; have hcz9_1 : w8.cell? ⟨gb115, 1, none⟩ = some (.int .u64 0) := (blk_cell BK115.out 1).trans rfl; have hcz9_2 : w8.cell? ⟨gb115, 2, none⟩ = some (.int .u64 0) := (blk_cell BK115.out 2).trans rfl; have hcz9_3 : w8.cell? ⟨gb115, 3, none⟩ = some (.int .u64 0) := (blk_cell BK115.out 3).trans rfl; have hcz9_4 : w8.cell? ⟨gb115, 4, none⟩ = some (.int .u64 0) := (blk_cell BK115.out 4).trans rfl; have hcz9_5 : w8.cell? ⟨gb115, 5, none⟩ = some (.int .i64 0) := (blk_cell BK115.out 5).trans rfl; have hcz9_6 : w8.cell? ⟨gb115, 6, none⟩ = some (.string (⟨#[]⟩ : ByteArray)) := (blk_cell BK115.out 6).trans rfl; have hfz9_0 := blk_frozen BK115.out 0; have hfz9_1 := blk_frozen BK115.out 1; have hfz9_2 := blk_frozen BK115.out 2; have hfz9_3 := blk_frozen BK115.out 3; have hfz9_4 := blk_frozen BK115.out 4; have hfz9_5 := blk_frozen BK115.out 5; have hfz9_6 := blk_frozen BK115.out 6) | ((with_reducible refine gate_callee (f := 35) rfl ?_); refine goesL_ (some 19) rfl rfl Tryd.func35 (by kernel_rfl) rfl #[.int .i64 ((rd_T47 l0 x13_1).f0)] rfl (by (try simp only [List.map_toArray, List.map_cons, List.map_nil]); first | done | rfl | (simp only [List.length_drop, List.length_take]; rfl)) ?_; (with_reducible refine (core_arity.calls k1 ((rd_T47 l0 x13_1).f0) t116 _ A6.out).mono ?_); rintro e w' ⟨rfl, ⟨nd, rfl⟩⟩; refine ⟨_, rfl, ?_⟩) | ((with_reducible refine gate_dst (N := 9) rfl ?_); refine box_event ?hg (N := 9) ?hd (cs := #[.int .i64 0, .int .u64 0, .int .u64 0, .int .u64 0, .int .u64 0, .int .i64 0, .string (⟨#[]⟩ : ByteArray)]) (t := 47) ?hr ?_; (case hd => rfl); (case hg => rfl); (case hr => first | (go_simp; done) | (go_simp; rfl)); intro gb117 hg w10 hbox hb; have n0_ := Aside0.mk (blk_below (g := gb115) (o := .cells #[.int .i64 ((rd_T47 l0 x13_1).f0), .int .u64 ((rd_T47 l0 x13_1).f1.f0), .int .u64 ((rd_T47 l0 x13_1).f1.f1), .int .u64 ((rd_T47 l0 x13_1).f1.f2), .int .u64 ((rd_T47 l0 x13_1).f1.f3), .int .i64 ((rd_T47 l0 x13_1).f2), .string ((rd_T47 l0 x13_1).f3)] 47 (0, 0)) (by (with_reducible repeat (first | refine blk_drewN ?_ _ | refine blk_drew ?_ | refine blk_alloc ?_ _)); refine blk_put (cs := #[.int .i64 ((rd_T47 l0 x13_1).f0), .int .u64 ((rd_T47 l0 x13_1).f1.f0), .int .u64 ((rd_T47 l0 x13_1).f1.f1), .int .u64 ((rd_T47 l0 x13_1).f1.f2), .int .u64 ((rd_T47 l0 x13_1).f1.f3), .int .i64 ((rd_T47 l0 x13_1).f2), .string (⟨#[]⟩ : ByteArray)]) ?_ 6 _ rfl; (with_reducible repeat (first | refine blk_drewN ?_ _ | refine blk_drew ?_ | refine blk_alloc ?_ _)); refine blk_put (cs := #[.int .i64 ((rd_T47 l0 x13_1).f0), .int .u64 ((rd_T47 l0 x13_1).f1.f0), .int .u64 ((rd_T47 l0 x13_1).f1.f1), .int .u64 ((rd_T47 l0 x13_1).f1.f2), .int .u64 ((rd_T47 l0 x13_1).f1.f3), .int .i64 0, .string (⟨#[]⟩ : ByteArray)]) ?_ 5 _ rfl; (with_reducible repeat (first | refine blk_drewN ?_ _ | refine blk_drew ?_ | refine blk_alloc ?_ _)); refine blk_put (cs := #[.int .i64 ((rd_T47 l0 x13_1).f0), .int .u64 ((rd_T47 l0 x13_1).f1.f0), .int .u64 ((rd_T47 l0 x13_1).f1.f1), .int .u64 ((rd_T47 l0 x13_1).f1.f2), .int .u64 0, .int .i64 0, .string (⟨#[]⟩ : ByteArray)]) ?_ 4 _ rfl; (with_reducible repeat (first | refine blk_drewN ?_ _ | refine blk_drew ?_ | refine blk_alloc ?_ _)); refine blk_put (cs := #[.int .i64 ((rd_T47 l0 x13_1).f0), .int .u64 ((rd_T47 l0 x13_1).f1.f0), .int .u64 ((rd_T47 l0 x13_1).f1.f1), .int .u64 0, .int .u64 0, .int .i64 0, .string (⟨#[]⟩ : ByteArray)]) ?_ 3 _ rfl; (with_reducible repeat (first | refine blk_drewN ?_ _ | refine blk_drew ?_ | refine blk_alloc ?_ _)); refine blk_put (cs := #[.int .i64 ((rd_T47 l0 x13_1).f0), .int .u64 ((rd_T47 l0 x13_1).f1.f0), .int .u64 0, .int .u64 0, .int .u64 0, .int .i64 0, .string (⟨#[]⟩ : ByteArray)]) ?_ 2 _ rfl; (with_reducible repeat (first | refine blk_drewN ?_ _ | refine blk_drew ?_ | refine blk_alloc ?_ _)); refine blk_put (cs := #[.int .i64 ((rd_T47 l0 x13_1).f0), .int .u64 0, .int .u64 0, .int .u64 0, .int .u64 0, .int .i64 0, .string (⟨#[]⟩ : ByteArray)]) ?_ 1 _ rfl; (with_reducible repeat (first | refine blk_drewN ?_ _ | refine blk_drew ?_ | refine blk_alloc ?_ _)); refine blk_put (cs := #[.int .i64 0, .int .u64 0, .int .u64 0, .int .u64 0, .int .u64 0, .int .i64 0, .string (⟨#[]⟩ : ByteArray)]) ?_ 0 _ rfl; (with_reducible repeat (first | refine blk_drewN ?_ _ | refine blk_drew ?_ | refine blk_alloc ?_ _)); exact BK115.out) hb); have n1_ := Aside0.mk (below_step (by repeat (first | (with_reducible first | exact HB.out | apply below_alloc | apply pw_below_drewN | apply below_drew1 | refine below_set ?_ GE115.out) | exact HB.out)) hb); have n2_ := Aside0.mk (hbox); have n3_ := Aside0.mk ((by rw [hg]; exact (below_size (by repeat (first | (with_reducible first | exact HB.out | apply below_alloc | apply pw_below_drewN | apply below_drew1 | refine below_set ?_ GE115.out) | exact HB.out))) : w.heap.size ≤ gb117)); have n4_ := Aside0.mk ((by rw [hg]; exact (below_size (by repeat (first | (with_reducible first | exact HB.out | apply below_alloc | apply pw_below_drewN | apply below_drew1 | refine below_set ?_ GE115.out) | exact HB.out))) : w.heap.size ≤ gb117)); have n5_ := Aside0.mk ((by rw [hg]; exact Nat.ne_of_lt (blk_lt (g := gb115) (o := .cells #[.int .i64 ((rd_T47 l0 x13_1).f0), .int .u64 ((rd_T47 l0 x13_1).f1.f0), .int .u64 ((rd_T47 l0 x13_1).f1.f1), .int .u64 ((rd_T47 l0 x13_1).f1.f2), .int .u64 ((rd_T47 l0 x13_1).f1.f3), .int .i64 ((rd_T47 l0 x13_1).f2), .string ((rd_T47 l0 x13_1).f3)] 47 (0, 0)) (by (with_reducible repeat (first | refine blk_drewN ?_ _ | refine blk_drew ?_ | refine blk_alloc ?_ _)); refine blk_put (cs := #[.int .i64 ((rd_T47 l0 x13_1).f0), .int .u64 ((rd_T47 l0 x13_1).f1.f0), .int .u64 ((rd_T47 l0 x13_1).f1.f1), .int .u64 ((rd_T47 l0 x13_1).f1.f2), .int .u64 ((rd_T47 l0 x13_1).f1.f3), .int .i64 ((rd_T47 l0 x13_1).f2), .string (⟨#[]⟩ : ByteArray)]) ?_ 6 _ rfl; (with_reducible repeat (first | refine blk_drewN ?_ _ | refine blk_drew ?_ | refine blk_alloc ?_ _)); refine blk_put (cs := #[.int .i64 ((rd_T47 l0 x13_1).f0), .int .u64 ((rd_T47 l0 x13_1).f1.f0), .int .u64 ((rd_T47 l0 x13_1).f1.f1), .int .u64 ((rd_T47 l0 x13_1).f1.f2), .int .u64 ((rd_T47 l0 x13_1).f1.f3), .int .i64 0, .string (⟨#[]⟩ : ByteArray)]) ?_ 5 _ rfl; (with_reducible repeat (first | refine blk_drewN ?_ _ | refine blk_drew ?_ | refine blk_alloc ?_ _)); refine blk_put (cs := #[.int .i64 ((rd_T47 l0 x13_1).f0), .int .u64 ((rd_T47 l0 x13_1).f1.f0), .int .u64 ((rd_T47 l0 x13_1).f1.f1), .int .u64 ((rd_T47 l0 x13_1).f1.f2), .int .u64 0, .int .i64 0, .string (⟨#[]⟩ : ByteArray)]) ?_ 4 _ rfl; (with_reducible repeat (first | refine blk_drewN ?_ _ | refine blk_drew ?_ | refine blk_alloc ?_ _)); refine blk_put (cs := #[.int .i64 ((rd_T47 l0 x13_1).f0), .int .u64 ((rd_T47 l0 x13_1).f1.f0), .int .u64 ((rd_T47 l0 x13_1).f1.f1), .int .u64 0, .int .u64 0, .int .i64 0, .string (⟨#[]⟩ : ByteArray)]) ?_ 3 _ rfl; (with_reducible repeat (first | refine blk_drewN ?_ _ | refine blk_drew ?_ | refine blk_alloc ?_ _)); refine blk_put (cs := #[.int .i64 ((rd_T47 l0 x13_1).f0), .int .u64 ((rd_T47 l0 x13_1).f1.f0), .int .u64 0, .int .u64 0, .int .u64 0, .int .i64 0, .string (⟨#[]⟩ : ByteArray)]) ?_ 2 _ rfl; (with_reducible repeat (first | refine blk_drewN ?_ _ | refine blk_drew ?_ | refine blk_alloc ?_ _)); refine blk_put (cs := #[.int .i64 ((rd_T47 l0 x13_1).f0), .int .u64 0, .int .u64 0, .int .u64 0, .int .u64 0, .int .i64 0, .string (⟨#[]⟩ : ByteArray)]) ?_ 1 _ rfl; (with_reducible repeat (first | refine blk_drewN ?_ _ | refine blk_drew ?_ | refine blk_alloc ?_ _)); refine blk_put (cs := #[.int .i64 0, .int .u64 0, .int .u64 0, .int .u64 0, .int .u64 0, .int .i64 0, .string (⟨#[]⟩ : ByteArray)]) ?_ 0 _ rfl; (with_reducible repeat (first | refine blk_drewN ?_ _ | refine blk_drew ?_ | refine blk_alloc ?_ _)); exact BK115.out)) : gb115 ≠ gb117)); have n6_ := Aside0.mk ((by rw [hg]; exact Nat.ne_of_gt (blk_lt (g := gb115) (o := .cells #[.int .i64 ((rd_T47 l0 x13_1).f0), .int .u64 ((rd_T47 l0 x13_1).f1.f0), .int .u64 ((rd_T47 l0 x13_1).f1.f1), .int .u64 ((rd_T47 l0 x13_1).f1.f2), .int .u64 ((rd_T47 l0 x13_1).f1.f3), .int .i64 ((rd_T47 l0 x13_1).f2), .string ((rd_T47 l0 x13_1).f3)] 47 (0, 0)) (by (with_reducible repeat (first | refine blk_drewN ?_ _ | refine blk_drew ?_ | refine blk_alloc ?_ _)); refine blk_put (cs := #[.int .i64 ((rd_T47 l0 x13_1).f0), .int .u64 ((rd_T47 l0 x13_1).f1.f0), .int .u64 ((rd_T47 l0 x13_1).f1.f1), .int .u64 ((rd_T47 l0 x13_1).f1.f2), .int .u64 ((rd_T47 l0 x13_1).f1.f3), .int .i64 ((rd_T47 l0 x13_1).f2), .string (⟨#[]⟩ : ByteArray)]) ?_ 6 _ rfl; (with_reducible repeat (first | refine blk_drewN ?_ _ | refine blk_drew ?_ | refine blk_alloc ?_ _)); refine blk_put (cs := #[.int .i64 ((rd_T47 l0 x13_1).f0), .int .u64 ((rd_T47 l0 x13_1).f1.f0), .int .u64 ((rd_T47 l0 x13_1).f1.f1), .int .u64 ((rd_T47 l0 x13_1).f1.f2), .int .u64 ((rd_T47 l0 x13_1).f1.f3), .int .i64 0, .string (⟨#[]⟩ : ByteArray)]) ?_ 5 _ rfl; (with_reducible repeat (first | refine blk_drewN ?_ _ | refine blk_drew ?_ | refine blk_alloc ?_ _)); refine blk_put (cs := #[.int .i64 ((rd_T47 l0 x13_1).f0), .int .u64 ((rd_T47 l0 x13_1).f1.f0), .int .u64 ((rd_T47 l0 x13_1).f1.f1), .int .u64 ((rd_T47 l0 x13_1).f1.f2), .int .u64 0, .int .i64 0, .string (⟨#[]⟩ : ByteArray)]) ?_ 4 _ rfl; (with_reducible repeat (first | refine blk_drewN ?_ _ | refine blk_drew ?_ | refine blk_alloc ?_ _)); refine blk_put (cs := #[.int .i64 ((rd_T47 l0 x13_1).f0), .int .u64 ((rd_T47 l0 x13_1).f1.f0), .int .u64 ((rd_T47 l0 x13_1).f1.f1), .int .u64 0, .int .u64 0, .int .i64 0, .string (⟨#[]⟩ : ByteArray)]) ?_ 3 _ rfl; (with_reducible repeat (first | refine blk_drewN ?_ _ | refine blk_drew ?_ | refine blk_alloc ?_ _)); refine blk_put (cs := #[.int .i64 ((rd_T47 l0 x13_1).f0), .int .u64 ((rd_T47 l0 x13_1).f1.f0), .int .u64 0, .int .u64 0, .int .u64 0, .int .i64 0, .string (⟨#[]⟩ : ByteArray)]) ?_ 2 _ rfl; (with_reducible repeat (first | refine blk_drewN ?_ _ | refine blk_drew ?_ | refine blk_alloc ?_ _)); refine blk_put (cs := #[.int .i64 ((rd_T47 l0 x13_1).f0), .int .u64 0, .int .u64 0, .int .u64 0, .int .u64 0, .int .i64 0, .string (⟨#[]⟩ : ByteArray)]) ?_ 1 _ rfl; (with_reducible repeat (first | refine blk_drewN ?_ _ | refine blk_drew ?_ | refine blk_alloc ?_ _)); refine blk_put (cs := #[.int .i64 0, .int .u64 0, .int .u64 0, .int .u64 0, .int .u64 0, .int .i64 0, .string (⟨#[]⟩ : ByteArray)]) ?_ 0 _ rfl; (with_reducible repeat (first | refine blk_drewN ?_ _ | refine blk_drew ?_ | refine blk_alloc ?_ _)); exact BK115.out)) : gb117 ≠ gb115)); clear BK115; clear HB; have BK115 := n0_; have HB := n1_; have BK117 := n2_; have GW117 := n3_; have GE117 := n4_; have NB115_117 := n5_; have NB117_115 := n6_; clear n0_ n1_ n2_ n3_ n4_ n5_ n6_; clear hb hbox hg; have hnb11 := NB117_115.out; have hnc11 := NB115_117.out; have hcz12_0 : w10.cell? ⟨gb117, 0, none⟩ = some (.int .i64 0) := (blk_cell BK117.out 0).trans rfl; have hcz12_1 : w10.cell? ⟨gb117, 1, none⟩ = some (.int .u64 0) := (blk_cell BK117.out 1).trans rfl; have hcz12_2 : w10.cell? ⟨gb117, 2, none⟩ = some (.int .u64 0) := (blk_cell BK117.out 2).trans rfl; have hcz12_3 : w10.cell? ⟨gb117, 3, none⟩ = some (.int .u64 0) := (blk_cell BK117.out 3).trans rfl; have hcz12_4 : w10.cell? ⟨gb117, 4, none⟩ = some (.int .u64 0) := (blk_cell BK117.out 4).trans rfl; have hcz12_5 : w10.cell? ⟨gb117, 5, none⟩ = some (.int .i64 0) := (blk_cell BK117.out 5).trans rfl; have hcz12_6 : w10.cell? ⟨gb117, 6, none⟩ = some (.string (⟨#[]⟩ : ByteArray)) := (blk_cell BK117.out 6).trans rfl; have hfz12_0 := blk_frozen BK117.out 0; have hfz12_1 := blk_frozen BK117.out 1; have hfz12_2 := blk_frozen BK117.out 2; have hfz12_3 := blk_frozen BK117.out 3; have hfz12_4 := blk_frozen BK117.out 4; have hfz12_5 := blk_frozen BK117.out 5; have hfz12_6 := blk_frozen BK117.out 6))
            (try simp only [Act.put, List.setIfInBounds_toArray, List.set_cons_zero, List.set_cons_succ])
            go_cut [10] (fun v10 wc => ∃ (kq : Nat) (x10_6 : Bool), v10 = .bool x10_6 ∧ Aside0 (core_right.j1 kq a1 x5_1 t116 x10_6 l0 (l0.length : Int) x13_1 ((rd_T47 l0 x13_1).f0) ((rd_T47 l0 x13_1).f1.f0) ((rd_T47 l0 x13_1).f1.f1) ((rd_T47 l0 x13_1).f1.f2) ((rd_T47 l0 x13_1).f1.f3) ((rd_T47 l0 x13_1).f2) ((rd_T47 l0 x13_1).f3) ((rd_T47 l0 x13_1).f0) 0 0 0 0 0 (⟨#[]⟩ : ByteArray) = some r) ∧ Aside0 (kq ≤ k1) ∧ Aside0 (wc.heap[gb115]? = some (.cells #[.int .i64 ((rd_T47 l0 x13_1).f0), .int .u64 ((rd_T47 l0 x13_1).f1.f0), .int .u64 ((rd_T47 l0 x13_1).f1.f1), .int .u64 ((rd_T47 l0 x13_1).f1.f2), .int .u64 ((rd_T47 l0 x13_1).f1.f3), .int .i64 ((rd_T47 l0 x13_1).f2), .string ((rd_T47 l0 x13_1).f3)] 47 (0, 0))) ∧ Aside0 (wc.heap[gb117]? = some (.cells #[.int .i64 ((rd_T47 l0 x13_1).f0), .int .u64 0, .int .u64 0, .int .u64 0, .int .u64 0, .int .i64 0, .string (⟨#[]⟩ : ByteArray)] 47 (0, 0))) ∧ Aside0 (Below w.heap.size w wc))
            case first =>
              have H := HC7.out
              clear HC7
              by_cases c13 : t116 ≤ x5_1
              · rw [if_pos c13] at H
                have c13b0 : decide (t116 ≤ x5_1) = true := decide_eq_true c13
                clear c13
                (first | rw [c13b0] | (simp only [i64_w, i32_w]; rw [c13b0]) | skip)
                by_cases c14 : ((rd_T47 l0 x13_1).f0) ≥ 0
                · rw [if_pos c14] at H
                  have c14b0 : decide (0 ≤ ((rd_T47 l0 x13_1).f0)) = true := decide_eq_true c14
                  clear c14
                  have H' := Aside0.mk H
                  clear H
                  have hnb15 := NB115_117.out
                  have hnc15 := NB117_115.out
                  have hcz16_0 : w10.cell? ⟨gb115, 0, none⟩ = some (.int .i64 ((rd_T47 l0 x13_1).f0)) := (blk_cell BK115.out 0).trans rfl
                  have hcz16_1 : w10.cell? ⟨gb115, 1, none⟩ = some (.int .u64 ((rd_T47 l0 x13_1).f1.f0)) := (blk_cell BK115.out 1).trans rfl
                  have hcz16_2 : w10.cell? ⟨gb115, 2, none⟩ = some (.int .u64 ((rd_T47 l0 x13_1).f1.f1)) := (blk_cell BK115.out 2).trans rfl
                  have hcz16_3 : w10.cell? ⟨gb115, 3, none⟩ = some (.int .u64 ((rd_T47 l0 x13_1).f1.f2)) := (blk_cell BK115.out 3).trans rfl
                  have hcz16_4 : w10.cell? ⟨gb115, 4, none⟩ = some (.int .u64 ((rd_T47 l0 x13_1).f1.f3)) := (blk_cell BK115.out 4).trans rfl
                  have hcz16_5 : w10.cell? ⟨gb115, 5, none⟩ = some (.int .i64 ((rd_T47 l0 x13_1).f2)) := (blk_cell BK115.out 5).trans rfl
                  have hcz16_6 : w10.cell? ⟨gb115, 6, none⟩ = some (.string ((rd_T47 l0 x13_1).f3)) := (blk_cell BK115.out 6).trans rfl
                  have hfz16_0 := blk_frozen BK115.out 0
                  have hfz16_1 := blk_frozen BK115.out 1
                  have hfz16_2 := blk_frozen BK115.out 2
                  have hfz16_3 := blk_frozen BK115.out 3
                  have hfz16_4 := blk_frozen BK115.out 4
                  have hfz16_5 := blk_frozen BK115.out 5
                  have hfz16_6 := blk_frozen BK115.out 6
                  go_wp2
                  go_meet
                  case rel => exact ⟨_, (decide (((rd_T47 l0 x13_1).f0) ≤ 8)), (by first | rfl | (simp; done) | (simp [*]; done)), H', ⟨by have := HK1.out; first | omega | exact Nat.le_refl _⟩, ⟨by (with_reducible repeat (first | refine blk_drewN ?_ _ | refine blk_drew ?_ | refine blk_alloc ?_ _)); refine blk_far ?_ NB115_117.out _; (with_reducible repeat (first | refine blk_drewN ?_ _ | refine blk_drew ?_ | refine blk_alloc ?_ _)); refine blk_far ?_ NB115_117.out _; (with_reducible repeat (first | refine blk_drewN ?_ _ | refine blk_drew ?_ | refine blk_alloc ?_ _)); refine blk_far ?_ NB115_117.out _; (with_reducible repeat (first | refine blk_drewN ?_ _ | refine blk_drew ?_ | refine blk_alloc ?_ _)); refine blk_far ?_ NB115_117.out _; (with_reducible repeat (first | refine blk_drewN ?_ _ | refine blk_drew ?_ | refine blk_alloc ?_ _)); refine blk_far ?_ NB115_117.out _; (with_reducible repeat (first | refine blk_drewN ?_ _ | refine blk_drew ?_ | refine blk_alloc ?_ _)); refine blk_far ?_ NB115_117.out _; (with_reducible repeat (first | refine blk_drewN ?_ _ | refine blk_drew ?_ | refine blk_alloc ?_ _)); refine blk_far ?_ NB115_117.out _; (with_reducible repeat (first | refine blk_drewN ?_ _ | refine blk_drew ?_ | refine blk_alloc ?_ _)); exact BK115.out⟩, ⟨by (with_reducible repeat (first | refine blk_drewN ?_ _ | refine blk_drew ?_ | refine blk_alloc ?_ _)); refine blk_put (cs := #[.int .i64 ((rd_T47 l0 x13_1).f0), .int .u64 0, .int .u64 0, .int .u64 0, .int .u64 0, .int .i64 0, .string (⟨#[]⟩ : ByteArray)]) ?_ 6 _ rfl; (with_reducible repeat (first | refine blk_drewN ?_ _ | refine blk_drew ?_ | refine blk_alloc ?_ _)); refine blk_put (cs := #[.int .i64 ((rd_T47 l0 x13_1).f0), .int .u64 0, .int .u64 0, .int .u64 0, .int .u64 0, .int .i64 0, .string (⟨#[]⟩ : ByteArray)]) ?_ 5 _ rfl; (with_reducible repeat (first | refine blk_drewN ?_ _ | refine blk_drew ?_ | refine blk_alloc ?_ _)); refine blk_put (cs := #[.int .i64 ((rd_T47 l0 x13_1).f0), .int .u64 0, .int .u64 0, .int .u64 0, .int .u64 0, .int .i64 0, .string (⟨#[]⟩ : ByteArray)]) ?_ 4 _ rfl; (with_reducible repeat (first | refine blk_drewN ?_ _ | refine blk_drew ?_ | refine blk_alloc ?_ _)); refine blk_put (cs := #[.int .i64 ((rd_T47 l0 x13_1).f0), .int .u64 0, .int .u64 0, .int .u64 0, .int .u64 0, .int .i64 0, .string (⟨#[]⟩ : ByteArray)]) ?_ 3 _ rfl; (with_reducible repeat (first | refine blk_drewN ?_ _ | refine blk_drew ?_ | refine blk_alloc ?_ _)); refine blk_put (cs := #[.int .i64 ((rd_T47 l0 x13_1).f0), .int .u64 0, .int .u64 0, .int .u64 0, .int .u64 0, .int .i64 0, .string (⟨#[]⟩ : ByteArray)]) ?_ 2 _ rfl; (with_reducible repeat (first | refine blk_drewN ?_ _ | refine blk_drew ?_ | refine blk_alloc ?_ _)); refine blk_put (cs := #[.int .i64 ((rd_T47 l0 x13_1).f0), .int .u64 0, .int .u64 0, .int .u64 0, .int .u64 0, .int .i64 0, .string (⟨#[]⟩ : ByteArray)]) ?_ 1 _ rfl; (with_reducible repeat (first | refine blk_drewN ?_ _ | refine blk_drew ?_ | refine blk_alloc ?_ _)); refine blk_put (cs := #[.int .i64 0, .int .u64 0, .int .u64 0, .int .u64 0, .int .u64 0, .int .i64 0, .string (⟨#[]⟩ : ByteArray)]) ?_ 0 _ rfl; (with_reducible repeat (first | refine blk_drewN ?_ _ | refine blk_drew ?_ | refine blk_alloc ?_ _)); exact BK117.out⟩, ⟨by repeat (first | (with_reducible first | exact HB.out | apply below_alloc | apply pw_below_drewN | apply below_drew1 | refine below_set ?_ GE115.out | refine below_set ?_ GE117.out) | exact HB.out)⟩⟩
                · rw [if_neg c14] at H
                  have c14b0 : decide (0 ≤ ((rd_T47 l0 x13_1).f0)) = false := decide_eq_false c14
                  clear c14
                  have H' := Aside0.mk H
                  clear H
                  have hnb17 := NB115_117.out
                  have hnc17 := NB117_115.out
                  have hcz18_0 : w10.cell? ⟨gb115, 0, none⟩ = some (.int .i64 ((rd_T47 l0 x13_1).f0)) := (blk_cell BK115.out 0).trans rfl
                  have hcz18_1 : w10.cell? ⟨gb115, 1, none⟩ = some (.int .u64 ((rd_T47 l0 x13_1).f1.f0)) := (blk_cell BK115.out 1).trans rfl
                  have hcz18_2 : w10.cell? ⟨gb115, 2, none⟩ = some (.int .u64 ((rd_T47 l0 x13_1).f1.f1)) := (blk_cell BK115.out 2).trans rfl
                  have hcz18_3 : w10.cell? ⟨gb115, 3, none⟩ = some (.int .u64 ((rd_T47 l0 x13_1).f1.f2)) := (blk_cell BK115.out 3).trans rfl
                  have hcz18_4 : w10.cell? ⟨gb115, 4, none⟩ = some (.int .u64 ((rd_T47 l0 x13_1).f1.f3)) := (blk_cell BK115.out 4).trans rfl
                  have hcz18_5 : w10.cell? ⟨gb115, 5, none⟩ = some (.int .i64 ((rd_T47 l0 x13_1).f2)) := (blk_cell BK115.out 5).trans rfl
                  have hcz18_6 : w10.cell? ⟨gb115, 6, none⟩ = some (.string ((rd_T47 l0 x13_1).f3)) := (blk_cell BK115.out 6).trans rfl
                  have hfz18_0 := blk_frozen BK115.out 0
                  have hfz18_1 := blk_frozen BK115.out 1
                  have hfz18_2 := blk_frozen BK115.out 2
                  have hfz18_3 := blk_frozen BK115.out 3
                  have hfz18_4 := blk_frozen BK115.out 4
                  have hfz18_5 := blk_frozen BK115.out 5
                  have hfz18_6 := blk_frozen BK115.out 6
                  go_wp2
                  go_meet
                  case rel => exact ⟨_, (false), (by first | rfl | (simp; done) | (simp [*]; done)), H', ⟨by have := HK1.out; first | omega | exact Nat.le_refl _⟩, ⟨by (with_reducible repeat (first | refine blk_drewN ?_ _ | refine blk_drew ?_ | refine blk_alloc ?_ _)); refine blk_far ?_ NB115_117.out _; (with_reducible repeat (first | refine blk_drewN ?_ _ | refine blk_drew ?_ | refine blk_alloc ?_ _)); refine blk_far ?_ NB115_117.out _; (with_reducible repeat (first | refine blk_drewN ?_ _ | refine blk_drew ?_ | refine blk_alloc ?_ _)); refine blk_far ?_ NB115_117.out _; (with_reducible repeat (first | refine blk_drewN ?_ _ | refine blk_drew ?_ | refine blk_alloc ?_ _)); refine blk_far ?_ NB115_117.out _; (with_reducible repeat (first | refine blk_drewN ?_ _ | refine blk_drew ?_ | refine blk_alloc ?_ _)); refine blk_far ?_ NB115_117.out _; (with_reducible repeat (first | refine blk_drewN ?_ _ | refine blk_drew ?_ | refine blk_alloc ?_ _)); refine blk_far ?_ NB115_117.out _; (with_reducible repeat (first | refine blk_drewN ?_ _ | refine blk_drew ?_ | refine blk_alloc ?_ _)); refine blk_far ?_ NB115_117.out _; (with_reducible repeat (first | refine blk_drewN ?_ _ | refine blk_drew ?_ | refine blk_alloc ?_ _)); exact BK115.out⟩, ⟨by (with_reducible repeat (first | refine blk_drewN ?_ _ | refine blk_drew ?_ | refine blk_alloc ?_ _)); refine blk_put (cs := #[.int .i64 ((rd_T47 l0 x13_1).f0), .int .u64 0, .int .u64 0, .int .u64 0, .int .u64 0, .int .i64 0, .string (⟨#[]⟩ : ByteArray)]) ?_ 6 _ rfl; (with_reducible repeat (first | refine blk_drewN ?_ _ | refine blk_drew ?_ | refine blk_alloc ?_ _)); refine blk_put (cs := #[.int .i64 ((rd_T47 l0 x13_1).f0), .int .u64 0, .int .u64 0, .int .u64 0, .int .u64 0, .int .i64 0, .string (⟨#[]⟩ : ByteArray)]) ?_ 5 _ rfl; (with_reducible repeat (first | refine blk_drewN ?_ _ | refine blk_drew ?_ | refine blk_alloc ?_ _)); refine blk_put (cs := #[.int .i64 ((rd_T47 l0 x13_1).f0), .int .u64 0, .int .u64 0, .int .u64 0, .int .u64 0, .int .i64 0, .string (⟨#[]⟩ : ByteArray)]) ?_ 4 _ rfl; (with_reducible repeat (first | refine blk_drewN ?_ _ | refine blk_drew ?_ | refine blk_alloc ?_ _)); refine blk_put (cs := #[.int .i64 ((rd_T47 l0 x13_1).f0), .int .u64 0, .int .u64 0, .int .u64 0, .int .u64 0, .int .i64 0, .string (⟨#[]⟩ : ByteArray)]) ?_ 3 _ rfl; (with_reducible repeat (first | refine blk_drewN ?_ _ | refine blk_drew ?_ | refine blk_alloc ?_ _)); refine blk_put (cs := #[.int .i64 ((rd_T47 l0 x13_1).f0), .int .u64 0, .int .u64 0, .int .u64 0, .int .u64 0, .int .i64 0, .string (⟨#[]⟩ : ByteArray)]) ?_ 2 _ rfl; (with_reducible repeat (first | refine blk_drewN ?_ _ | refine blk_drew ?_ | refine blk_alloc ?_ _)); refine blk_put (cs := #[.int .i64 ((rd_T47 l0 x13_1).f0), .int .u64 0, .int .u64 0, .int .u64 0, .int .u64 0, .int .i64 0, .string (⟨#[]⟩ : ByteArray)]) ?_ 1 _ rfl; (with_reducible repeat (first | refine blk_drewN ?_ _ | refine blk_drew ?_ | refine blk_alloc ?_ _)); refine blk_put (cs := #[.int .i64 0, .int .u64 0, .int .u64 0, .int .u64 0, .int .u64 0, .int .i64 0, .string (⟨#[]⟩ : ByteArray)]) ?_ 0 _ rfl; (with_reducible repeat (first | refine blk_drewN ?_ _ | refine blk_drew ?_ | refine blk_alloc ?_ _)); exact BK117.out⟩, ⟨by repeat (first | (with_reducible first | exact HB.out | apply below_alloc | apply pw_below_drewN | apply below_drew1 | refine below_set ?_ GE115.out | refine below_set ?_ GE117.out) | exact HB.out)⟩⟩
              · rw [if_neg c13] at H
                have c13b0 : decide (t116 ≤ x5_1) = false := decide_eq_false c13
                clear c13
                (first | rw [c13b0] | (simp only [i64_w, i32_w]; rw [c13b0]) | skip)
                have H' := Aside0.mk H
                clear H
                go_wp2
                go_meet
                case rel => exact ⟨_, (false), (by first | rfl | (simp; done) | (simp [*]; done)), H', ⟨by have := HK1.out; first | omega | exact Nat.le_refl _⟩, ⟨by (with_reducible repeat (first | refine blk_drewN ?_ _ | refine blk_drew ?_ | refine blk_alloc ?_ _)); refine blk_far ?_ NB115_117.out _; (with_reducible repeat (first | refine blk_drewN ?_ _ | refine blk_drew ?_ | refine blk_alloc ?_ _)); refine blk_far ?_ NB115_117.out _; (with_reducible repeat (first | refine blk_drewN ?_ _ | refine blk_drew ?_ | refine blk_alloc ?_ _)); refine blk_far ?_ NB115_117.out _; (with_reducible repeat (first | refine blk_drewN ?_ _ | refine blk_drew ?_ | refine blk_alloc ?_ _)); refine blk_far ?_ NB115_117.out _; (with_reducible repeat (first | refine blk_drewN ?_ _ | refine blk_drew ?_ | refine blk_alloc ?_ _)); refine blk_far ?_ NB115_117.out _; (with_reducible repeat (first | refine blk_drewN ?_ _ | refine blk_drew ?_ | refine blk_alloc ?_ _)); refine blk_far ?_ NB115_117.out _; (with_reducible repeat (first | refine blk_drewN ?_ _ | refine blk_drew ?_ | refine blk_alloc ?_ _)); refine blk_far ?_ NB115_117.out _; (with_reducible repeat (first | refine blk_drewN ?_ _ | refine blk_drew ?_ | refine blk_alloc ?_ _)); exact BK115.out⟩, ⟨by (with_reducible repeat (first | refine blk_drewN ?_ _ | refine blk_drew ?_ | refine blk_alloc ?_ _)); refine blk_put (cs := #[.int .i64 ((rd_T47 l0 x13_1).f0), .int .u64 0, .int .u64 0, .int .u64 0, .int .u64 0, .int .i64 0, .string (⟨#[]⟩ : ByteArray)]) ?_ 6 _ rfl; (with_reducible repeat (first | refine blk_drewN ?_ _ | refine blk_drew ?_ | refine blk_alloc ?_ _)); refine blk_put (cs := #[.int .i64 ((rd_T47 l0 x13_1).f0), .int .u64 0, .int .u64 0, .int .u64 0, .int .u64 0, .int .i64 0, .string (⟨#[]⟩ : ByteArray)]) ?_ 5 _ rfl; (with_reducible repeat (first | refine blk_drewN ?_ _ | refine blk_drew ?_ | refine blk_alloc ?_ _)); refine blk_put (cs := #[.int .i64 ((rd_T47 l0 x13_1).f0), .int .u64 0, .int .u64 0, .int .u64 0, .int .u64 0, .int .i64 0, .string (⟨#[]⟩ : ByteArray)]) ?_ 4 _ rfl; (with_reducible repeat (first | refine blk_drewN ?_ _ | refine blk_drew ?_ | refine blk_alloc ?_ _)); refine blk_put (cs := #[.int .i64 ((rd_T47 l0 x13_1).f0), .int .u64 0, .int .u64 0, .int .u64 0, .int .u64 0, .int .i64 0, .string (⟨#[]⟩ : ByteArray)]) ?_ 3 _ rfl; (with_reducible repeat (first | refine blk_drewN ?_ _ | refine blk_drew ?_ | refine blk_alloc ?_ _)); refine blk_put (cs := #[.int .i64 ((rd_T47 l0 x13_1).f0), .int .u64 0, .int .u64 0, .int .u64 0, .int .u64 0, .int .i64 0, .string (⟨#[]⟩ : ByteArray)]) ?_ 2 _ rfl; (with_reducible repeat (first | refine blk_drewN ?_ _ | refine blk_drew ?_ | refine blk_alloc ?_ _)); refine blk_put (cs := #[.int .i64 ((rd_T47 l0 x13_1).f0), .int .u64 0, .int .u64 0, .int .u64 0, .int .u64 0, .int .i64 0, .string (⟨#[]⟩ : ByteArray)]) ?_ 1 _ rfl; (with_reducible repeat (first | refine blk_drewN ?_ _ | refine blk_drew ?_ | refine blk_alloc ?_ _)); refine blk_put (cs := #[.int .i64 0, .int .u64 0, .int .u64 0, .int .u64 0, .int .u64 0, .int .i64 0, .string (⟨#[]⟩ : ByteArray)]) ?_ 0 _ rfl; (with_reducible repeat (first | refine blk_drewN ?_ _ | refine blk_drew ?_ | refine blk_alloc ?_ _)); exact BK117.out⟩, ⟨by repeat (first | (with_reducible first | exact HB.out | apply below_alloc | apply pw_below_drewN | apply below_drew1 | refine below_set ?_ GE115.out | refine below_set ?_ GE117.out) | exact HB.out)⟩⟩
            case rest =>
              clear HC7
              try clear c1
              try clear p1
              try clear q1
              try clear hx1
              try clear c2
              try clear p2
              try clear c3
              try clear c3b0
              try clear c4
              try clear c4b0
              try clear c5
              try clear c5b0
              try clear c11
              try clear p11
              try clear q11
              try clear hx11
              try clear c13
              try clear c13b0
              try clear c14
              try clear c14b0
              try clear c15
              try clear c17
              try clear hcz12_0
              try clear hcz12_1
              try clear hcz12_2
              try clear hcz12_3
              try clear hcz12_4
              try clear hcz12_5
              try clear hcz12_6
              try clear hcz16_0
              try clear hcz16_1
              try clear hcz16_2
              try clear hcz16_3
              try clear hcz16_4
              try clear hcz16_5
              try clear hcz16_6
              try clear hcz18_0
              try clear hcz18_1
              try clear hcz18_2
              try clear hcz18_3
              try clear hcz18_4
              try clear hcz18_5
              try clear hcz18_6
              try clear hcz9_0
              try clear hcz9_1
              try clear hcz9_2
              try clear hcz9_3
              try clear hcz9_4
              try clear hcz9_5
              try clear hcz9_6
              try clear hfz12_0
              try clear hfz12_1
              try clear hfz12_2
              try clear hfz12_3
              try clear hfz12_4
              try clear hfz12_5
              try clear hfz12_6
              try clear hfz16_0
              try clear hfz16_1
              try clear hfz16_2
              try clear hfz16_3
              try clear hfz16_4
              try clear hfz16_5
              try clear hfz16_6
              try clear hfz18_0
              try clear hfz18_1
              try clear hfz18_2
              try clear hfz18_3
              try clear hfz18_4
              try clear hfz18_5
              try clear hfz18_6
              try clear hfz9_0
              try clear hfz9_1
              try clear hfz9_2
              try clear hfz9_3
              try clear hfz9_4
              try clear hfz9_5
              try clear hfz9_6
              try clear hx114_0
              try clear hx114_1
              try clear hx114_2
              try clear hx114_3
              try clear hx114_4
              try clear hx114_5
              try clear hx114_6
              try clear p114
              try clear p2
              try clear q114
              obtain ⟨kq, x10_6, rfl, HA, HJ6, BK115, BK117, HB⟩ := hcut
              cases kq with
              | zero => exact absurd HA.out (by simp [core_right.j1])
              | succ kj6 =>
                have H := HA.out
                clear HA
                simp only [core_right.j1] at H
                by_cases c19 : ((rd_T47 l0 x13_1).f0) = 1
                · rw [if_pos c19] at H
                  have c19b0 : (((rd_T47 l0 x13_1).f0) == 1) = true := beq_iff_eq.mpr c19
                  have c19b1 : (((rd_T47 l0 x13_1).f0) != 1) = false := bne_eq_false_iff_eq.mpr c19
                  clear c19
                  by_cases c20 : x10_6 = true
                  · subst c20
                    have H1 : (if (!(((rd_T47 l0 x13_1).f0) == ((rd_T47 l0 x13_1).f0)) || (!(((rd_T47 l0 x13_1).f2) == 0) || (!(((rd_T47 l0 x13_1).f3).toList == (⟨#[]⟩ : ByteArray).toList)))) = true then (some false) else (core_right.l0 kj6 a1 (wrap64 (x5_1 + (wrap64 (1 - t116)))) l0 (l0.length : Int) (wrap64 (x13_1 + 1)))) = some r := by rw [if_pos rfl] at H; exact H
                    clear H
                    have H := H1
                    clear H1
                    by_cases c21 : (!(((rd_T47 l0 x13_1).f0) == ((rd_T47 l0 x13_1).f0)) || (!(((rd_T47 l0 x13_1).f2) == 0) || (!(((rd_T47 l0 x13_1).f3).toList == (⟨#[]⟩ : ByteArray).toList)))) = true
                    · rw [if_pos c21] at H
                      have c21b0 : (!(((rd_T47 l0 x13_1).f0) == ((rd_T47 l0 x13_1).f0)) || (!(((rd_T47 l0 x13_1).f2) == 0) || (!(((rd_T47 l0 x13_1).f3).toList == (⟨#[]⟩ : ByteArray).toList)))) = true := c21
                      (try have c21s : ((!(((rd_T47 l0 x13_1).f2) == 0) || !((((rd_T47 l0 x13_1).f3).toList).isEmpty))) = true := by simpa using c21)
                      clear c21
                      obtain rfl := Option.some.inj H
                      have hnb22 := NB115_117.out
                      have hnc22 := NB117_115.out
                      have hcz23_0 : wc.cell? ⟨gb115, 0, none⟩ = some (.int .i64 ((rd_T47 l0 x13_1).f0)) := (blk_cell BK115.out 0).trans rfl
                      have hcz23_1 : wc.cell? ⟨gb115, 1, none⟩ = some (.int .u64 ((rd_T47 l0 x13_1).f1.f0)) := (blk_cell BK115.out 1).trans rfl
                      have hcz23_2 : wc.cell? ⟨gb115, 2, none⟩ = some (.int .u64 ((rd_T47 l0 x13_1).f1.f1)) := (blk_cell BK115.out 2).trans rfl
                      have hcz23_3 : wc.cell? ⟨gb115, 3, none⟩ = some (.int .u64 ((rd_T47 l0 x13_1).f1.f2)) := (blk_cell BK115.out 3).trans rfl
                      have hcz23_4 : wc.cell? ⟨gb115, 4, none⟩ = some (.int .u64 ((rd_T47 l0 x13_1).f1.f3)) := (blk_cell BK115.out 4).trans rfl
                      have hcz23_5 : wc.cell? ⟨gb115, 5, none⟩ = some (.int .i64 ((rd_T47 l0 x13_1).f2)) := (blk_cell BK115.out 5).trans rfl
                      have hcz23_6 : wc.cell? ⟨gb115, 6, none⟩ = some (.string ((rd_T47 l0 x13_1).f3)) := (blk_cell BK115.out 6).trans rfl
                      have hfz23_0 := blk_frozen BK115.out 0
                      have hfz23_1 := blk_frozen BK115.out 1
                      have hfz23_2 := blk_frozen BK115.out 2
                      have hfz23_3 := blk_frozen BK115.out 3
                      have hfz23_4 := blk_frozen BK115.out 4
                      have hfz23_5 := blk_frozen BK115.out 5
                      have hfz23_6 := blk_frozen BK115.out 6
                      have hcz24_0 : wc.cell? ⟨gb117, 0, none⟩ = some (.int .i64 ((rd_T47 l0 x13_1).f0)) := (blk_cell BK117.out 0).trans rfl
                      have hcz24_1 : wc.cell? ⟨gb117, 1, none⟩ = some (.int .u64 0) := (blk_cell BK117.out 1).trans rfl
                      have hcz24_2 : wc.cell? ⟨gb117, 2, none⟩ = some (.int .u64 0) := (blk_cell BK117.out 2).trans rfl
                      have hcz24_3 : wc.cell? ⟨gb117, 3, none⟩ = some (.int .u64 0) := (blk_cell BK117.out 3).trans rfl
                      have hcz24_4 : wc.cell? ⟨gb117, 4, none⟩ = some (.int .u64 0) := (blk_cell BK117.out 4).trans rfl
                      have hcz24_5 : wc.cell? ⟨gb117, 5, none⟩ = some (.int .i64 0) := (blk_cell BK117.out 5).trans rfl
                      have hcz24_6 : wc.cell? ⟨gb117, 6, none⟩ = some (.string (⟨#[]⟩ : ByteArray)) := (blk_cell BK117.out 6).trans rfl
                      have hfz24_0 := blk_frozen BK117.out 0
                      have hfz24_1 := blk_frozen BK117.out 1
                      have hfz24_2 := blk_frozen BK117.out 2
                      have hfz24_3 := blk_frozen BK117.out 3
                      have hfz24_4 := blk_frozen BK117.out 4
                      have hfz24_5 := blk_frozen BK117.out 5
                      have hfz24_6 := blk_frozen BK117.out 6
                      go_wp2
                      go_ret
                      exact ⟨by first | rfl | (simp [errW_none, errW_some] <;> rfl) | (simp [*, errW_none, errW_some] <;> rfl), by repeat (first | (with_reducible first | exact HB.out | apply below_alloc | apply pw_below_drewN | apply below_drew1 | refine below_set ?_ GE115.out | refine below_set ?_ GE117.out) | exact HB.out)⟩
                    · rw [if_neg c21] at H
                      have c21b0 : (!(((rd_T47 l0 x13_1).f0) == ((rd_T47 l0 x13_1).f0)) || (!(((rd_T47 l0 x13_1).f2) == 0) || (!(((rd_T47 l0 x13_1).f3).toList == (⟨#[]⟩ : ByteArray).toList)))) = false := by simpa using c21
                      (try have c21s : ((!(((rd_T47 l0 x13_1).f2) == 0) || !((((rd_T47 l0 x13_1).f3).toList).isEmpty))) = false := by simpa using c21)
                      clear c21
                      have H' := Aside0.mk H
                      clear H
                      have hnb25 := NB115_117.out
                      have hnc25 := NB117_115.out
                      have hcz26_0 : wc.cell? ⟨gb115, 0, none⟩ = some (.int .i64 ((rd_T47 l0 x13_1).f0)) := (blk_cell BK115.out 0).trans rfl
                      have hcz26_1 : wc.cell? ⟨gb115, 1, none⟩ = some (.int .u64 ((rd_T47 l0 x13_1).f1.f0)) := (blk_cell BK115.out 1).trans rfl
                      have hcz26_2 : wc.cell? ⟨gb115, 2, none⟩ = some (.int .u64 ((rd_T47 l0 x13_1).f1.f1)) := (blk_cell BK115.out 2).trans rfl
                      have hcz26_3 : wc.cell? ⟨gb115, 3, none⟩ = some (.int .u64 ((rd_T47 l0 x13_1).f1.f2)) := (blk_cell BK115.out 3).trans rfl
                      have hcz26_4 : wc.cell? ⟨gb115, 4, none⟩ = some (.int .u64 ((rd_T47 l0 x13_1).f1.f3)) := (blk_cell BK115.out 4).trans rfl
                      have hcz26_5 : wc.cell? ⟨gb115, 5, none⟩ = some (.int .i64 ((rd_T47 l0 x13_1).f2)) := (blk_cell BK115.out 5).trans rfl
                      have hcz26_6 : wc.cell? ⟨gb115, 6, none⟩ = some (.string ((rd_T47 l0 x13_1).f3)) := (blk_cell BK115.out 6).trans rfl
                      have hfz26_0 := blk_frozen BK115.out 0
                      have hfz26_1 := blk_frozen BK115.out 1
                      have hfz26_2 := blk_frozen BK115.out 2
                      have hfz26_3 := blk_frozen BK115.out 3
                      have hfz26_4 := blk_frozen BK115.out 4
                      have hfz26_5 := blk_frozen BK115.out 5
                      have hfz26_6 := blk_frozen BK115.out 6
                      have hcz27_0 : wc.cell? ⟨gb117, 0, none⟩ = some (.int .i64 ((rd_T47 l0 x13_1).f0)) := (blk_cell BK117.out 0).trans rfl
                      have hcz27_1 : wc.cell? ⟨gb117, 1, none⟩ = some (.int .u64 0) := (blk_cell BK117.out 1).trans rfl
                      have hcz27_2 : wc.cell? ⟨gb117, 2, none⟩ = some (.int .u64 0) := (blk_cell BK117.out 2).trans rfl
                      have hcz27_3 : wc.cell? ⟨gb117, 3, none⟩ = some (.int .u64 0) := (blk_cell BK117.out 3).trans rfl
                      have hcz27_4 : wc.cell? ⟨gb117, 4, none⟩ = some (.int .u64 0) := (blk_cell BK117.out 4).trans rfl
                      have hcz27_5 : wc.cell? ⟨gb117, 5, none⟩ = some (.int .i64 0) := (blk_cell BK117.out 5).trans rfl
                      have hcz27_6 : wc.cell? ⟨gb117, 6, none⟩ = some (.string (⟨#[]⟩ : ByteArray)) := (blk_cell BK117.out 6).trans rfl
                      have hfz27_0 := blk_frozen BK117.out 0
                      have hfz27_1 := blk_frozen BK117.out 1
                      have hfz27_2 := blk_frozen BK117.out 2
                      have hfz27_3 := blk_frozen BK117.out 3
                      have hfz27_4 := blk_frozen BK117.out 4
                      have hfz27_5 := blk_frozen BK117.out 5
                      have hfz27_6 := blk_frozen BK117.out 6
                      go_wp2
                      go_roundg kj6
                      case measure => have := HK1.out; have := HJ6.out; omega
                      case rel => exact ⟨(wrap64 (x5_1 + (wrap64 (1 - t116)))), (wrap64 (x13_1 + 1)), (by first | rfl | (simp; done) | (simp [*]; done)), (by first | rfl | (simp; done) | (simp [*]; done)), H', ⟨by have := HK1.out; have := HJ6.out; omega⟩, ⟨by repeat (first | (with_reducible first | exact HB.out | apply below_alloc | apply pw_below_drewN | apply below_drew1 | refine below_set ?_ GE115.out | refine below_set ?_ GE117.out) | exact HB.out)⟩⟩
                  · replace c20 := Bool.eq_false_iff.mpr c20
                    subst c20
                    have H1 : (some false) = some r := by rw [if_neg (show ¬ (false = true) by decide)] at H; exact H
                    clear H
                    have H := H1
                    clear H1
                    obtain rfl := Option.some.inj H
                    have hnb28 := NB115_117.out
                    have hnc28 := NB117_115.out
                    have hcz29_0 : wc.cell? ⟨gb115, 0, none⟩ = some (.int .i64 ((rd_T47 l0 x13_1).f0)) := (blk_cell BK115.out 0).trans rfl
                    have hcz29_1 : wc.cell? ⟨gb115, 1, none⟩ = some (.int .u64 ((rd_T47 l0 x13_1).f1.f0)) := (blk_cell BK115.out 1).trans rfl
                    have hcz29_2 : wc.cell? ⟨gb115, 2, none⟩ = some (.int .u64 ((rd_T47 l0 x13_1).f1.f1)) := (blk_cell BK115.out 2).trans rfl
                    have hcz29_3 : wc.cell? ⟨gb115, 3, none⟩ = some (.int .u64 ((rd_T47 l0 x13_1).f1.f2)) := (blk_cell BK115.out 3).trans rfl
                    have hcz29_4 : wc.cell? ⟨gb115, 4, none⟩ = some (.int .u64 ((rd_T47 l0 x13_1).f1.f3)) := (blk_cell BK115.out 4).trans rfl
                    have hcz29_5 : wc.cell? ⟨gb115, 5, none⟩ = some (.int .i64 ((rd_T47 l0 x13_1).f2)) := (blk_cell BK115.out 5).trans rfl
                    have hcz29_6 : wc.cell? ⟨gb115, 6, none⟩ = some (.string ((rd_T47 l0 x13_1).f3)) := (blk_cell BK115.out 6).trans rfl
                    have hfz29_0 := blk_frozen BK115.out 0
                    have hfz29_1 := blk_frozen BK115.out 1
                    have hfz29_2 := blk_frozen BK115.out 2
                    have hfz29_3 := blk_frozen BK115.out 3
                    have hfz29_4 := blk_frozen BK115.out 4
                    have hfz29_5 := blk_frozen BK115.out 5
                    have hfz29_6 := blk_frozen BK115.out 6
                    have hcz30_0 : wc.cell? ⟨gb117, 0, none⟩ = some (.int .i64 ((rd_T47 l0 x13_1).f0)) := (blk_cell BK117.out 0).trans rfl
                    have hcz30_1 : wc.cell? ⟨gb117, 1, none⟩ = some (.int .u64 0) := (blk_cell BK117.out 1).trans rfl
                    have hcz30_2 : wc.cell? ⟨gb117, 2, none⟩ = some (.int .u64 0) := (blk_cell BK117.out 2).trans rfl
                    have hcz30_3 : wc.cell? ⟨gb117, 3, none⟩ = some (.int .u64 0) := (blk_cell BK117.out 3).trans rfl
                    have hcz30_4 : wc.cell? ⟨gb117, 4, none⟩ = some (.int .u64 0) := (blk_cell BK117.out 4).trans rfl
                    have hcz30_5 : wc.cell? ⟨gb117, 5, none⟩ = some (.int .i64 0) := (blk_cell BK117.out 5).trans rfl
                    have hcz30_6 : wc.cell? ⟨gb117, 6, none⟩ = some (.string (⟨#[]⟩ : ByteArray)) := (blk_cell BK117.out 6).trans rfl
                    have hfz30_0 := blk_frozen BK117.out 0
                    have hfz30_1 := blk_frozen BK117.out 1
                    have hfz30_2 := blk_frozen BK117.out 2
                    have hfz30_3 := blk_frozen BK117.out 3
                    have hfz30_4 := blk_frozen BK117.out 4
                    have hfz30_5 := blk_frozen BK117.out 5
                    have hfz30_6 := blk_frozen BK117.out 6
                    go_wp2
                    go_ret
                    exact ⟨by first | rfl | (simp [errW_none, errW_some] <;> rfl) | (simp [*, errW_none, errW_some] <;> rfl), by repeat (first | (with_reducible first | exact HB.out | apply below_alloc | apply pw_below_drewN | apply below_drew1 | refine below_set ?_ GE115.out | refine below_set ?_ GE117.out) | exact HB.out)⟩
                · rw [if_neg c19] at H
                  have c19b0 : (((rd_T47 l0 x13_1).f0) == 1) = false := beq_eq_false_iff_ne.mpr c19
                  have c19b1 : (((rd_T47 l0 x13_1).f0) != 1) = true := bne_iff_ne.mpr c19
                  by_cases c31 : ((rd_T47 l0 x13_1).f0) = 2
                  · rw [if_pos c31] at H
                    have c31b0 : (((rd_T47 l0 x13_1).f0) == 2) = true := beq_iff_eq.mpr c31
                    have c31b1 : (((rd_T47 l0 x13_1).f0) != 2) = false := bne_eq_false_iff_eq.mpr c31
                    clear c31
                    by_cases c32 : x10_6 = true
                    · subst c32
                      have H1 : (if ((rd_T47 l0 x13_1).f2) ≥ 0 then (if ((rd_T47 l0 x13_1).f2) < a1 then (if (!(((rd_T47 l0 x13_1).f0) == ((rd_T47 l0 x13_1).f0)) || ((!(((rd_T47 l0 x13_1).f1.f0) == 0) || (!(((rd_T47 l0 x13_1).f1.f1) == 0) || (!(((rd_T47 l0 x13_1).f1.f2) == 0) || (!(((rd_T47 l0 x13_1).f1.f3) == 0))))) || (!(((rd_T47 l0 x13_1).f3).toList == (⟨#[]⟩ : ByteArray).toList)))) = true then (some false) else (core_right.l0 kj6 a1 (wrap64 (x5_1 + (wrap64 (1 - t116)))) l0 (l0.length : Int) (wrap64 (x13_1 + 1)))) else (some false)) else (some false)) = some r := by rw [if_pos rfl] at H; exact H
                      clear H
                      have H := H1
                      clear H1
                      by_cases c33 : ((rd_T47 l0 x13_1).f2) ≥ 0
                      · rw [if_pos c33] at H
                        have c33b0 : decide (0 ≤ ((rd_T47 l0 x13_1).f2)) = true := decide_eq_true c33
                        clear c33
                        by_cases c34 : ((rd_T47 l0 x13_1).f2) < a1
                        · rw [if_pos c34] at H
                          have c34b0 : decide (((rd_T47 l0 x13_1).f2) < a1) = true := decide_eq_true c34
                          clear c34
                          by_cases c35 : (!(((rd_T47 l0 x13_1).f0) == ((rd_T47 l0 x13_1).f0)) || ((!(((rd_T47 l0 x13_1).f1.f0) == 0) || (!(((rd_T47 l0 x13_1).f1.f1) == 0) || (!(((rd_T47 l0 x13_1).f1.f2) == 0) || (!(((rd_T47 l0 x13_1).f1.f3) == 0))))) || (!(((rd_T47 l0 x13_1).f3).toList == (⟨#[]⟩ : ByteArray).toList)))) = true
                          · rw [if_pos c35] at H
                            have c35b0 : (!(((rd_T47 l0 x13_1).f0) == ((rd_T47 l0 x13_1).f0)) || ((!(((rd_T47 l0 x13_1).f1.f0) == 0) || (!(((rd_T47 l0 x13_1).f1.f1) == 0) || (!(((rd_T47 l0 x13_1).f1.f2) == 0) || (!(((rd_T47 l0 x13_1).f1.f3) == 0))))) || (!(((rd_T47 l0 x13_1).f3).toList == (⟨#[]⟩ : ByteArray).toList)))) = true := c35
                            (try have c35s : (((!(((rd_T47 l0 x13_1).f1.f0) == 0) || (!(((rd_T47 l0 x13_1).f1.f1) == 0) || (!(((rd_T47 l0 x13_1).f1.f2) == 0) || !(((rd_T47 l0 x13_1).f1.f3) == 0)))) || !((((rd_T47 l0 x13_1).f3).toList).isEmpty))) = true := by simpa using c35)
                            clear c35
                            obtain rfl := Option.some.inj H
                            have hnb36 := NB115_117.out
                            have hnc36 := NB117_115.out
                            have hcz37_0 : wc.cell? ⟨gb115, 0, none⟩ = some (.int .i64 ((rd_T47 l0 x13_1).f0)) := (blk_cell BK115.out 0).trans rfl
                            have hcz37_1 : wc.cell? ⟨gb115, 1, none⟩ = some (.int .u64 ((rd_T47 l0 x13_1).f1.f0)) := (blk_cell BK115.out 1).trans rfl
                            have hcz37_2 : wc.cell? ⟨gb115, 2, none⟩ = some (.int .u64 ((rd_T47 l0 x13_1).f1.f1)) := (blk_cell BK115.out 2).trans rfl
                            have hcz37_3 : wc.cell? ⟨gb115, 3, none⟩ = some (.int .u64 ((rd_T47 l0 x13_1).f1.f2)) := (blk_cell BK115.out 3).trans rfl
                            have hcz37_4 : wc.cell? ⟨gb115, 4, none⟩ = some (.int .u64 ((rd_T47 l0 x13_1).f1.f3)) := (blk_cell BK115.out 4).trans rfl
                            have hcz37_5 : wc.cell? ⟨gb115, 5, none⟩ = some (.int .i64 ((rd_T47 l0 x13_1).f2)) := (blk_cell BK115.out 5).trans rfl
                            have hcz37_6 : wc.cell? ⟨gb115, 6, none⟩ = some (.string ((rd_T47 l0 x13_1).f3)) := (blk_cell BK115.out 6).trans rfl
                            have hfz37_0 := blk_frozen BK115.out 0
                            have hfz37_1 := blk_frozen BK115.out 1
                            have hfz37_2 := blk_frozen BK115.out 2
                            have hfz37_3 := blk_frozen BK115.out 3
                            have hfz37_4 := blk_frozen BK115.out 4
                            have hfz37_5 := blk_frozen BK115.out 5
                            have hfz37_6 := blk_frozen BK115.out 6
                            have hcz38_0 : wc.cell? ⟨gb117, 0, none⟩ = some (.int .i64 ((rd_T47 l0 x13_1).f0)) := (blk_cell BK117.out 0).trans rfl
                            have hcz38_1 : wc.cell? ⟨gb117, 1, none⟩ = some (.int .u64 0) := (blk_cell BK117.out 1).trans rfl
                            have hcz38_2 : wc.cell? ⟨gb117, 2, none⟩ = some (.int .u64 0) := (blk_cell BK117.out 2).trans rfl
                            have hcz38_3 : wc.cell? ⟨gb117, 3, none⟩ = some (.int .u64 0) := (blk_cell BK117.out 3).trans rfl
                            have hcz38_4 : wc.cell? ⟨gb117, 4, none⟩ = some (.int .u64 0) := (blk_cell BK117.out 4).trans rfl
                            have hcz38_5 : wc.cell? ⟨gb117, 5, none⟩ = some (.int .i64 0) := (blk_cell BK117.out 5).trans rfl
                            have hcz38_6 : wc.cell? ⟨gb117, 6, none⟩ = some (.string (⟨#[]⟩ : ByteArray)) := (blk_cell BK117.out 6).trans rfl
                            have hfz38_0 := blk_frozen BK117.out 0
                            have hfz38_1 := blk_frozen BK117.out 1
                            have hfz38_2 := blk_frozen BK117.out 2
                            have hfz38_3 := blk_frozen BK117.out 3
                            have hfz38_4 := blk_frozen BK117.out 4
                            have hfz38_5 := blk_frozen BK117.out 5
                            have hfz38_6 := blk_frozen BK117.out 6
                            go_wp2
                            go_ret
                            exact ⟨by first | rfl | (simp [errW_none, errW_some] <;> rfl) | (simp [*, errW_none, errW_some] <;> rfl), by repeat (first | (with_reducible first | exact HB.out | apply below_alloc | apply pw_below_drewN | apply below_drew1 | refine below_set ?_ GE115.out | refine below_set ?_ GE117.out) | exact HB.out)⟩
                          · rw [if_neg c35] at H
                            have c35b0 : (!(((rd_T47 l0 x13_1).f0) == ((rd_T47 l0 x13_1).f0)) || ((!(((rd_T47 l0 x13_1).f1.f0) == 0) || (!(((rd_T47 l0 x13_1).f1.f1) == 0) || (!(((rd_T47 l0 x13_1).f1.f2) == 0) || (!(((rd_T47 l0 x13_1).f1.f3) == 0))))) || (!(((rd_T47 l0 x13_1).f3).toList == (⟨#[]⟩ : ByteArray).toList)))) = false := by simpa using c35
                            (try have c35s : (((!(((rd_T47 l0 x13_1).f1.f0) == 0) || (!(((rd_T47 l0 x13_1).f1.f1) == 0) || (!(((rd_T47 l0 x13_1).f1.f2) == 0) || !(((rd_T47 l0 x13_1).f1.f3) == 0)))) || !((((rd_T47 l0 x13_1).f3).toList).isEmpty))) = false := by simpa using c35)
                            clear c35
                            have H' := Aside0.mk H
                            clear H
                            have hnb39 := NB115_117.out
                            have hnc39 := NB117_115.out
                            have hcz40_0 : wc.cell? ⟨gb115, 0, none⟩ = some (.int .i64 ((rd_T47 l0 x13_1).f0)) := (blk_cell BK115.out 0).trans rfl
                            have hcz40_1 : wc.cell? ⟨gb115, 1, none⟩ = some (.int .u64 ((rd_T47 l0 x13_1).f1.f0)) := (blk_cell BK115.out 1).trans rfl
                            have hcz40_2 : wc.cell? ⟨gb115, 2, none⟩ = some (.int .u64 ((rd_T47 l0 x13_1).f1.f1)) := (blk_cell BK115.out 2).trans rfl
                            have hcz40_3 : wc.cell? ⟨gb115, 3, none⟩ = some (.int .u64 ((rd_T47 l0 x13_1).f1.f2)) := (blk_cell BK115.out 3).trans rfl
                            have hcz40_4 : wc.cell? ⟨gb115, 4, none⟩ = some (.int .u64 ((rd_T47 l0 x13_1).f1.f3)) := (blk_cell BK115.out 4).trans rfl
                            have hcz40_5 : wc.cell? ⟨gb115, 5, none⟩ = some (.int .i64 ((rd_T47 l0 x13_1).f2)) := (blk_cell BK115.out 5).trans rfl
                            have hcz40_6 : wc.cell? ⟨gb115, 6, none⟩ = some (.string ((rd_T47 l0 x13_1).f3)) := (blk_cell BK115.out 6).trans rfl
                            have hfz40_0 := blk_frozen BK115.out 0
                            have hfz40_1 := blk_frozen BK115.out 1
                            have hfz40_2 := blk_frozen BK115.out 2
                            have hfz40_3 := blk_frozen BK115.out 3
                            have hfz40_4 := blk_frozen BK115.out 4
                            have hfz40_5 := blk_frozen BK115.out 5
                            have hfz40_6 := blk_frozen BK115.out 6
                            have hcz41_0 : wc.cell? ⟨gb117, 0, none⟩ = some (.int .i64 ((rd_T47 l0 x13_1).f0)) := (blk_cell BK117.out 0).trans rfl
                            have hcz41_1 : wc.cell? ⟨gb117, 1, none⟩ = some (.int .u64 0) := (blk_cell BK117.out 1).trans rfl
                            have hcz41_2 : wc.cell? ⟨gb117, 2, none⟩ = some (.int .u64 0) := (blk_cell BK117.out 2).trans rfl
                            have hcz41_3 : wc.cell? ⟨gb117, 3, none⟩ = some (.int .u64 0) := (blk_cell BK117.out 3).trans rfl
                            have hcz41_4 : wc.cell? ⟨gb117, 4, none⟩ = some (.int .u64 0) := (blk_cell BK117.out 4).trans rfl
                            have hcz41_5 : wc.cell? ⟨gb117, 5, none⟩ = some (.int .i64 0) := (blk_cell BK117.out 5).trans rfl
                            have hcz41_6 : wc.cell? ⟨gb117, 6, none⟩ = some (.string (⟨#[]⟩ : ByteArray)) := (blk_cell BK117.out 6).trans rfl
                            have hfz41_0 := blk_frozen BK117.out 0
                            have hfz41_1 := blk_frozen BK117.out 1
                            have hfz41_2 := blk_frozen BK117.out 2
                            have hfz41_3 := blk_frozen BK117.out 3
                            have hfz41_4 := blk_frozen BK117.out 4
                            have hfz41_5 := blk_frozen BK117.out 5
                            have hfz41_6 := blk_frozen BK117.out 6
                            go_wp2
                            go_roundg kj6
                            case measure => have := HK1.out; have := HJ6.out; omega
                            case rel => exact ⟨(wrap64 (x5_1 + (wrap64 (1 - t116)))), (wrap64 (x13_1 + 1)), (by first | rfl | (simp; done) | (simp [*]; done)), (by first | rfl | (simp; done) | (simp [*]; done)), H', ⟨by have := HK1.out; have := HJ6.out; omega⟩, ⟨by repeat (first | (with_reducible first | exact HB.out | apply below_alloc | apply pw_below_drewN | apply below_drew1 | refine below_set ?_ GE115.out | refine below_set ?_ GE117.out) | exact HB.out)⟩⟩
                        · rw [if_neg c34] at H
                          have c34b0 : decide (((rd_T47 l0 x13_1).f2) < a1) = false := decide_eq_false c34
                          clear c34
                          obtain rfl := Option.some.inj H
                          have hnb42 := NB115_117.out
                          have hnc42 := NB117_115.out
                          have hcz43_0 : wc.cell? ⟨gb115, 0, none⟩ = some (.int .i64 ((rd_T47 l0 x13_1).f0)) := (blk_cell BK115.out 0).trans rfl
                          have hcz43_1 : wc.cell? ⟨gb115, 1, none⟩ = some (.int .u64 ((rd_T47 l0 x13_1).f1.f0)) := (blk_cell BK115.out 1).trans rfl
                          have hcz43_2 : wc.cell? ⟨gb115, 2, none⟩ = some (.int .u64 ((rd_T47 l0 x13_1).f1.f1)) := (blk_cell BK115.out 2).trans rfl
                          have hcz43_3 : wc.cell? ⟨gb115, 3, none⟩ = some (.int .u64 ((rd_T47 l0 x13_1).f1.f2)) := (blk_cell BK115.out 3).trans rfl
                          have hcz43_4 : wc.cell? ⟨gb115, 4, none⟩ = some (.int .u64 ((rd_T47 l0 x13_1).f1.f3)) := (blk_cell BK115.out 4).trans rfl
                          have hcz43_5 : wc.cell? ⟨gb115, 5, none⟩ = some (.int .i64 ((rd_T47 l0 x13_1).f2)) := (blk_cell BK115.out 5).trans rfl
                          have hcz43_6 : wc.cell? ⟨gb115, 6, none⟩ = some (.string ((rd_T47 l0 x13_1).f3)) := (blk_cell BK115.out 6).trans rfl
                          have hfz43_0 := blk_frozen BK115.out 0
                          have hfz43_1 := blk_frozen BK115.out 1
                          have hfz43_2 := blk_frozen BK115.out 2
                          have hfz43_3 := blk_frozen BK115.out 3
                          have hfz43_4 := blk_frozen BK115.out 4
                          have hfz43_5 := blk_frozen BK115.out 5
                          have hfz43_6 := blk_frozen BK115.out 6
                          have hcz44_0 : wc.cell? ⟨gb117, 0, none⟩ = some (.int .i64 ((rd_T47 l0 x13_1).f0)) := (blk_cell BK117.out 0).trans rfl
                          have hcz44_1 : wc.cell? ⟨gb117, 1, none⟩ = some (.int .u64 0) := (blk_cell BK117.out 1).trans rfl
                          have hcz44_2 : wc.cell? ⟨gb117, 2, none⟩ = some (.int .u64 0) := (blk_cell BK117.out 2).trans rfl
                          have hcz44_3 : wc.cell? ⟨gb117, 3, none⟩ = some (.int .u64 0) := (blk_cell BK117.out 3).trans rfl
                          have hcz44_4 : wc.cell? ⟨gb117, 4, none⟩ = some (.int .u64 0) := (blk_cell BK117.out 4).trans rfl
                          have hcz44_5 : wc.cell? ⟨gb117, 5, none⟩ = some (.int .i64 0) := (blk_cell BK117.out 5).trans rfl
                          have hcz44_6 : wc.cell? ⟨gb117, 6, none⟩ = some (.string (⟨#[]⟩ : ByteArray)) := (blk_cell BK117.out 6).trans rfl
                          have hfz44_0 := blk_frozen BK117.out 0
                          have hfz44_1 := blk_frozen BK117.out 1
                          have hfz44_2 := blk_frozen BK117.out 2
                          have hfz44_3 := blk_frozen BK117.out 3
                          have hfz44_4 := blk_frozen BK117.out 4
                          have hfz44_5 := blk_frozen BK117.out 5
                          have hfz44_6 := blk_frozen BK117.out 6
                          go_wp2
                          go_ret
                          exact ⟨by first | rfl | (simp [errW_none, errW_some] <;> rfl) | (simp [*, errW_none, errW_some] <;> rfl), by repeat (first | (with_reducible first | exact HB.out | apply below_alloc | apply pw_below_drewN | apply below_drew1 | refine below_set ?_ GE115.out | refine below_set ?_ GE117.out) | exact HB.out)⟩
                      · rw [if_neg c33] at H
                        have c33b0 : decide (0 ≤ ((rd_T47 l0 x13_1).f2)) = false := decide_eq_false c33
                        clear c33
                        obtain rfl := Option.some.inj H
                        have hnb45 := NB115_117.out
                        have hnc45 := NB117_115.out
                        have hcz46_0 : wc.cell? ⟨gb115, 0, none⟩ = some (.int .i64 ((rd_T47 l0 x13_1).f0)) := (blk_cell BK115.out 0).trans rfl
                        have hcz46_1 : wc.cell? ⟨gb115, 1, none⟩ = some (.int .u64 ((rd_T47 l0 x13_1).f1.f0)) := (blk_cell BK115.out 1).trans rfl
                        have hcz46_2 : wc.cell? ⟨gb115, 2, none⟩ = some (.int .u64 ((rd_T47 l0 x13_1).f1.f1)) := (blk_cell BK115.out 2).trans rfl
                        have hcz46_3 : wc.cell? ⟨gb115, 3, none⟩ = some (.int .u64 ((rd_T47 l0 x13_1).f1.f2)) := (blk_cell BK115.out 3).trans rfl
                        have hcz46_4 : wc.cell? ⟨gb115, 4, none⟩ = some (.int .u64 ((rd_T47 l0 x13_1).f1.f3)) := (blk_cell BK115.out 4).trans rfl
                        have hcz46_5 : wc.cell? ⟨gb115, 5, none⟩ = some (.int .i64 ((rd_T47 l0 x13_1).f2)) := (blk_cell BK115.out 5).trans rfl
                        have hcz46_6 : wc.cell? ⟨gb115, 6, none⟩ = some (.string ((rd_T47 l0 x13_1).f3)) := (blk_cell BK115.out 6).trans rfl
                        have hfz46_0 := blk_frozen BK115.out 0
                        have hfz46_1 := blk_frozen BK115.out 1
                        have hfz46_2 := blk_frozen BK115.out 2
                        have hfz46_3 := blk_frozen BK115.out 3
                        have hfz46_4 := blk_frozen BK115.out 4
                        have hfz46_5 := blk_frozen BK115.out 5
                        have hfz46_6 := blk_frozen BK115.out 6
                        have hcz47_0 : wc.cell? ⟨gb117, 0, none⟩ = some (.int .i64 ((rd_T47 l0 x13_1).f0)) := (blk_cell BK117.out 0).trans rfl
                        have hcz47_1 : wc.cell? ⟨gb117, 1, none⟩ = some (.int .u64 0) := (blk_cell BK117.out 1).trans rfl
                        have hcz47_2 : wc.cell? ⟨gb117, 2, none⟩ = some (.int .u64 0) := (blk_cell BK117.out 2).trans rfl
                        have hcz47_3 : wc.cell? ⟨gb117, 3, none⟩ = some (.int .u64 0) := (blk_cell BK117.out 3).trans rfl
                        have hcz47_4 : wc.cell? ⟨gb117, 4, none⟩ = some (.int .u64 0) := (blk_cell BK117.out 4).trans rfl
                        have hcz47_5 : wc.cell? ⟨gb117, 5, none⟩ = some (.int .i64 0) := (blk_cell BK117.out 5).trans rfl
                        have hcz47_6 : wc.cell? ⟨gb117, 6, none⟩ = some (.string (⟨#[]⟩ : ByteArray)) := (blk_cell BK117.out 6).trans rfl
                        have hfz47_0 := blk_frozen BK117.out 0
                        have hfz47_1 := blk_frozen BK117.out 1
                        have hfz47_2 := blk_frozen BK117.out 2
                        have hfz47_3 := blk_frozen BK117.out 3
                        have hfz47_4 := blk_frozen BK117.out 4
                        have hfz47_5 := blk_frozen BK117.out 5
                        have hfz47_6 := blk_frozen BK117.out 6
                        go_wp2
                        go_ret
                        exact ⟨by first | rfl | (simp [errW_none, errW_some] <;> rfl) | (simp [*, errW_none, errW_some] <;> rfl), by repeat (first | (with_reducible first | exact HB.out | apply below_alloc | apply pw_below_drewN | apply below_drew1 | refine below_set ?_ GE115.out | refine below_set ?_ GE117.out) | exact HB.out)⟩
                    · replace c32 := Bool.eq_false_iff.mpr c32
                      subst c32
                      have H1 : (some false) = some r := by rw [if_neg (show ¬ (false = true) by decide)] at H; exact H
                      clear H
                      have H := H1
                      clear H1
                      obtain rfl := Option.some.inj H
                      have hnb48 := NB115_117.out
                      have hnc48 := NB117_115.out
                      have hcz49_0 : wc.cell? ⟨gb115, 0, none⟩ = some (.int .i64 ((rd_T47 l0 x13_1).f0)) := (blk_cell BK115.out 0).trans rfl
                      have hcz49_1 : wc.cell? ⟨gb115, 1, none⟩ = some (.int .u64 ((rd_T47 l0 x13_1).f1.f0)) := (blk_cell BK115.out 1).trans rfl
                      have hcz49_2 : wc.cell? ⟨gb115, 2, none⟩ = some (.int .u64 ((rd_T47 l0 x13_1).f1.f1)) := (blk_cell BK115.out 2).trans rfl
                      have hcz49_3 : wc.cell? ⟨gb115, 3, none⟩ = some (.int .u64 ((rd_T47 l0 x13_1).f1.f2)) := (blk_cell BK115.out 3).trans rfl
                      have hcz49_4 : wc.cell? ⟨gb115, 4, none⟩ = some (.int .u64 ((rd_T47 l0 x13_1).f1.f3)) := (blk_cell BK115.out 4).trans rfl
                      have hcz49_5 : wc.cell? ⟨gb115, 5, none⟩ = some (.int .i64 ((rd_T47 l0 x13_1).f2)) := (blk_cell BK115.out 5).trans rfl
                      have hcz49_6 : wc.cell? ⟨gb115, 6, none⟩ = some (.string ((rd_T47 l0 x13_1).f3)) := (blk_cell BK115.out 6).trans rfl
                      have hfz49_0 := blk_frozen BK115.out 0
                      have hfz49_1 := blk_frozen BK115.out 1
                      have hfz49_2 := blk_frozen BK115.out 2
                      have hfz49_3 := blk_frozen BK115.out 3
                      have hfz49_4 := blk_frozen BK115.out 4
                      have hfz49_5 := blk_frozen BK115.out 5
                      have hfz49_6 := blk_frozen BK115.out 6
                      have hcz50_0 : wc.cell? ⟨gb117, 0, none⟩ = some (.int .i64 ((rd_T47 l0 x13_1).f0)) := (blk_cell BK117.out 0).trans rfl
                      have hcz50_1 : wc.cell? ⟨gb117, 1, none⟩ = some (.int .u64 0) := (blk_cell BK117.out 1).trans rfl
                      have hcz50_2 : wc.cell? ⟨gb117, 2, none⟩ = some (.int .u64 0) := (blk_cell BK117.out 2).trans rfl
                      have hcz50_3 : wc.cell? ⟨gb117, 3, none⟩ = some (.int .u64 0) := (blk_cell BK117.out 3).trans rfl
                      have hcz50_4 : wc.cell? ⟨gb117, 4, none⟩ = some (.int .u64 0) := (blk_cell BK117.out 4).trans rfl
                      have hcz50_5 : wc.cell? ⟨gb117, 5, none⟩ = some (.int .i64 0) := (blk_cell BK117.out 5).trans rfl
                      have hcz50_6 : wc.cell? ⟨gb117, 6, none⟩ = some (.string (⟨#[]⟩ : ByteArray)) := (blk_cell BK117.out 6).trans rfl
                      have hfz50_0 := blk_frozen BK117.out 0
                      have hfz50_1 := blk_frozen BK117.out 1
                      have hfz50_2 := blk_frozen BK117.out 2
                      have hfz50_3 := blk_frozen BK117.out 3
                      have hfz50_4 := blk_frozen BK117.out 4
                      have hfz50_5 := blk_frozen BK117.out 5
                      have hfz50_6 := blk_frozen BK117.out 6
                      go_wp2
                      go_ret
                      exact ⟨by first | rfl | (simp [errW_none, errW_some] <;> rfl) | (simp [*, errW_none, errW_some] <;> rfl), by repeat (first | (with_reducible first | exact HB.out | apply below_alloc | apply pw_below_drewN | apply below_drew1 | refine below_set ?_ GE115.out | refine below_set ?_ GE117.out) | exact HB.out)⟩
                  · rw [if_neg c31] at H
                    have c31b0 : (((rd_T47 l0 x13_1).f0) == 2) = false := beq_eq_false_iff_ne.mpr c31
                    have c31b1 : (((rd_T47 l0 x13_1).f0) != 2) = true := bne_iff_ne.mpr c31
                    have HC51 := Aside0.mk H
                    clear H
                    have hnb52 := NB115_117.out
                    have hnc52 := NB117_115.out
                    have hcz53_0 : wc.cell? ⟨gb115, 0, none⟩ = some (.int .i64 ((rd_T47 l0 x13_1).f0)) := (blk_cell BK115.out 0).trans rfl
                    have hcz53_1 : wc.cell? ⟨gb115, 1, none⟩ = some (.int .u64 ((rd_T47 l0 x13_1).f1.f0)) := (blk_cell BK115.out 1).trans rfl
                    have hcz53_2 : wc.cell? ⟨gb115, 2, none⟩ = some (.int .u64 ((rd_T47 l0 x13_1).f1.f1)) := (blk_cell BK115.out 2).trans rfl
                    have hcz53_3 : wc.cell? ⟨gb115, 3, none⟩ = some (.int .u64 ((rd_T47 l0 x13_1).f1.f2)) := (blk_cell BK115.out 3).trans rfl
                    have hcz53_4 : wc.cell? ⟨gb115, 4, none⟩ = some (.int .u64 ((rd_T47 l0 x13_1).f1.f3)) := (blk_cell BK115.out 4).trans rfl
                    have hcz53_5 : wc.cell? ⟨gb115, 5, none⟩ = some (.int .i64 ((rd_T47 l0 x13_1).f2)) := (blk_cell BK115.out 5).trans rfl
                    have hcz53_6 : wc.cell? ⟨gb115, 6, none⟩ = some (.string ((rd_T47 l0 x13_1).f3)) := (blk_cell BK115.out 6).trans rfl
                    have hfz53_0 := blk_frozen BK115.out 0
                    have hfz53_1 := blk_frozen BK115.out 1
                    have hfz53_2 := blk_frozen BK115.out 2
                    have hfz53_3 := blk_frozen BK115.out 3
                    have hfz53_4 := blk_frozen BK115.out 4
                    have hfz53_5 := blk_frozen BK115.out 5
                    have hfz53_6 := blk_frozen BK115.out 6
                    go_upto_if 60 with (fail)
                    go_cut [60] (fun v60 wc => ∃ (kq : Nat) (x60_50 : Bool), v60 = .bool x60_50 ∧ Aside0 (core_right.j2 kq a1 x5_1 t116 x10_6 l0 (l0.length : Int) x13_1 x60_50 ((rd_T47 l0 x13_1).f0) ((rd_T47 l0 x13_1).f1.f0) ((rd_T47 l0 x13_1).f1.f1) ((rd_T47 l0 x13_1).f1.f2) ((rd_T47 l0 x13_1).f1.f3) ((rd_T47 l0 x13_1).f2) ((rd_T47 l0 x13_1).f3) ((rd_T47 l0 x13_1).f0) 0 0 0 0 0 (⟨#[]⟩ : ByteArray) = some r) ∧ Aside0 (kq ≤ kj6) ∧ Aside0 (wc.heap[gb115]? = some (.cells #[.int .i64 ((rd_T47 l0 x13_1).f0), .int .u64 ((rd_T47 l0 x13_1).f1.f0), .int .u64 ((rd_T47 l0 x13_1).f1.f1), .int .u64 ((rd_T47 l0 x13_1).f1.f2), .int .u64 ((rd_T47 l0 x13_1).f1.f3), .int .i64 ((rd_T47 l0 x13_1).f2), .string ((rd_T47 l0 x13_1).f3)] 47 (0, 0))) ∧ Aside0 (wc.heap[gb117]? = some (.cells #[.int .i64 ((rd_T47 l0 x13_1).f0), .int .u64 0, .int .u64 0, .int .u64 0, .int .u64 0, .int .i64 0, .string (⟨#[]⟩ : ByteArray)] 47 (0, 0))) ∧ Aside0 (Below w.heap.size w wc))
                    case first =>
                      have H := HC51.out
                      clear HC51
                      by_cases c54 : ((rd_T47 l0 x13_1).f0) = 3
                      · rw [if_pos c54] at H
                        have c54b0 : (((rd_T47 l0 x13_1).f0) == 3) = true := beq_iff_eq.mpr c54
                        have c54b1 : (((rd_T47 l0 x13_1).f0) != 3) = false := bne_eq_false_iff_eq.mpr c54
                        clear c54
                        (first | rw [c54b0] | (simp only [i64_w, i32_w]; rw [c54b0]) | skip)
                        have H' := Aside0.mk H
                        clear H
                        go_wp2
                        go_meet
                        case rel => exact ⟨_, ((((rd_T47 l0 x13_1).f0) == 3)), (by first | rfl | (simp; done) | (simp [*]; done)), H', ⟨by have := HK1.out; have := HJ6.out; first | omega | exact Nat.le_refl _⟩, ⟨by (with_reducible repeat (first | refine blk_drewN ?_ _ | refine blk_drew ?_ | refine blk_alloc ?_ _)); exact BK115.out⟩, ⟨by (with_reducible repeat (first | refine blk_drewN ?_ _ | refine blk_drew ?_ | refine blk_alloc ?_ _)); exact BK117.out⟩, ⟨by repeat (first | (with_reducible first | exact HB.out | apply below_alloc | apply pw_below_drewN | apply below_drew1 | refine below_set ?_ GE115.out | refine below_set ?_ GE117.out) | exact HB.out)⟩⟩
                      · rw [if_neg c54] at H
                        have c54b0 : (((rd_T47 l0 x13_1).f0) == 3) = false := beq_eq_false_iff_ne.mpr c54
                        have c54b1 : (((rd_T47 l0 x13_1).f0) != 3) = true := bne_iff_ne.mpr c54
                        (first | rw [c54b0] | (simp only [i64_w, i32_w]; rw [c54b0]) | skip)
                        have H' := Aside0.mk H
                        clear H
                        go_wp2
                        go_meet
                        case rel => exact ⟨_, ((((rd_T47 l0 x13_1).f0) == 8)), (by first | rfl | (simp; done) | (simp [*]; done)), H', ⟨by have := HK1.out; have := HJ6.out; first | omega | exact Nat.le_refl _⟩, ⟨by (with_reducible repeat (first | refine blk_drewN ?_ _ | refine blk_drew ?_ | refine blk_alloc ?_ _)); exact BK115.out⟩, ⟨by (with_reducible repeat (first | refine blk_drewN ?_ _ | refine blk_drew ?_ | refine blk_alloc ?_ _)); exact BK117.out⟩, ⟨by repeat (first | (with_reducible first | exact HB.out | apply below_alloc | apply pw_below_drewN | apply below_drew1 | refine below_set ?_ GE115.out | refine below_set ?_ GE117.out) | exact HB.out)⟩⟩
                    case rest =>
                      clear HC51
                      try clear c1
                      try clear p1
                      try clear q1
                      try clear hx1
                      try clear c2
                      try clear p2
                      try clear c3
                      try clear c3b0
                      try clear c4
                      try clear c4b0
                      try clear c5
                      try clear c5b0
                      try clear p6
                      try clear c11
                      try clear p11
                      try clear q11
                      try clear hx11
                      try clear c13
                      try clear c13b0
                      try clear c14
                      try clear c14b0
                      try clear c15
                      try clear c17
                      try clear c19
                      try clear c19b0
                      try clear c19b1
                      try clear c20
                      try clear c21
                      try clear c21b0
                      try clear c22
                      try clear c25
                      try clear c28
                      try clear c31
                      try clear c31b0
                      try clear c31b1
                      try clear c32
                      try clear c33
                      try clear c33b0
                      try clear c34
                      try clear c34b0
                      try clear c35
                      try clear c35b0
                      try clear c36
                      try clear c39
                      try clear c42
                      try clear c45
                      try clear c48
                      try clear c52
                      try clear c54
                      try clear c54b0
                      try clear c54b1
                      try clear hcz12_0
                      try clear hcz12_1
                      try clear hcz12_2
                      try clear hcz12_3
                      try clear hcz12_4
                      try clear hcz12_5
                      try clear hcz12_6
                      try clear hcz16_0
                      try clear hcz16_1
                      try clear hcz16_2
                      try clear hcz16_3
                      try clear hcz16_4
                      try clear hcz16_5
                      try clear hcz16_6
                      try clear hcz18_0
                      try clear hcz18_1
                      try clear hcz18_2
                      try clear hcz18_3
                      try clear hcz18_4
                      try clear hcz18_5
                      try clear hcz18_6
                      try clear hcz23_0
                      try clear hcz23_1
                      try clear hcz23_2
                      try clear hcz23_3
                      try clear hcz23_4
                      try clear hcz23_5
                      try clear hcz23_6
                      try clear hcz24_0
                      try clear hcz24_1
                      try clear hcz24_2
                      try clear hcz24_3
                      try clear hcz24_4
                      try clear hcz24_5
                      try clear hcz24_6
                      try clear hcz26_0
                      try clear hcz26_1
                      try clear hcz26_2
                      try clear hcz26_3
                      try clear hcz26_4
                      try clear hcz26_5
                      try clear hcz26_6
                      try clear hcz27_0
                      try clear hcz27_1
                      try clear hcz27_2
                      try clear hcz27_3
                      try clear hcz27_4
                      try clear hcz27_5
                      try clear hcz27_6
                      try clear hcz29_0
                      try clear hcz29_1
                      try clear hcz29_2
                      try clear hcz29_3
                      try clear hcz29_4
                      try clear hcz29_5
                      try clear hcz29_6
                      try clear hcz30_0
                      try clear hcz30_1
                      try clear hcz30_2
                      try clear hcz30_3
                      try clear hcz30_4
                      try clear hcz30_5
                      try clear hcz30_6
                      try clear hcz37_0
                      try clear hcz37_1
                      try clear hcz37_2
                      try clear hcz37_3
                      try clear hcz37_4
                      try clear hcz37_5
                      try clear hcz37_6
                      try clear hcz38_0
                      try clear hcz38_1
                      try clear hcz38_2
                      try clear hcz38_3
                      try clear hcz38_4
                      try clear hcz38_5
                      try clear hcz38_6
                      try clear hcz40_0
                      try clear hcz40_1
                      try clear hcz40_2
                      try clear hcz40_3
                      try clear hcz40_4
                      try clear hcz40_5
                      try clear hcz40_6
                      try clear hcz41_0
                      try clear hcz41_1
                      try clear hcz41_2
                      try clear hcz41_3
                      try clear hcz41_4
                      try clear hcz41_5
                      try clear hcz41_6
                      try clear hcz43_0
                      try clear hcz43_1
                      try clear hcz43_2
                      try clear hcz43_3
                      try clear hcz43_4
                      try clear hcz43_5
                      try clear hcz43_6
                      try clear hcz44_0
                      try clear hcz44_1
                      try clear hcz44_2
                      try clear hcz44_3
                      try clear hcz44_4
                      try clear hcz44_5
                      try clear hcz44_6
                      try clear hcz46_0
                      try clear hcz46_1
                      try clear hcz46_2
                      try clear hcz46_3
                      try clear hcz46_4
                      try clear hcz46_5
                      try clear hcz46_6
                      try clear hcz47_0
                      try clear hcz47_1
                      try clear hcz47_2
                      try clear hcz47_3
                      try clear hcz47_4
                      try clear hcz47_5
                      try clear hcz47_6
                      try clear hcz49_0
                      try clear hcz49_1
                      try clear hcz49_2
                      try clear hcz49_3
                      try clear hcz49_4
                      try clear hcz49_5
                      try clear hcz49_6
                      try clear hcz50_0
                      try clear hcz50_1
                      try clear hcz50_2
                      try clear hcz50_3
                      try clear hcz50_4
                      try clear hcz50_5
                      try clear hcz50_6
                      try clear hcz53_0
                      try clear hcz53_1
                      try clear hcz53_2
                      try clear hcz53_3
                      try clear hcz53_4
                      try clear hcz53_5
                      try clear hcz53_6
                      try clear hcz9_0
                      try clear hcz9_1
                      try clear hcz9_2
                      try clear hcz9_3
                      try clear hcz9_4
                      try clear hcz9_5
                      try clear hcz9_6
                      try clear hfz12_0
                      try clear hfz12_1
                      try clear hfz12_2
                      try clear hfz12_3
                      try clear hfz12_4
                      try clear hfz12_5
                      try clear hfz12_6
                      try clear hfz16_0
                      try clear hfz16_1
                      try clear hfz16_2
                      try clear hfz16_3
                      try clear hfz16_4
                      try clear hfz16_5
                      try clear hfz16_6
                      try clear hfz18_0
                      try clear hfz18_1
                      try clear hfz18_2
                      try clear hfz18_3
                      try clear hfz18_4
                      try clear hfz18_5
                      try clear hfz18_6
                      try clear hfz23_0
                      try clear hfz23_1
                      try clear hfz23_2
                      try clear hfz23_3
                      try clear hfz23_4
                      try clear hfz23_5
                      try clear hfz23_6
                      try clear hfz24_0
                      try clear hfz24_1
                      try clear hfz24_2
                      try clear hfz24_3
                      try clear hfz24_4
                      try clear hfz24_5
                      try clear hfz24_6
                      try clear hfz26_0
                      try clear hfz26_1
                      try clear hfz26_2
                      try clear hfz26_3
                      try clear hfz26_4
                      try clear hfz26_5
                      try clear hfz26_6
                      try clear hfz27_0
                      try clear hfz27_1
                      try clear hfz27_2
                      try clear hfz27_3
                      try clear hfz27_4
                      try clear hfz27_5
                      try clear hfz27_6
                      try clear hfz29_0
                      try clear hfz29_1
                      try clear hfz29_2
                      try clear hfz29_3
                      try clear hfz29_4
                      try clear hfz29_5
                      try clear hfz29_6
                      try clear hfz30_0
                      try clear hfz30_1
                      try clear hfz30_2
                      try clear hfz30_3
                      try clear hfz30_4
                      try clear hfz30_5
                      try clear hfz30_6
                      try clear hfz37_0
                      try clear hfz37_1
                      try clear hfz37_2
                      try clear hfz37_3
                      try clear hfz37_4
                      try clear hfz37_5
                      try clear hfz37_6
                      try clear hfz38_0
                      try clear hfz38_1
                      try clear hfz38_2
                      try clear hfz38_3
                      try clear hfz38_4
                      try clear hfz38_5
                      try clear hfz38_6
                      try clear hfz40_0
                      try clear hfz40_1
                      try clear hfz40_2
                      try clear hfz40_3
                      try clear hfz40_4
                      try clear hfz40_5
                      try clear hfz40_6
                      try clear hfz41_0
                      try clear hfz41_1
                      try clear hfz41_2
                      try clear hfz41_3
                      try clear hfz41_4
                      try clear hfz41_5
                      try clear hfz41_6
                      try clear hfz43_0
                      try clear hfz43_1
                      try clear hfz43_2
                      try clear hfz43_3
                      try clear hfz43_4
                      try clear hfz43_5
                      try clear hfz43_6
                      try clear hfz44_0
                      try clear hfz44_1
                      try clear hfz44_2
                      try clear hfz44_3
                      try clear hfz44_4
                      try clear hfz44_5
                      try clear hfz44_6
                      try clear hfz46_0
                      try clear hfz46_1
                      try clear hfz46_2
                      try clear hfz46_3
                      try clear hfz46_4
                      try clear hfz46_5
                      try clear hfz46_6
                      try clear hfz47_0
                      try clear hfz47_1
                      try clear hfz47_2
                      try clear hfz47_3
                      try clear hfz47_4
                      try clear hfz47_5
                      try clear hfz47_6
                      try clear hfz49_0
                      try clear hfz49_1
                      try clear hfz49_2
                      try clear hfz49_3
                      try clear hfz49_4
                      try clear hfz49_5
                      try clear hfz49_6
                      try clear hfz50_0
                      try clear hfz50_1
                      try clear hfz50_2
                      try clear hfz50_3
                      try clear hfz50_4
                      try clear hfz50_5
                      try clear hfz50_6
                      try clear hfz53_0
                      try clear hfz53_1
                      try clear hfz53_2
                      try clear hfz53_3
                      try clear hfz53_4
                      try clear hfz53_5
                      try clear hfz53_6
                      try clear hfz9_0
                      try clear hfz9_1
                      try clear hfz9_2
                      try clear hfz9_3
                      try clear hfz9_4
                      try clear hfz9_5
                      try clear hfz9_6
                      try clear hx114_0
                      try clear hx114_1
                      try clear hx114_2
                      try clear hx114_3
                      try clear hx114_4
                      try clear hx114_5
                      try clear hx114_6
                      try clear p1
                      try clear p11
                      try clear p114
                      try clear p2
                      try clear q1
                      try clear q11
                      try clear q114
                      obtain ⟨kq, x60_50, rfl, HA, HJ50, BK115, BK117, HB⟩ := hcut
                      cases kq with
                      | zero => exact absurd HA.out (by simp [core_right.j2])
                      | succ kj50 =>
                        have H := HA.out
                        clear HA
                        simp only [core_right.j2] at H
                        by_cases c55 : x60_50 = true
                        · subst c55
                          have H1 : (if x10_6 = true then ((lexis_Name.f ((rd_T47 l0 x13_1).f3)).bind fun t118 => (if t118 = true then ((strings_ContainsAny.f ((rd_T47 l0 x13_1).f3) (⟨#[58, 126]⟩ : ByteArray)).bind fun t119 => (if t119 = true then (some false) else (if (!(((rd_T47 l0 x13_1).f0) == ((rd_T47 l0 x13_1).f0)) || ((!(((rd_T47 l0 x13_1).f1.f0) == 0) || (!(((rd_T47 l0 x13_1).f1.f1) == 0) || (!(((rd_T47 l0 x13_1).f1.f2) == 0) || (!(((rd_T47 l0 x13_1).f1.f3) == 0))))) || (!(((rd_T47 l0 x13_1).f2) == 0)))) = true then (some false) else (core_right.l0 kj50 a1 (wrap64 (x5_1 + (wrap64 (1 - t116)))) l0 (l0.length : Int) (wrap64 (x13_1 + 1)))))) else (some false))) else (some false)) = some r := by rw [if_pos rfl] at H; exact H
                          clear H
                          have H := H1
                          clear H1
                          by_cases c56 : x10_6 = true
                          · subst c56
                            have H1 : ((lexis_Name.f ((rd_T47 l0 x13_1).f3)).bind fun t118 => (if t118 = true then ((strings_ContainsAny.f ((rd_T47 l0 x13_1).f3) (⟨#[58, 126]⟩ : ByteArray)).bind fun t119 => (if t119 = true then (some false) else (if (!(((rd_T47 l0 x13_1).f0) == ((rd_T47 l0 x13_1).f0)) || ((!(((rd_T47 l0 x13_1).f1.f0) == 0) || (!(((rd_T47 l0 x13_1).f1.f1) == 0) || (!(((rd_T47 l0 x13_1).f1.f2) == 0) || (!(((rd_T47 l0 x13_1).f1.f3) == 0))))) || (!(((rd_T47 l0 x13_1).f2) == 0)))) = true then (some false) else (core_right.l0 kj50 a1 (wrap64 (x5_1 + (wrap64 (1 - t116)))) l0 (l0.length : Int) (wrap64 (x13_1 + 1)))))) else (some false))) = some r := by rw [if_pos rfl] at H; exact H
                            clear H
                            have H := H1
                            clear H1
                            replace H := Option.bind_eq_some_iff.mp H
                            obtain ⟨t118, A570, H⟩ := H
                            replace H : (if t118 = true then ((strings_ContainsAny.f ((rd_T47 l0 x13_1).f3) (⟨#[58, 126]⟩ : ByteArray)).bind fun t119 => (if t119 = true then (some false) else (if (!(((rd_T47 l0 x13_1).f0) == ((rd_T47 l0 x13_1).f0)) || ((!(((rd_T47 l0 x13_1).f1.f0) == 0) || (!(((rd_T47 l0 x13_1).f1.f1) == 0) || (!(((rd_T47 l0 x13_1).f1.f2) == 0) || (!(((rd_T47 l0 x13_1).f1.f3) == 0))))) || (!(((rd_T47 l0 x13_1).f2) == 0)))) = true then (some false) else (core_right.l0 kj50 a1 (wrap64 (x5_1 + (wrap64 (1 - t116)))) l0 (l0.length : Int) (wrap64 (x13_1 + 1)))))) else (some false)) = some r := H
                            have A57 := Aside0.mk A570
                            clear A570
                            by_cases c58 : t118 = true
                            · subst c58
                              have H1 : ((strings_ContainsAny.f ((rd_T47 l0 x13_1).f3) (⟨#[58, 126]⟩ : ByteArray)).bind fun t119 => (if t119 = true then (some false) else (if (!(((rd_T47 l0 x13_1).f0) == ((rd_T47 l0 x13_1).f0)) || ((!(((rd_T47 l0 x13_1).f1.f0) == 0) || (!(((rd_T47 l0 x13_1).f1.f1) == 0) || (!(((rd_T47 l0 x13_1).f1.f2) == 0) || (!(((rd_T47 l0 x13_1).f1.f3) == 0))))) || (!(((rd_T47 l0 x13_1).f2) == 0)))) = true then (some false) else (core_right.l0 kj50 a1 (wrap64 (x5_1 + (wrap64 (1 - t116)))) l0 (l0.length : Int) (wrap64 (x13_1 + 1)))))) = some r := by rw [if_pos rfl] at H; exact H
                              clear H
                              have H := H1
                              clear H1
                              replace H := Option.bind_eq_some_iff.mp H
                              obtain ⟨t119, A590, H⟩ := H
                              replace H : (if t119 = true then (some false) else (if (!(((rd_T47 l0 x13_1).f0) == ((rd_T47 l0 x13_1).f0)) || ((!(((rd_T47 l0 x13_1).f1.f0) == 0) || (!(((rd_T47 l0 x13_1).f1.f1) == 0) || (!(((rd_T47 l0 x13_1).f1.f2) == 0) || (!(((rd_T47 l0 x13_1).f1.f3) == 0))))) || (!(((rd_T47 l0 x13_1).f2) == 0)))) = true then (some false) else (core_right.l0 kj50 a1 (wrap64 (x5_1 + (wrap64 (1 - t116)))) l0 (l0.length : Int) (wrap64 (x13_1 + 1))))) = some r := H
                              have A59 := Aside0.mk A590
                              clear A590
                              by_cases c60 : t119 = true
                              · subst c60
                                have H1 : (some false) = some r := by rw [if_pos rfl] at H; exact H
                                clear H
                                have H := H1
                                clear H1
                                obtain rfl := Option.some.inj H
                                have hnb61 := NB115_117.out
                                have hnc61 := NB117_115.out
                                have hcz62_0 : wc.cell? ⟨gb115, 0, none⟩ = some (.int .i64 ((rd_T47 l0 x13_1).f0)) := (blk_cell BK115.out 0).trans rfl
                                have hcz62_1 : wc.cell? ⟨gb115, 1, none⟩ = some (.int .u64 ((rd_T47 l0 x13_1).f1.f0)) := (blk_cell BK115.out 1).trans rfl
                                have hcz62_2 : wc.cell? ⟨gb115, 2, none⟩ = some (.int .u64 ((rd_T47 l0 x13_1).f1.f1)) := (blk_cell BK115.out 2).trans rfl
                                have hcz62_3 : wc.cell? ⟨gb115, 3, none⟩ = some (.int .u64 ((rd_T47 l0 x13_1).f1.f2)) := (blk_cell BK115.out 3).trans rfl
                                have hcz62_4 : wc.cell? ⟨gb115, 4, none⟩ = some (.int .u64 ((rd_T47 l0 x13_1).f1.f3)) := (blk_cell BK115.out 4).trans rfl
                                have hcz62_5 : wc.cell? ⟨gb115, 5, none⟩ = some (.int .i64 ((rd_T47 l0 x13_1).f2)) := (blk_cell BK115.out 5).trans rfl
                                have hcz62_6 : wc.cell? ⟨gb115, 6, none⟩ = some (.string ((rd_T47 l0 x13_1).f3)) := (blk_cell BK115.out 6).trans rfl
                                have hfz62_0 := blk_frozen BK115.out 0
                                have hfz62_1 := blk_frozen BK115.out 1
                                have hfz62_2 := blk_frozen BK115.out 2
                                have hfz62_3 := blk_frozen BK115.out 3
                                have hfz62_4 := blk_frozen BK115.out 4
                                have hfz62_5 := blk_frozen BK115.out 5
                                have hfz62_6 := blk_frozen BK115.out 6
                                have hcz63_0 : wc.cell? ⟨gb117, 0, none⟩ = some (.int .i64 ((rd_T47 l0 x13_1).f0)) := (blk_cell BK117.out 0).trans rfl
                                have hcz63_1 : wc.cell? ⟨gb117, 1, none⟩ = some (.int .u64 0) := (blk_cell BK117.out 1).trans rfl
                                have hcz63_2 : wc.cell? ⟨gb117, 2, none⟩ = some (.int .u64 0) := (blk_cell BK117.out 2).trans rfl
                                have hcz63_3 : wc.cell? ⟨gb117, 3, none⟩ = some (.int .u64 0) := (blk_cell BK117.out 3).trans rfl
                                have hcz63_4 : wc.cell? ⟨gb117, 4, none⟩ = some (.int .u64 0) := (blk_cell BK117.out 4).trans rfl
                                have hcz63_5 : wc.cell? ⟨gb117, 5, none⟩ = some (.int .i64 0) := (blk_cell BK117.out 5).trans rfl
                                have hcz63_6 : wc.cell? ⟨gb117, 6, none⟩ = some (.string (⟨#[]⟩ : ByteArray)) := (blk_cell BK117.out 6).trans rfl
                                have hfz63_0 := blk_frozen BK117.out 0
                                have hfz63_1 := blk_frozen BK117.out 1
                                have hfz63_2 := blk_frozen BK117.out 2
                                have hfz63_3 := blk_frozen BK117.out 3
                                have hfz63_4 := blk_frozen BK117.out 4
                                have hfz63_5 := blk_frozen BK117.out 5
                                have hfz63_6 := blk_frozen BK117.out 6
                                go_wp2_with (first | (go_at_call 25; (with_reducible refine (lexis_Name.calls ((rd_T47 l0 x13_1).f3) true _ A57.out).mono ?_); rintro e w' ⟨rfl, ⟨nd, rfl⟩⟩) | (go_at_call 36; (with_reducible refine (strings_ContainsAny.calls ((rd_T47 l0 x13_1).f3) (⟨#[58, 126]⟩ : ByteArray) true _ A59.out).mono ?_); rintro e w64 ⟨rfl, hb⟩; have n0_ := Aside0.mk (blk_below (g := gb115) (o := .cells #[.int .i64 ((rd_T47 l0 x13_1).f0), .int .u64 ((rd_T47 l0 x13_1).f1.f0), .int .u64 ((rd_T47 l0 x13_1).f1.f1), .int .u64 ((rd_T47 l0 x13_1).f1.f2), .int .u64 ((rd_T47 l0 x13_1).f1.f3), .int .i64 ((rd_T47 l0 x13_1).f2), .string ((rd_T47 l0 x13_1).f3)] 47 (0, 0)) (by (with_reducible repeat (first | refine blk_drewN ?_ _ | refine blk_drew ?_ | refine blk_alloc ?_ _)); refine blk_far ?_ NB115_117.out _; (with_reducible repeat (first | refine blk_drewN ?_ _ | refine blk_drew ?_ | refine blk_alloc ?_ _)); exact BK115.out) hb); have n1_ := Aside0.mk (blk_below (g := gb117) (o := .cells #[.int .i64 ((rd_T47 l0 x13_1).f0), .int .u64 0, .int .u64 0, .int .u64 0, .int .u64 0, .int .i64 0, .string ((rd_T47 l0 x13_1).f3)] 47 (0, 0)) (by (with_reducible repeat (first | refine blk_drewN ?_ _ | refine blk_drew ?_ | refine blk_alloc ?_ _)); refine blk_put (cs := #[.int .i64 ((rd_T47 l0 x13_1).f0), .int .u64 0, .int .u64 0, .int .u64 0, .int .u64 0, .int .i64 0, .string (⟨#[]⟩ : ByteArray)]) ?_ 6 _ rfl; (with_reducible repeat (first | refine blk_drewN ?_ _ | refine blk_drew ?_ | refine blk_alloc ?_ _)); exact BK117.out) hb); have n2_ := Aside0.mk (below_step (by repeat (first | (with_reducible first | exact HB.out | apply below_alloc | apply pw_below_drewN | apply below_drew1 | refine below_set ?_ GE115.out | refine below_set ?_ GE117.out) | exact HB.out)) hb); clear BK115; clear BK117; clear HB; have BK115 := n0_; have BK117 := n1_; have HB := n2_; clear n0_ n1_ n2_; (try clear hb); (try clear hb2); (try clear hk); (try clear hi)))
                                go_ret
                                exact ⟨by first | rfl | (simp [errW_none, errW_some] <;> rfl) | (simp [*, errW_none, errW_some] <;> rfl), by repeat (first | (with_reducible first | exact HB.out | apply below_alloc | apply pw_below_drewN | apply below_drew1 | refine below_set ?_ GE115.out | refine below_set ?_ GE117.out) | exact HB.out)⟩
                              · replace c60 := Bool.eq_false_iff.mpr c60
                                subst c60
                                have H1 : (if (!(((rd_T47 l0 x13_1).f0) == ((rd_T47 l0 x13_1).f0)) || ((!(((rd_T47 l0 x13_1).f1.f0) == 0) || (!(((rd_T47 l0 x13_1).f1.f1) == 0) || (!(((rd_T47 l0 x13_1).f1.f2) == 0) || (!(((rd_T47 l0 x13_1).f1.f3) == 0))))) || (!(((rd_T47 l0 x13_1).f2) == 0)))) = true then (some false) else (core_right.l0 kj50 a1 (wrap64 (x5_1 + (wrap64 (1 - t116)))) l0 (l0.length : Int) (wrap64 (x13_1 + 1)))) = some r := by rw [if_neg (show ¬ (false = true) by decide)] at H; exact H
                                clear H
                                have H := H1
                                clear H1
                                by_cases c65 : (!(((rd_T47 l0 x13_1).f0) == ((rd_T47 l0 x13_1).f0)) || ((!(((rd_T47 l0 x13_1).f1.f0) == 0) || (!(((rd_T47 l0 x13_1).f1.f1) == 0) || (!(((rd_T47 l0 x13_1).f1.f2) == 0) || (!(((rd_T47 l0 x13_1).f1.f3) == 0))))) || (!(((rd_T47 l0 x13_1).f2) == 0)))) = true
                                · rw [if_pos c65] at H
                                  have c65b0 : (!(((rd_T47 l0 x13_1).f0) == ((rd_T47 l0 x13_1).f0)) || ((!(((rd_T47 l0 x13_1).f1.f0) == 0) || (!(((rd_T47 l0 x13_1).f1.f1) == 0) || (!(((rd_T47 l0 x13_1).f1.f2) == 0) || (!(((rd_T47 l0 x13_1).f1.f3) == 0))))) || (!(((rd_T47 l0 x13_1).f2) == 0)))) = true := c65
                                  (try have c65s : (((!(((rd_T47 l0 x13_1).f1.f0) == 0) || (!(((rd_T47 l0 x13_1).f1.f1) == 0) || (!(((rd_T47 l0 x13_1).f1.f2) == 0) || !(((rd_T47 l0 x13_1).f1.f3) == 0)))) || !(((rd_T47 l0 x13_1).f2) == 0))) = true := by simpa using c65)
                                  clear c65
                                  obtain rfl := Option.some.inj H
                                  have hnb66 := NB115_117.out
                                  have hnc66 := NB117_115.out
                                  have hcz67_0 : wc.cell? ⟨gb115, 0, none⟩ = some (.int .i64 ((rd_T47 l0 x13_1).f0)) := (blk_cell BK115.out 0).trans rfl
                                  have hcz67_1 : wc.cell? ⟨gb115, 1, none⟩ = some (.int .u64 ((rd_T47 l0 x13_1).f1.f0)) := (blk_cell BK115.out 1).trans rfl
                                  have hcz67_2 : wc.cell? ⟨gb115, 2, none⟩ = some (.int .u64 ((rd_T47 l0 x13_1).f1.f1)) := (blk_cell BK115.out 2).trans rfl
                                  have hcz67_3 : wc.cell? ⟨gb115, 3, none⟩ = some (.int .u64 ((rd_T47 l0 x13_1).f1.f2)) := (blk_cell BK115.out 3).trans rfl
                                  have hcz67_4 : wc.cell? ⟨gb115, 4, none⟩ = some (.int .u64 ((rd_T47 l0 x13_1).f1.f3)) := (blk_cell BK115.out 4).trans rfl
                                  have hcz67_5 : wc.cell? ⟨gb115, 5, none⟩ = some (.int .i64 ((rd_T47 l0 x13_1).f2)) := (blk_cell BK115.out 5).trans rfl
                                  have hcz67_6 : wc.cell? ⟨gb115, 6, none⟩ = some (.string ((rd_T47 l0 x13_1).f3)) := (blk_cell BK115.out 6).trans rfl
                                  have hfz67_0 := blk_frozen BK115.out 0
                                  have hfz67_1 := blk_frozen BK115.out 1
                                  have hfz67_2 := blk_frozen BK115.out 2
                                  have hfz67_3 := blk_frozen BK115.out 3
                                  have hfz67_4 := blk_frozen BK115.out 4
                                  have hfz67_5 := blk_frozen BK115.out 5
                                  have hfz67_6 := blk_frozen BK115.out 6
                                  have hcz68_0 : wc.cell? ⟨gb117, 0, none⟩ = some (.int .i64 ((rd_T47 l0 x13_1).f0)) := (blk_cell BK117.out 0).trans rfl
                                  have hcz68_1 : wc.cell? ⟨gb117, 1, none⟩ = some (.int .u64 0) := (blk_cell BK117.out 1).trans rfl
                                  have hcz68_2 : wc.cell? ⟨gb117, 2, none⟩ = some (.int .u64 0) := (blk_cell BK117.out 2).trans rfl
                                  have hcz68_3 : wc.cell? ⟨gb117, 3, none⟩ = some (.int .u64 0) := (blk_cell BK117.out 3).trans rfl
                                  have hcz68_4 : wc.cell? ⟨gb117, 4, none⟩ = some (.int .u64 0) := (blk_cell BK117.out 4).trans rfl
                                  have hcz68_5 : wc.cell? ⟨gb117, 5, none⟩ = some (.int .i64 0) := (blk_cell BK117.out 5).trans rfl
                                  have hcz68_6 : wc.cell? ⟨gb117, 6, none⟩ = some (.string (⟨#[]⟩ : ByteArray)) := (blk_cell BK117.out 6).trans rfl
                                  have hfz68_0 := blk_frozen BK117.out 0
                                  have hfz68_1 := blk_frozen BK117.out 1
                                  have hfz68_2 := blk_frozen BK117.out 2
                                  have hfz68_3 := blk_frozen BK117.out 3
                                  have hfz68_4 := blk_frozen BK117.out 4
                                  have hfz68_5 := blk_frozen BK117.out 5
                                  have hfz68_6 := blk_frozen BK117.out 6
                                  go_wp2_with (first | (go_at_call 25; (with_reducible refine (lexis_Name.calls ((rd_T47 l0 x13_1).f3) true _ A57.out).mono ?_); rintro e w' ⟨rfl, ⟨nd, rfl⟩⟩) | (go_at_call 36; (with_reducible refine (strings_ContainsAny.calls ((rd_T47 l0 x13_1).f3) (⟨#[58, 126]⟩ : ByteArray) false _ A59.out).mono ?_); rintro e w69 ⟨rfl, hb⟩; have n0_ := Aside0.mk (blk_below (g := gb115) (o := .cells #[.int .i64 ((rd_T47 l0 x13_1).f0), .int .u64 ((rd_T47 l0 x13_1).f1.f0), .int .u64 ((rd_T47 l0 x13_1).f1.f1), .int .u64 ((rd_T47 l0 x13_1).f1.f2), .int .u64 ((rd_T47 l0 x13_1).f1.f3), .int .i64 ((rd_T47 l0 x13_1).f2), .string ((rd_T47 l0 x13_1).f3)] 47 (0, 0)) (by (with_reducible repeat (first | refine blk_drewN ?_ _ | refine blk_drew ?_ | refine blk_alloc ?_ _)); refine blk_far ?_ NB115_117.out _; (with_reducible repeat (first | refine blk_drewN ?_ _ | refine blk_drew ?_ | refine blk_alloc ?_ _)); exact BK115.out) hb); have n1_ := Aside0.mk (blk_below (g := gb117) (o := .cells #[.int .i64 ((rd_T47 l0 x13_1).f0), .int .u64 0, .int .u64 0, .int .u64 0, .int .u64 0, .int .i64 0, .string ((rd_T47 l0 x13_1).f3)] 47 (0, 0)) (by (with_reducible repeat (first | refine blk_drewN ?_ _ | refine blk_drew ?_ | refine blk_alloc ?_ _)); refine blk_put (cs := #[.int .i64 ((rd_T47 l0 x13_1).f0), .int .u64 0, .int .u64 0, .int .u64 0, .int .u64 0, .int .i64 0, .string (⟨#[]⟩ : ByteArray)]) ?_ 6 _ rfl; (with_reducible repeat (first | refine blk_drewN ?_ _ | refine blk_drew ?_ | refine blk_alloc ?_ _)); exact BK117.out) hb); have n2_ := Aside0.mk (below_step (by repeat (first | (with_reducible first | exact HB.out | apply below_alloc | apply pw_below_drewN | apply below_drew1 | refine below_set ?_ GE115.out | refine below_set ?_ GE117.out) | exact HB.out)) hb); clear BK115; clear BK117; clear HB; have BK115 := n0_; have BK117 := n1_; have HB := n2_; clear n0_ n1_ n2_; (try clear hb); (try clear hb2); (try clear hk); (try clear hi); have hcz70_0 : w69.cell? ⟨gb115, 0, none⟩ = some (.int .i64 ((rd_T47 l0 x13_1).f0)) := (blk_cell BK115.out 0).trans rfl; have hcz70_1 : w69.cell? ⟨gb115, 1, none⟩ = some (.int .u64 ((rd_T47 l0 x13_1).f1.f0)) := (blk_cell BK115.out 1).trans rfl; have hcz70_2 : w69.cell? ⟨gb115, 2, none⟩ = some (.int .u64 ((rd_T47 l0 x13_1).f1.f1)) := (blk_cell BK115.out 2).trans rfl; have hcz70_3 : w69.cell? ⟨gb115, 3, none⟩ = some (.int .u64 ((rd_T47 l0 x13_1).f1.f2)) := (blk_cell BK115.out 3).trans rfl; have hcz70_4 : w69.cell? ⟨gb115, 4, none⟩ = some (.int .u64 ((rd_T47 l0 x13_1).f1.f3)) := (blk_cell BK115.out 4).trans rfl; have hcz70_5 : w69.cell? ⟨gb115, 5, none⟩ = some (.int .i64 ((rd_T47 l0 x13_1).f2)) := (blk_cell BK115.out 5).trans rfl; have hcz70_6 : w69.cell? ⟨gb115, 6, none⟩ = some (.string ((rd_T47 l0 x13_1).f3)) := (blk_cell BK115.out 6).trans rfl; have hfz70_0 := blk_frozen BK115.out 0; have hfz70_1 := blk_frozen BK115.out 1; have hfz70_2 := blk_frozen BK115.out 2; have hfz70_3 := blk_frozen BK115.out 3; have hfz70_4 := blk_frozen BK115.out 4; have hfz70_5 := blk_frozen BK115.out 5; have hfz70_6 := blk_frozen BK115.out 6; have hcz71_0 : w69.cell? ⟨gb117, 0, none⟩ = some (.int .i64 ((rd_T47 l0 x13_1).f0)) := (blk_cell BK117.out 0).trans rfl; have hcz71_1 : w69.cell? ⟨gb117, 1, none⟩ = some (.int .u64 0) := (blk_cell BK117.out 1).trans rfl; have hcz71_2 : w69.cell? ⟨gb117, 2, none⟩ = some (.int .u64 0) := (blk_cell BK117.out 2).trans rfl; have hcz71_3 : w69.cell? ⟨gb117, 3, none⟩ = some (.int .u64 0) := (blk_cell BK117.out 3).trans rfl; have hcz71_4 : w69.cell? ⟨gb117, 4, none⟩ = some (.int .u64 0) := (blk_cell BK117.out 4).trans rfl; have hcz71_5 : w69.cell? ⟨gb117, 5, none⟩ = some (.int .i64 0) := (blk_cell BK117.out 5).trans rfl; have hcz71_6 : w69.cell? ⟨gb117, 6, none⟩ = some (.string ((rd_T47 l0 x13_1).f3)) := (blk_cell BK117.out 6).trans rfl; have hfz71_0 := blk_frozen BK117.out 0; have hfz71_1 := blk_frozen BK117.out 1; have hfz71_2 := blk_frozen BK117.out 2; have hfz71_3 := blk_frozen BK117.out 3; have hfz71_4 := blk_frozen BK117.out 4; have hfz71_5 := blk_frozen BK117.out 5; have hfz71_6 := blk_frozen BK117.out 6))
                                  go_ret
                                  exact ⟨by first | rfl | (simp [errW_none, errW_some] <;> rfl) | (simp [*, errW_none, errW_some] <;> rfl), by repeat (first | (with_reducible first | exact HB.out | apply below_alloc | apply pw_below_drewN | apply below_drew1 | refine below_set ?_ GE115.out | refine below_set ?_ GE117.out) | exact HB.out)⟩
                                · rw [if_neg c65] at H
                                  have c65b0 : (!(((rd_T47 l0 x13_1).f0) == ((rd_T47 l0 x13_1).f0)) || ((!(((rd_T47 l0 x13_1).f1.f0) == 0) || (!(((rd_T47 l0 x13_1).f1.f1) == 0) || (!(((rd_T47 l0 x13_1).f1.f2) == 0) || (!(((rd_T47 l0 x13_1).f1.f3) == 0))))) || (!(((rd_T47 l0 x13_1).f2) == 0)))) = false := by simpa using c65
                                  (try have c65s : (((!(((rd_T47 l0 x13_1).f1.f0) == 0) || (!(((rd_T47 l0 x13_1).f1.f1) == 0) || (!(((rd_T47 l0 x13_1).f1.f2) == 0) || !(((rd_T47 l0 x13_1).f1.f3) == 0)))) || !(((rd_T47 l0 x13_1).f2) == 0))) = false := by simpa using c65)
                                  clear c65
                                  have H' := Aside0.mk H
                                  clear H
                                  have hnb72 := NB115_117.out
                                  have hnc72 := NB117_115.out
                                  have hcz73_0 : wc.cell? ⟨gb115, 0, none⟩ = some (.int .i64 ((rd_T47 l0 x13_1).f0)) := (blk_cell BK115.out 0).trans rfl
                                  have hcz73_1 : wc.cell? ⟨gb115, 1, none⟩ = some (.int .u64 ((rd_T47 l0 x13_1).f1.f0)) := (blk_cell BK115.out 1).trans rfl
                                  have hcz73_2 : wc.cell? ⟨gb115, 2, none⟩ = some (.int .u64 ((rd_T47 l0 x13_1).f1.f1)) := (blk_cell BK115.out 2).trans rfl
                                  have hcz73_3 : wc.cell? ⟨gb115, 3, none⟩ = some (.int .u64 ((rd_T47 l0 x13_1).f1.f2)) := (blk_cell BK115.out 3).trans rfl
                                  have hcz73_4 : wc.cell? ⟨gb115, 4, none⟩ = some (.int .u64 ((rd_T47 l0 x13_1).f1.f3)) := (blk_cell BK115.out 4).trans rfl
                                  have hcz73_5 : wc.cell? ⟨gb115, 5, none⟩ = some (.int .i64 ((rd_T47 l0 x13_1).f2)) := (blk_cell BK115.out 5).trans rfl
                                  have hcz73_6 : wc.cell? ⟨gb115, 6, none⟩ = some (.string ((rd_T47 l0 x13_1).f3)) := (blk_cell BK115.out 6).trans rfl
                                  have hfz73_0 := blk_frozen BK115.out 0
                                  have hfz73_1 := blk_frozen BK115.out 1
                                  have hfz73_2 := blk_frozen BK115.out 2
                                  have hfz73_3 := blk_frozen BK115.out 3
                                  have hfz73_4 := blk_frozen BK115.out 4
                                  have hfz73_5 := blk_frozen BK115.out 5
                                  have hfz73_6 := blk_frozen BK115.out 6
                                  have hcz74_0 : wc.cell? ⟨gb117, 0, none⟩ = some (.int .i64 ((rd_T47 l0 x13_1).f0)) := (blk_cell BK117.out 0).trans rfl
                                  have hcz74_1 : wc.cell? ⟨gb117, 1, none⟩ = some (.int .u64 0) := (blk_cell BK117.out 1).trans rfl
                                  have hcz74_2 : wc.cell? ⟨gb117, 2, none⟩ = some (.int .u64 0) := (blk_cell BK117.out 2).trans rfl
                                  have hcz74_3 : wc.cell? ⟨gb117, 3, none⟩ = some (.int .u64 0) := (blk_cell BK117.out 3).trans rfl
                                  have hcz74_4 : wc.cell? ⟨gb117, 4, none⟩ = some (.int .u64 0) := (blk_cell BK117.out 4).trans rfl
                                  have hcz74_5 : wc.cell? ⟨gb117, 5, none⟩ = some (.int .i64 0) := (blk_cell BK117.out 5).trans rfl
                                  have hcz74_6 : wc.cell? ⟨gb117, 6, none⟩ = some (.string (⟨#[]⟩ : ByteArray)) := (blk_cell BK117.out 6).trans rfl
                                  have hfz74_0 := blk_frozen BK117.out 0
                                  have hfz74_1 := blk_frozen BK117.out 1
                                  have hfz74_2 := blk_frozen BK117.out 2
                                  have hfz74_3 := blk_frozen BK117.out 3
                                  have hfz74_4 := blk_frozen BK117.out 4
                                  have hfz74_5 := blk_frozen BK117.out 5
                                  have hfz74_6 := blk_frozen BK117.out 6
                                  go_wp2_with (first | (go_at_call 25; (with_reducible refine (lexis_Name.calls ((rd_T47 l0 x13_1).f3) true _ A57.out).mono ?_); rintro e w' ⟨rfl, ⟨nd, rfl⟩⟩) | (go_at_call 36; (with_reducible refine (strings_ContainsAny.calls ((rd_T47 l0 x13_1).f3) (⟨#[58, 126]⟩ : ByteArray) false _ A59.out).mono ?_); rintro e w75 ⟨rfl, hb⟩; have n0_ := Aside0.mk (blk_below (g := gb115) (o := .cells #[.int .i64 ((rd_T47 l0 x13_1).f0), .int .u64 ((rd_T47 l0 x13_1).f1.f0), .int .u64 ((rd_T47 l0 x13_1).f1.f1), .int .u64 ((rd_T47 l0 x13_1).f1.f2), .int .u64 ((rd_T47 l0 x13_1).f1.f3), .int .i64 ((rd_T47 l0 x13_1).f2), .string ((rd_T47 l0 x13_1).f3)] 47 (0, 0)) (by (with_reducible repeat (first | refine blk_drewN ?_ _ | refine blk_drew ?_ | refine blk_alloc ?_ _)); refine blk_far ?_ NB115_117.out _; (with_reducible repeat (first | refine blk_drewN ?_ _ | refine blk_drew ?_ | refine blk_alloc ?_ _)); exact BK115.out) hb); have n1_ := Aside0.mk (blk_below (g := gb117) (o := .cells #[.int .i64 ((rd_T47 l0 x13_1).f0), .int .u64 0, .int .u64 0, .int .u64 0, .int .u64 0, .int .i64 0, .string ((rd_T47 l0 x13_1).f3)] 47 (0, 0)) (by (with_reducible repeat (first | refine blk_drewN ?_ _ | refine blk_drew ?_ | refine blk_alloc ?_ _)); refine blk_put (cs := #[.int .i64 ((rd_T47 l0 x13_1).f0), .int .u64 0, .int .u64 0, .int .u64 0, .int .u64 0, .int .i64 0, .string (⟨#[]⟩ : ByteArray)]) ?_ 6 _ rfl; (with_reducible repeat (first | refine blk_drewN ?_ _ | refine blk_drew ?_ | refine blk_alloc ?_ _)); exact BK117.out) hb); have n2_ := Aside0.mk (below_step (by repeat (first | (with_reducible first | exact HB.out | apply below_alloc | apply pw_below_drewN | apply below_drew1 | refine below_set ?_ GE115.out | refine below_set ?_ GE117.out) | exact HB.out)) hb); clear BK115; clear BK117; clear HB; have BK115 := n0_; have BK117 := n1_; have HB := n2_; clear n0_ n1_ n2_; (try clear hb); (try clear hb2); (try clear hk); (try clear hi); have hcz76_0 : w75.cell? ⟨gb115, 0, none⟩ = some (.int .i64 ((rd_T47 l0 x13_1).f0)) := (blk_cell BK115.out 0).trans rfl; have hcz76_1 : w75.cell? ⟨gb115, 1, none⟩ = some (.int .u64 ((rd_T47 l0 x13_1).f1.f0)) := (blk_cell BK115.out 1).trans rfl; have hcz76_2 : w75.cell? ⟨gb115, 2, none⟩ = some (.int .u64 ((rd_T47 l0 x13_1).f1.f1)) := (blk_cell BK115.out 2).trans rfl; have hcz76_3 : w75.cell? ⟨gb115, 3, none⟩ = some (.int .u64 ((rd_T47 l0 x13_1).f1.f2)) := (blk_cell BK115.out 3).trans rfl; have hcz76_4 : w75.cell? ⟨gb115, 4, none⟩ = some (.int .u64 ((rd_T47 l0 x13_1).f1.f3)) := (blk_cell BK115.out 4).trans rfl; have hcz76_5 : w75.cell? ⟨gb115, 5, none⟩ = some (.int .i64 ((rd_T47 l0 x13_1).f2)) := (blk_cell BK115.out 5).trans rfl; have hcz76_6 : w75.cell? ⟨gb115, 6, none⟩ = some (.string ((rd_T47 l0 x13_1).f3)) := (blk_cell BK115.out 6).trans rfl; have hfz76_0 := blk_frozen BK115.out 0; have hfz76_1 := blk_frozen BK115.out 1; have hfz76_2 := blk_frozen BK115.out 2; have hfz76_3 := blk_frozen BK115.out 3; have hfz76_4 := blk_frozen BK115.out 4; have hfz76_5 := blk_frozen BK115.out 5; have hfz76_6 := blk_frozen BK115.out 6; have hcz77_0 : w75.cell? ⟨gb117, 0, none⟩ = some (.int .i64 ((rd_T47 l0 x13_1).f0)) := (blk_cell BK117.out 0).trans rfl; have hcz77_1 : w75.cell? ⟨gb117, 1, none⟩ = some (.int .u64 0) := (blk_cell BK117.out 1).trans rfl; have hcz77_2 : w75.cell? ⟨gb117, 2, none⟩ = some (.int .u64 0) := (blk_cell BK117.out 2).trans rfl; have hcz77_3 : w75.cell? ⟨gb117, 3, none⟩ = some (.int .u64 0) := (blk_cell BK117.out 3).trans rfl; have hcz77_4 : w75.cell? ⟨gb117, 4, none⟩ = some (.int .u64 0) := (blk_cell BK117.out 4).trans rfl; have hcz77_5 : w75.cell? ⟨gb117, 5, none⟩ = some (.int .i64 0) := (blk_cell BK117.out 5).trans rfl; have hcz77_6 : w75.cell? ⟨gb117, 6, none⟩ = some (.string ((rd_T47 l0 x13_1).f3)) := (blk_cell BK117.out 6).trans rfl; have hfz77_0 := blk_frozen BK117.out 0; have hfz77_1 := blk_frozen BK117.out 1; have hfz77_2 := blk_frozen BK117.out 2; have hfz77_3 := blk_frozen BK117.out 3; have hfz77_4 := blk_frozen BK117.out 4; have hfz77_5 := blk_frozen BK117.out 5; have hfz77_6 := blk_frozen BK117.out 6))
                                  go_roundg kj50
                                  case measure => have := HK1.out; have := HJ6.out; have := HJ50.out; omega
                                  case rel => exact ⟨(wrap64 (x5_1 + (wrap64 (1 - t116)))), (wrap64 (x13_1 + 1)), (by first | rfl | (simp; done) | (simp [*]; done)), (by first | rfl | (simp; done) | (simp [*]; done)), H', ⟨by have := HK1.out; have := HJ6.out; have := HJ50.out; omega⟩, ⟨by repeat (first | (with_reducible first | exact HB.out | apply below_alloc | apply pw_below_drewN | apply below_drew1 | refine below_set ?_ GE115.out | refine below_set ?_ GE117.out) | exact HB.out)⟩⟩
                            · replace c58 := Bool.eq_false_iff.mpr c58
                              subst c58
                              have H1 : (some false) = some r := by rw [if_neg (show ¬ (false = true) by decide)] at H; exact H
                              clear H
                              have H := H1
                              clear H1
                              obtain rfl := Option.some.inj H
                              have hnb78 := NB115_117.out
                              have hnc78 := NB117_115.out
                              have hcz79_0 : wc.cell? ⟨gb115, 0, none⟩ = some (.int .i64 ((rd_T47 l0 x13_1).f0)) := (blk_cell BK115.out 0).trans rfl
                              have hcz79_1 : wc.cell? ⟨gb115, 1, none⟩ = some (.int .u64 ((rd_T47 l0 x13_1).f1.f0)) := (blk_cell BK115.out 1).trans rfl
                              have hcz79_2 : wc.cell? ⟨gb115, 2, none⟩ = some (.int .u64 ((rd_T47 l0 x13_1).f1.f1)) := (blk_cell BK115.out 2).trans rfl
                              have hcz79_3 : wc.cell? ⟨gb115, 3, none⟩ = some (.int .u64 ((rd_T47 l0 x13_1).f1.f2)) := (blk_cell BK115.out 3).trans rfl
                              have hcz79_4 : wc.cell? ⟨gb115, 4, none⟩ = some (.int .u64 ((rd_T47 l0 x13_1).f1.f3)) := (blk_cell BK115.out 4).trans rfl
                              have hcz79_5 : wc.cell? ⟨gb115, 5, none⟩ = some (.int .i64 ((rd_T47 l0 x13_1).f2)) := (blk_cell BK115.out 5).trans rfl
                              have hcz79_6 : wc.cell? ⟨gb115, 6, none⟩ = some (.string ((rd_T47 l0 x13_1).f3)) := (blk_cell BK115.out 6).trans rfl
                              have hfz79_0 := blk_frozen BK115.out 0
                              have hfz79_1 := blk_frozen BK115.out 1
                              have hfz79_2 := blk_frozen BK115.out 2
                              have hfz79_3 := blk_frozen BK115.out 3
                              have hfz79_4 := blk_frozen BK115.out 4
                              have hfz79_5 := blk_frozen BK115.out 5
                              have hfz79_6 := blk_frozen BK115.out 6
                              have hcz80_0 : wc.cell? ⟨gb117, 0, none⟩ = some (.int .i64 ((rd_T47 l0 x13_1).f0)) := (blk_cell BK117.out 0).trans rfl
                              have hcz80_1 : wc.cell? ⟨gb117, 1, none⟩ = some (.int .u64 0) := (blk_cell BK117.out 1).trans rfl
                              have hcz80_2 : wc.cell? ⟨gb117, 2, none⟩ = some (.int .u64 0) := (blk_cell BK117.out 2).trans rfl
                              have hcz80_3 : wc.cell? ⟨gb117, 3, none⟩ = some (.int .u64 0) := (blk_cell BK117.out 3).trans rfl
                              have hcz80_4 : wc.cell? ⟨gb117, 4, none⟩ = some (.int .u64 0) := (blk_cell BK117.out 4).trans rfl
                              have hcz80_5 : wc.cell? ⟨gb117, 5, none⟩ = some (.int .i64 0) := (blk_cell BK117.out 5).trans rfl
                              have hcz80_6 : wc.cell? ⟨gb117, 6, none⟩ = some (.string (⟨#[]⟩ : ByteArray)) := (blk_cell BK117.out 6).trans rfl
                              have hfz80_0 := blk_frozen BK117.out 0
                              have hfz80_1 := blk_frozen BK117.out 1
                              have hfz80_2 := blk_frozen BK117.out 2
                              have hfz80_3 := blk_frozen BK117.out 3
                              have hfz80_4 := blk_frozen BK117.out 4
                              have hfz80_5 := blk_frozen BK117.out 5
                              have hfz80_6 := blk_frozen BK117.out 6
                              go_wp2_with (first | (go_at_call 25; (with_reducible refine (lexis_Name.calls ((rd_T47 l0 x13_1).f3) false _ A57.out).mono ?_); rintro e w' ⟨rfl, ⟨nd, rfl⟩⟩))
                              go_ret
                              exact ⟨by first | rfl | (simp [errW_none, errW_some] <;> rfl) | (simp [*, errW_none, errW_some] <;> rfl), by repeat (first | (with_reducible first | exact HB.out | apply below_alloc | apply pw_below_drewN | apply below_drew1 | refine below_set ?_ GE115.out | refine below_set ?_ GE117.out) | exact HB.out)⟩
                          · replace c56 := Bool.eq_false_iff.mpr c56
                            subst c56
                            have H1 : (some false) = some r := by rw [if_neg (show ¬ (false = true) by decide)] at H; exact H
                            clear H
                            have H := H1
                            clear H1
                            obtain rfl := Option.some.inj H
                            have hnb81 := NB115_117.out
                            have hnc81 := NB117_115.out
                            have hcz82_0 : wc.cell? ⟨gb115, 0, none⟩ = some (.int .i64 ((rd_T47 l0 x13_1).f0)) := (blk_cell BK115.out 0).trans rfl
                            have hcz82_1 : wc.cell? ⟨gb115, 1, none⟩ = some (.int .u64 ((rd_T47 l0 x13_1).f1.f0)) := (blk_cell BK115.out 1).trans rfl
                            have hcz82_2 : wc.cell? ⟨gb115, 2, none⟩ = some (.int .u64 ((rd_T47 l0 x13_1).f1.f1)) := (blk_cell BK115.out 2).trans rfl
                            have hcz82_3 : wc.cell? ⟨gb115, 3, none⟩ = some (.int .u64 ((rd_T47 l0 x13_1).f1.f2)) := (blk_cell BK115.out 3).trans rfl
                            have hcz82_4 : wc.cell? ⟨gb115, 4, none⟩ = some (.int .u64 ((rd_T47 l0 x13_1).f1.f3)) := (blk_cell BK115.out 4).trans rfl
                            have hcz82_5 : wc.cell? ⟨gb115, 5, none⟩ = some (.int .i64 ((rd_T47 l0 x13_1).f2)) := (blk_cell BK115.out 5).trans rfl
                            have hcz82_6 : wc.cell? ⟨gb115, 6, none⟩ = some (.string ((rd_T47 l0 x13_1).f3)) := (blk_cell BK115.out 6).trans rfl
                            have hfz82_0 := blk_frozen BK115.out 0
                            have hfz82_1 := blk_frozen BK115.out 1
                            have hfz82_2 := blk_frozen BK115.out 2
                            have hfz82_3 := blk_frozen BK115.out 3
                            have hfz82_4 := blk_frozen BK115.out 4
                            have hfz82_5 := blk_frozen BK115.out 5
                            have hfz82_6 := blk_frozen BK115.out 6
                            have hcz83_0 : wc.cell? ⟨gb117, 0, none⟩ = some (.int .i64 ((rd_T47 l0 x13_1).f0)) := (blk_cell BK117.out 0).trans rfl
                            have hcz83_1 : wc.cell? ⟨gb117, 1, none⟩ = some (.int .u64 0) := (blk_cell BK117.out 1).trans rfl
                            have hcz83_2 : wc.cell? ⟨gb117, 2, none⟩ = some (.int .u64 0) := (blk_cell BK117.out 2).trans rfl
                            have hcz83_3 : wc.cell? ⟨gb117, 3, none⟩ = some (.int .u64 0) := (blk_cell BK117.out 3).trans rfl
                            have hcz83_4 : wc.cell? ⟨gb117, 4, none⟩ = some (.int .u64 0) := (blk_cell BK117.out 4).trans rfl
                            have hcz83_5 : wc.cell? ⟨gb117, 5, none⟩ = some (.int .i64 0) := (blk_cell BK117.out 5).trans rfl
                            have hcz83_6 : wc.cell? ⟨gb117, 6, none⟩ = some (.string (⟨#[]⟩ : ByteArray)) := (blk_cell BK117.out 6).trans rfl
                            have hfz83_0 := blk_frozen BK117.out 0
                            have hfz83_1 := blk_frozen BK117.out 1
                            have hfz83_2 := blk_frozen BK117.out 2
                            have hfz83_3 := blk_frozen BK117.out 3
                            have hfz83_4 := blk_frozen BK117.out 4
                            have hfz83_5 := blk_frozen BK117.out 5
                            have hfz83_6 := blk_frozen BK117.out 6
                            go_wp2
                            go_ret
                            exact ⟨by first | rfl | (simp [errW_none, errW_some] <;> rfl) | (simp [*, errW_none, errW_some] <;> rfl), by repeat (first | (with_reducible first | exact HB.out | apply below_alloc | apply pw_below_drewN | apply below_drew1 | refine below_set ?_ GE115.out | refine below_set ?_ GE117.out) | exact HB.out)⟩
                        · replace c55 := Bool.eq_false_iff.mpr c55
                          subst c55
                          have H1 : (if x10_6 = true then (if (!(((rd_T47 l0 x13_1).f0) == ((rd_T47 l0 x13_1).f0)) || ((!(((rd_T47 l0 x13_1).f1.f0) == 0) || (!(((rd_T47 l0 x13_1).f1.f1) == 0) || (!(((rd_T47 l0 x13_1).f1.f2) == 0) || (!(((rd_T47 l0 x13_1).f1.f3) == 0))))) || (!(((rd_T47 l0 x13_1).f2) == 0) || (!(((rd_T47 l0 x13_1).f3).toList == (⟨#[]⟩ : ByteArray).toList))))) = true then (some false) else (core_right.l0 kj50 a1 (wrap64 (x5_1 + (wrap64 (1 - t116)))) l0 (l0.length : Int) (wrap64 (x13_1 + 1)))) else (some false)) = some r := by rw [if_neg (show ¬ (false = true) by decide)] at H; exact H
                          clear H
                          have H := H1
                          clear H1
                          by_cases c84 : x10_6 = true
                          · subst c84
                            have H1 : (if (!(((rd_T47 l0 x13_1).f0) == ((rd_T47 l0 x13_1).f0)) || ((!(((rd_T47 l0 x13_1).f1.f0) == 0) || (!(((rd_T47 l0 x13_1).f1.f1) == 0) || (!(((rd_T47 l0 x13_1).f1.f2) == 0) || (!(((rd_T47 l0 x13_1).f1.f3) == 0))))) || (!(((rd_T47 l0 x13_1).f2) == 0) || (!(((rd_T47 l0 x13_1).f3).toList == (⟨#[]⟩ : ByteArray).toList))))) = true then (some false) else (core_right.l0 kj50 a1 (wrap64 (x5_1 + (wrap64 (1 - t116)))) l0 (l0.length : Int) (wrap64 (x13_1 + 1)))) = some r := by rw [if_pos rfl] at H; exact H
                            clear H
                            have H := H1
                            clear H1
                            by_cases c85 : (!(((rd_T47 l0 x13_1).f0) == ((rd_T47 l0 x13_1).f0)) || ((!(((rd_T47 l0 x13_1).f1.f0) == 0) || (!(((rd_T47 l0 x13_1).f1.f1) == 0) || (!(((rd_T47 l0 x13_1).f1.f2) == 0) || (!(((rd_T47 l0 x13_1).f1.f3) == 0))))) || (!(((rd_T47 l0 x13_1).f2) == 0) || (!(((rd_T47 l0 x13_1).f3).toList == (⟨#[]⟩ : ByteArray).toList))))) = true
                            · rw [if_pos c85] at H
                              have c85b0 : (!(((rd_T47 l0 x13_1).f0) == ((rd_T47 l0 x13_1).f0)) || ((!(((rd_T47 l0 x13_1).f1.f0) == 0) || (!(((rd_T47 l0 x13_1).f1.f1) == 0) || (!(((rd_T47 l0 x13_1).f1.f2) == 0) || (!(((rd_T47 l0 x13_1).f1.f3) == 0))))) || (!(((rd_T47 l0 x13_1).f2) == 0) || (!(((rd_T47 l0 x13_1).f3).toList == (⟨#[]⟩ : ByteArray).toList))))) = true := c85
                              (try have c85s : (((!(((rd_T47 l0 x13_1).f1.f0) == 0) || (!(((rd_T47 l0 x13_1).f1.f1) == 0) || (!(((rd_T47 l0 x13_1).f1.f2) == 0) || !(((rd_T47 l0 x13_1).f1.f3) == 0)))) || (!(((rd_T47 l0 x13_1).f2) == 0) || !((((rd_T47 l0 x13_1).f3).toList).isEmpty)))) = true := by simpa using c85)
                              clear c85
                              obtain rfl := Option.some.inj H
                              have hnb86 := NB115_117.out
                              have hnc86 := NB117_115.out
                              have hcz87_0 : wc.cell? ⟨gb115, 0, none⟩ = some (.int .i64 ((rd_T47 l0 x13_1).f0)) := (blk_cell BK115.out 0).trans rfl
                              have hcz87_1 : wc.cell? ⟨gb115, 1, none⟩ = some (.int .u64 ((rd_T47 l0 x13_1).f1.f0)) := (blk_cell BK115.out 1).trans rfl
                              have hcz87_2 : wc.cell? ⟨gb115, 2, none⟩ = some (.int .u64 ((rd_T47 l0 x13_1).f1.f1)) := (blk_cell BK115.out 2).trans rfl
                              have hcz87_3 : wc.cell? ⟨gb115, 3, none⟩ = some (.int .u64 ((rd_T47 l0 x13_1).f1.f2)) := (blk_cell BK115.out 3).trans rfl
                              have hcz87_4 : wc.cell? ⟨gb115, 4, none⟩ = some (.int .u64 ((rd_T47 l0 x13_1).f1.f3)) := (blk_cell BK115.out 4).trans rfl
                              have hcz87_5 : wc.cell? ⟨gb115, 5, none⟩ = some (.int .i64 ((rd_T47 l0 x13_1).f2)) := (blk_cell BK115.out 5).trans rfl
                              have hcz87_6 : wc.cell? ⟨gb115, 6, none⟩ = some (.string ((rd_T47 l0 x13_1).f3)) := (blk_cell BK115.out 6).trans rfl
                              have hfz87_0 := blk_frozen BK115.out 0
                              have hfz87_1 := blk_frozen BK115.out 1
                              have hfz87_2 := blk_frozen BK115.out 2
                              have hfz87_3 := blk_frozen BK115.out 3
                              have hfz87_4 := blk_frozen BK115.out 4
                              have hfz87_5 := blk_frozen BK115.out 5
                              have hfz87_6 := blk_frozen BK115.out 6
                              have hcz88_0 : wc.cell? ⟨gb117, 0, none⟩ = some (.int .i64 ((rd_T47 l0 x13_1).f0)) := (blk_cell BK117.out 0).trans rfl
                              have hcz88_1 : wc.cell? ⟨gb117, 1, none⟩ = some (.int .u64 0) := (blk_cell BK117.out 1).trans rfl
                              have hcz88_2 : wc.cell? ⟨gb117, 2, none⟩ = some (.int .u64 0) := (blk_cell BK117.out 2).trans rfl
                              have hcz88_3 : wc.cell? ⟨gb117, 3, none⟩ = some (.int .u64 0) := (blk_cell BK117.out 3).trans rfl
                              have hcz88_4 : wc.cell? ⟨gb117, 4, none⟩ = some (.int .u64 0) := (blk_cell BK117.out 4).trans rfl
                              have hcz88_5 : wc.cell? ⟨gb117, 5, none⟩ = some (.int .i64 0) := (blk_cell BK117.out 5).trans rfl
                              have hcz88_6 : wc.cell? ⟨gb117, 6, none⟩ = some (.string (⟨#[]⟩ : ByteArray)) := (blk_cell BK117.out 6).trans rfl
                              have hfz88_0 := blk_frozen BK117.out 0
                              have hfz88_1 := blk_frozen BK117.out 1
                              have hfz88_2 := blk_frozen BK117.out 2
                              have hfz88_3 := blk_frozen BK117.out 3
                              have hfz88_4 := blk_frozen BK117.out 4
                              have hfz88_5 := blk_frozen BK117.out 5
                              have hfz88_6 := blk_frozen BK117.out 6
                              go_wp2
                              go_ret
                              exact ⟨by first | rfl | (simp [errW_none, errW_some] <;> rfl) | (simp [*, errW_none, errW_some] <;> rfl), by repeat (first | (with_reducible first | exact HB.out | apply below_alloc | apply pw_below_drewN | apply below_drew1 | refine below_set ?_ GE115.out | refine below_set ?_ GE117.out) | exact HB.out)⟩
                            · rw [if_neg c85] at H
                              have c85b0 : (!(((rd_T47 l0 x13_1).f0) == ((rd_T47 l0 x13_1).f0)) || ((!(((rd_T47 l0 x13_1).f1.f0) == 0) || (!(((rd_T47 l0 x13_1).f1.f1) == 0) || (!(((rd_T47 l0 x13_1).f1.f2) == 0) || (!(((rd_T47 l0 x13_1).f1.f3) == 0))))) || (!(((rd_T47 l0 x13_1).f2) == 0) || (!(((rd_T47 l0 x13_1).f3).toList == (⟨#[]⟩ : ByteArray).toList))))) = false := by simpa using c85
                              (try have c85s : (((!(((rd_T47 l0 x13_1).f1.f0) == 0) || (!(((rd_T47 l0 x13_1).f1.f1) == 0) || (!(((rd_T47 l0 x13_1).f1.f2) == 0) || !(((rd_T47 l0 x13_1).f1.f3) == 0)))) || (!(((rd_T47 l0 x13_1).f2) == 0) || !((((rd_T47 l0 x13_1).f3).toList).isEmpty)))) = false := by simpa using c85)
                              clear c85
                              have H' := Aside0.mk H
                              clear H
                              have hnb89 := NB115_117.out
                              have hnc89 := NB117_115.out
                              have hcz90_0 : wc.cell? ⟨gb115, 0, none⟩ = some (.int .i64 ((rd_T47 l0 x13_1).f0)) := (blk_cell BK115.out 0).trans rfl
                              have hcz90_1 : wc.cell? ⟨gb115, 1, none⟩ = some (.int .u64 ((rd_T47 l0 x13_1).f1.f0)) := (blk_cell BK115.out 1).trans rfl
                              have hcz90_2 : wc.cell? ⟨gb115, 2, none⟩ = some (.int .u64 ((rd_T47 l0 x13_1).f1.f1)) := (blk_cell BK115.out 2).trans rfl
                              have hcz90_3 : wc.cell? ⟨gb115, 3, none⟩ = some (.int .u64 ((rd_T47 l0 x13_1).f1.f2)) := (blk_cell BK115.out 3).trans rfl
                              have hcz90_4 : wc.cell? ⟨gb115, 4, none⟩ = some (.int .u64 ((rd_T47 l0 x13_1).f1.f3)) := (blk_cell BK115.out 4).trans rfl
                              have hcz90_5 : wc.cell? ⟨gb115, 5, none⟩ = some (.int .i64 ((rd_T47 l0 x13_1).f2)) := (blk_cell BK115.out 5).trans rfl
                              have hcz90_6 : wc.cell? ⟨gb115, 6, none⟩ = some (.string ((rd_T47 l0 x13_1).f3)) := (blk_cell BK115.out 6).trans rfl
                              have hfz90_0 := blk_frozen BK115.out 0
                              have hfz90_1 := blk_frozen BK115.out 1
                              have hfz90_2 := blk_frozen BK115.out 2
                              have hfz90_3 := blk_frozen BK115.out 3
                              have hfz90_4 := blk_frozen BK115.out 4
                              have hfz90_5 := blk_frozen BK115.out 5
                              have hfz90_6 := blk_frozen BK115.out 6
                              have hcz91_0 : wc.cell? ⟨gb117, 0, none⟩ = some (.int .i64 ((rd_T47 l0 x13_1).f0)) := (blk_cell BK117.out 0).trans rfl
                              have hcz91_1 : wc.cell? ⟨gb117, 1, none⟩ = some (.int .u64 0) := (blk_cell BK117.out 1).trans rfl
                              have hcz91_2 : wc.cell? ⟨gb117, 2, none⟩ = some (.int .u64 0) := (blk_cell BK117.out 2).trans rfl
                              have hcz91_3 : wc.cell? ⟨gb117, 3, none⟩ = some (.int .u64 0) := (blk_cell BK117.out 3).trans rfl
                              have hcz91_4 : wc.cell? ⟨gb117, 4, none⟩ = some (.int .u64 0) := (blk_cell BK117.out 4).trans rfl
                              have hcz91_5 : wc.cell? ⟨gb117, 5, none⟩ = some (.int .i64 0) := (blk_cell BK117.out 5).trans rfl
                              have hcz91_6 : wc.cell? ⟨gb117, 6, none⟩ = some (.string (⟨#[]⟩ : ByteArray)) := (blk_cell BK117.out 6).trans rfl
                              have hfz91_0 := blk_frozen BK117.out 0
                              have hfz91_1 := blk_frozen BK117.out 1
                              have hfz91_2 := blk_frozen BK117.out 2
                              have hfz91_3 := blk_frozen BK117.out 3
                              have hfz91_4 := blk_frozen BK117.out 4
                              have hfz91_5 := blk_frozen BK117.out 5
                              have hfz91_6 := blk_frozen BK117.out 6
                              go_wp2
                              go_roundg kj50
                              case measure => have := HK1.out; have := HJ6.out; have := HJ50.out; omega
                              case rel => exact ⟨(wrap64 (x5_1 + (wrap64 (1 - t116)))), (wrap64 (x13_1 + 1)), (by first | rfl | (simp; done) | (simp [*]; done)), (by first | rfl | (simp; done) | (simp [*]; done)), H', ⟨by have := HK1.out; have := HJ6.out; have := HJ50.out; omega⟩, ⟨by repeat (first | (with_reducible first | exact HB.out | apply below_alloc | apply pw_below_drewN | apply below_drew1 | refine below_set ?_ GE115.out | refine below_set ?_ GE117.out) | exact HB.out)⟩⟩
                          · replace c84 := Bool.eq_false_iff.mpr c84
                            subst c84
                            have H1 : (some false) = some r := by rw [if_neg (show ¬ (false = true) by decide)] at H; exact H
                            clear H
                            have H := H1
                            clear H1
                            obtain rfl := Option.some.inj H
                            go_wp2
                            go_ret
                            exact ⟨by first | rfl | (simp [errW_none, errW_some] <;> rfl) | (simp [*, errW_none, errW_some] <;> rfl), by repeat (first | (with_reducible first | exact HB.out | apply below_alloc | apply pw_below_drewN | apply below_drew1 | refine below_set ?_ GE115.out | refine below_set ?_ GE117.out) | exact HB.out)⟩
          · rw [if_neg c5] at H
            exact absurd H (by simp)
        · rw [if_neg c4] at H
          exact absurd H (by simp)
      · rw [if_neg c3] at H
        have c3b0 : decide (x13_1 < (l0.length : Int)) = false := decide_eq_false c3
        clear c3
        obtain rfl := Option.some.inj H
        go_wp2
        go_ret
        exact ⟨by first | rfl | (simp [errW_none, errW_some] <;> rfl) | (simp [*, errW_none, errW_some] <;> rfl), by repeat (first | (with_reducible first | exact HB.out | apply below_alloc | apply pw_below_drewN | apply below_drew1) | exact HB.out)⟩

end Go.Proofs.YtmpkkphohilkoaaDoor.F
