/- Texts joined and shortened (wip/tools/shrink.py): DWorks, Fx14, DFo, DWPlain, RMatch. -/
import Derived.Test.YtmpkkphohilkoaaDoorQw9
import Derived.Test.YtmpkkphohilkoaaDoorQw7
import Derived.Test.YtmpkkphohilkoaaDoorQw2
import Derived.Test.YtmpkkphohilkoaaDoorQw0
import Derived.Laws.Concat
import Derived.Test.YtmpkkphohilkoaaDoorQw6
/- works: the law's own example. -/
namespace Go.Proofs.YtmpkkphohilkoaaDoor.B
open Go Go.RowKit Go.X Go.Ma Go.Proofs.YtmpkkphohilkoaaDoorW.PrintWords Go.Proofs.YtmpkkphohilkoaaDoor.F

def nd (op : Int) (c1 : Int) (nm : ByteArray) : S47 := ⟨op, ⟨0, c1, 0, 0⟩, 0, nm⟩
def rsW : List S42 := [⟨⟨#[65]⟩, [nd 1 8589934592 ⟨#[]⟩, nd 8 0 ⟨#[110]⟩, nd 2 0 ⟨#[]⟩, nd 4 0 ⟨#[]⟩, nd 0 0 ⟨#[]⟩, nd 5 0 ⟨#[]⟩]⟩]
theorem works_ans : ansRes (atAns rsW 0 0 ⟨#[97, 97, 98]⟩ 0 100 100) = ⟨1, 2, ⟨#[]⟩, [⟨⟨#[110]⟩, 0, 1, 0⟩, ⟨⟨#[110]⟩, 1, 2, 0⟩], 2⟩ ∧ ansSt (atAns rsW 0 0 ⟨#[97, 97, 98]⟩ 0 100 100) = ⟨15, 10, 0⟩ := by
  constructor <;> kernel_rfl
theorem nd_cells (w : World) (op c1 : Int) (nm : ByteArray) : k47.K w (nd op c1 nm) [.int .i64 op, .int .u64 0, .int .u64 c1, .int .u64 0, .int .u64 0, .int .i64 0, .string nm] := k47_mk w (nd op c1 nm)
def bodyC : List Value := [.int .i64 1, .int .u64 0, .int .u64 8589934592, .int .u64 0, .int .u64 0, .int .i64 0, .string ⟨#[]⟩, .int .i64 8, .int .u64 0, .int .u64 0, .int .u64 0, .int .u64 0, .int .i64 0, .string ⟨#[110]⟩, .int .i64 2, .int .u64 0, .int .u64 0, .int .u64 0, .int .u64 0, .int .i64 0, .string ⟨#[]⟩, .int .i64 4, .int .u64 0, .int .u64 0, .int .u64 0, .int .u64 0, .int .i64 0, .string ⟨#[]⟩, .int .i64 0, .int .u64 0, .int .u64 0, .int .u64 0, .int .u64 0, .int .i64 0, .string ⟨#[]⟩, .int .i64 5, .int .u64 0, .int .u64 0, .int .u64 0, .int .u64 0, .int .i64 0, .string ⟨#[]⟩]
theorem rsW_C {w : World} {b : Nat} (h : Blk w b 47 bodyC)
    (h2 : Blk w (b + 1) 42 [.string ⟨#[65]⟩, .slice (some ⟨b, 0, none⟩) 6 6]) : Kd.C k42 w (some ⟨b + 1, 0, none⟩) 1 rsW := by
  have r1 := ((((((Reps.none (k47.K w) k47.sz).snoc (nd_cells w 1 8589934592 ⟨#[]⟩) rfl).snoc (nd_cells w 8 0 ⟨#[110]⟩) rfl).snoc (nd_cells w 2 0 ⟨#[]⟩) rfl).snoc (nd_cells w 4 0 ⟨#[]⟩) rfl).snoc (nd_cells w 0 0 ⟨#[]⟩) rfl).snoc (nd_cells w 5 0 ⟨#[]⟩) rfl
  have c1 : Kd.C k47 w (some ⟨b, 0, none⟩) 6 [nd 1 8589934592 ⟨#[]⟩, nd 8 0 ⟨#[110]⟩, nd 2 0 ⟨#[]⟩, nd 4 0 ⟨#[]⟩, nd 0 0 ⟨#[]⟩, nd 5 0 ⟨#[]⟩] := X.C_of_blk (rest := []) h r1 (by decide)
  have r2 := (Reps.none (k42.K w) k42.sz).snoc (k42_mk w ⟨⟨#[65]⟩, [nd 1 8589934592 ⟨#[]⟩, nd 8 0 ⟨#[110]⟩, nd 2 0 ⟨#[]⟩, nd 4 0 ⟨#[]⟩, nd 0 0 ⟨#[]⟩, nd 5 0 ⟨#[]⟩]⟩ (A1 := some ⟨b, 0, none⟩) (c1 := 6) (by decide) c1) rfl
  exact X.C_of_blk (rest := []) h2 r2 (by decide)
theorem own2 {w : World} {lo c : Nat} {A : Option Addr} (h : OwnF w lo (.slice A 2 c) [⟨⟨#[110]⟩, 0, 1, 0⟩, ⟨⟨#[110]⟩, 1, 2, 0⟩]) : ∃ g, A = some ⟨g, 0, none⟩ ∧ w.cell? ⟨g, 4, none⟩ = some (.string ⟨#[110]⟩) ∧ w.cell? ⟨g, 5, none⟩ = some (.int .i64 1) ∧ w.cell? ⟨g, 6, none⟩ = some (.int .i64 2) ∧ w.cell? ⟨g, 7, none⟩ = some (.int .i64 0) := by
  have hc := h
  rcases h.2 with ⟨_, h0⟩ | ⟨g, cap, cur, h1, _, _, _, _, _, _⟩
  · cases h0
  · injection h1 with h1 _ _
    subst h1
    have k := World.ownsRow.cells hc (g := g) rfl
    exact ⟨g, rfl, k 4 _ rfl, k 5 _ rfl, k 6 _ rfl, k 7 _ rfl⟩
set_option maxRecDepth 100000 in
set_option maxHeartbeats 4000000 in
attribute [local go_sem high] eqA49 in
theorem works.calls (w : World) (g0 : w.cell? ⟨0, 0, none⟩ = some (.int .u64 0)) (g1 : w.cell? ⟨0, 1, none⟩ = some (.int .u64 8589934592)) (g2 : w.cell? ⟨0, 2, none⟩ = some (.int .u64 0)) (g3 : w.cell? ⟨0, 3, none⟩ = some (.int .u64 0)) :
    Calls Tryd.prog 6 #[] w fun e w' => e = .returned (.bool true) ∧ Below w.heap.size w w' := by
  go_enter Tryd.func6, Tryd.ntmps6
  go_wp2_with (fail)
  clear g0 g1 g2 g3
  generalize hw1 : w.alloc (.cells #[.int .i64 1, .int .u64 0, .int .u64 8589934592, .int .u64 0, .int .u64 0, .int .i64 0, .string ⟨#[]⟩, .int .i64 8, .int .u64 0, .int .u64 0, .int .u64 0, .int .u64 0, .int .i64 0, .string ⟨#[110]⟩, .int .i64 2, .int .u64 0, .int .u64 0, .int .u64 0, .int .u64 0, .int .i64 0, .string ⟨#[]⟩, .int .i64 4, .int .u64 0, .int .u64 0, .int .u64 0, .int .u64 0, .int .i64 0, .string ⟨#[]⟩, .int .i64 0, .int .u64 0, .int .u64 0, .int .u64 0, .int .u64 0, .int .i64 0, .string ⟨#[]⟩, .int .i64 5, .int .u64 0, .int .u64 0, .int .u64 0, .int .u64 0, .int .i64 0, .string ⟨#[]⟩] 47) = w1
  have z1 : w1.heap.size = w.heap.size + 1 := by rw [← hw1]; simp
  have k1 : Blk w1 w.heap.size 47 bodyC := by rw [← hw1]; exact Blk.alloc w _ _
  have b1 : Below w.heap.size w w1 := by rw [← hw1]; exact (Below.refl _ w).alloc (Nat.le_refl _) _
  clear hw1
  generalize hw2 : w1.alloc (.cells #[.string ⟨#[65]⟩, .slice (some ⟨w.heap.size, 0, none⟩) 6 6] 42) = w2
  have b2 : Below w1.heap.size w1 w2 := by rw [← hw2]; exact (Below.refl _ w1).alloc (Nat.le_refl _) _
  have k2 : Blk w2 (w.heap.size + 1) 42 [.string ⟨#[65]⟩, .slice (some ⟨w.heap.size, 0, none⟩) 6 6] := by rw [← hw2, ← z1]; exact Blk.alloc w1 _ _
  clear hw2
  have k1' := k1.below b2 k1.lt
  generalize hw3 : w2.alloc (.cells #[.slice (some ⟨w.heap.size + 1, 0, none⟩) 1 1, .int .i64 0] 24) = w3
  have b3 : Below w2.heap.size w2 w3 := by rw [← hw3]; exact (Below.refl _ w2).alloc (Nat.le_refl _) _
  clear hw3
  have hC := rsW_C (k1'.below b3 k1'.lt) (k2.below b3 k2.lt)
  have HB : Hid (Below w.heap.size w w3) := by
    have b12 := b1.trans (b2.mono b1.size)
    exact b12.trans (b3.mono b12.size)
  clear k1 k1' k2 b1 b2 b3 z1
  refine (mrun.calls (some ⟨w.heap.size + 1, 0, none⟩) 1 0 rsW ⟨#[97, 97, 98]⟩ 100 100 w3 hC (by decide) (by decide)).mono ?_
  rintro e w4 hans
  obtain ⟨A, c, rfl, hbw, hown⟩ := RunAns.at works_ans.1 works_ans.2 hans
  clear hans hC
  obtain ⟨g, rfl, h4, h5, h6, h7⟩ := own2 hown
  clear hown
  have HB4 : Hid (Below w.heap.size w w4) := HB.out.trans (hbw.mono HB.out.size)
  clear HB hbw
  dsimp only
  have HZ : Hid (Below w4.heap.size w4 ((w4.alloc (.cells #[.int .i64 1, .int .i64 2, .string ⟨#[]⟩, .slice (some ⟨g, 0, none⟩) 2 c] 31)).alloc (.cells #[.int .i64 10, .int .i64 15] 32))) := two_below w4 1 2 ⟨#[]⟩ (.slice (some ⟨g, 0, none⟩) 2 c) 10 15
  have z4 : ((w4.alloc (.cells #[.int .i64 1, .int .i64 2, .string ⟨#[]⟩, .slice (some ⟨g, 0, none⟩) 2 c] 31)).alloc (.cells #[.int .i64 10, .int .i64 15] 32)).cell? ⟨g, 4, none⟩ = some (.string ⟨#[110]⟩) := Below.cell_some HZ.out h4
  have z5 : ((w4.alloc (.cells #[.int .i64 1, .int .i64 2, .string ⟨#[]⟩, .slice (some ⟨g, 0, none⟩) 2 c] 31)).alloc (.cells #[.int .i64 10, .int .i64 15] 32)).cell? ⟨g, 5, none⟩ = some (.int .i64 1) := Below.cell_some HZ.out h5
  have z6 : ((w4.alloc (.cells #[.int .i64 1, .int .i64 2, .string ⟨#[]⟩, .slice (some ⟨g, 0, none⟩) 2 c] 31)).alloc (.cells #[.int .i64 10, .int .i64 15] 32)).cell? ⟨g, 6, none⟩ = some (.int .i64 2) := Below.cell_some HZ.out h6
  have z7 : ((w4.alloc (.cells #[.int .i64 1, .int .i64 2, .string ⟨#[]⟩, .slice (some ⟨g, 0, none⟩) 2 c] 31)).alloc (.cells #[.int .i64 10, .int .i64 15] 32)).cell? ⟨g, 7, none⟩ = some (.int .i64 0) := Below.cell_some HZ.out h7
  clear h4 h5 h6 h7
  go_wp2
  go_ret
  exact ⟨rfl, HB4.out.trans (HZ.out.mono HB4.out.size)⟩
end Go.Proofs.YtmpkkphohilkoaaDoor.B
namespace Go.Proofs.YtmpkkphohilkoaaDoor.F
open Go.RowKit Go.Proofs.YtmpkkphohilkoaaDoorW.PrintWords Go.Proofs.YtmpkkphohilkoaaDoorW.PrintLast Go.Proofs.YtmpkkphohilkoaaDoorW.PrintMore
attribute [local go_sem] max2_int min2_int max_two min_two max_three min_three max_four min_four   -- for this text's walks alone
set_option linter.unusedVariables false
set_option linter.unusedSimpArgs false

/-! ### forest_ends: function 21 -/
mutual
def forest_ends.l0 : Nat → List (S49) → List Int → Int → Option (List Int)
  | 0, _, _, _ => none
  | k + 1, x0, x3, x4 => if x4 ≥ 0 then (if 0 ≤ x4 then (if x4 < (x0.length : Int) then (if ((rd_T49 x0 x4).f3) < 0 then (forest_ends.j1 k x0 x3 x4 (wrap64 (x4 + 1)) true) else (forest_ends.j1 k x0 x3 x4 (wrap64 (x4 + 1)) (decide (((rd_T49 x0 x4).f3) > (wrap64 ((wrap64 ((x0.length : Int) - 1)) - x4)))))) else (none)) else (none)) else (some x3)
def forest_ends.j1 : Nat → List (S49) → List Int → Int → Int → Bool → Option (List Int)
  | 0, _, _, _, _, _ => none
  | k + 1, x0, x3, x4, x5, x37 => if x37 = true then (forest_ends.j2 k x0 x3 x4 (-1)) else (forest_ends.j2 k x0 x3 x4 x5)
def forest_ends.j2 : Nat → List (S49) → List Int → Int → Int → Option (List Int)
  | 0, _, _, _, _ => none
  | k + 1, x0, x3, x4, x5 => forest_ends.l1 k x0 x3 x4 x5 0
def forest_ends.l1 : Nat → List (S49) → List Int → Int → Int → Int → Option (List Int)
  | 0, _, _, _, _, _ => none
  | k + 1, x0, x3, x4, x5, x6 => if 0 ≤ x4 then (if x4 < (x0.length : Int) then (if x6 < ((rd_T49 x0 x4).f3) then (forest_ends.j4 k x0 x3 x4 x5 x6 (decide (x5 ≥ 0))) else (forest_ends.j4 k x0 x3 x4 x5 x6 false)) else (none)) else (none)
def forest_ends.j4 : Nat → List (S49) → List Int → Int → Int → Int → Bool → Option (List Int)
  | 0, _, _, _, _, _, _ => none
  | k + 1, x0, x3, x4, x5, x6, x48 => if x48 = true then (if x5 ≥ (x0.length : Int) then (forest_ends.l1 k x0 x3 x4 (-1) (wrap64 (x6 + 1))) else (if 0 ≤ x5 then (if x5 < (x3.length : Int) then (forest_ends.l1 k x0 x3 x4 (rd x3 x5) (wrap64 (x6 + 1))) else (none)) else (none))) else (if 0 ≤ x4 then (if x4 < (x3.length : Int) then (forest_ends.l0 k x0 (x3.set (x4 : Int).toNat x5) (wrap64 (x4 - 1))) else (none)) else (none))
end
def forest_ends.f (k : Nat) (l0 : List (S49)) : Option (List Int) := if 0 ≤ (l0.length : Int) then (if ((l0.length : Int) : Int).toNat ≤ 35184372088832 then (forest_ends.l0 k l0 (List.replicate ((l0.length : Int) : Int).toNat 0) (wrap64 ((l0.length : Int) - 1))) else (none)) else (none)
set_option maxHeartbeats 8000000 in
set_option maxRecDepth 100000 in
theorem forest_ends.calls (k : Nat) (A0 : Option Addr) (c0 : Nat) (l0 : List (S49)) (r : List Int) (w : World) (hr0 : Kd.C k49 w A0 l0.length l0) (hc0 : l0.length ≤ c0) (h : forest_ends.f k l0 = some r) :
    Calls Tryd.prog 21 #[.slice A0 l0.length c0] w fun e w' => ∃ v0_ : Value, e = .returned (v0_) ∧ Kd.R (Kd.int .i64) 3 w' w.heap.size (fun _ => True) v0_ r ∧ Below w.heap.size w w' := by
  have HR0 := Aside0.mk hr0
  have HC0 := Aside0.mk hc0
  clear hr0 hc0
  have HB := Aside0.mk (Below.refl w.heap.size w)
  have H : (if 0 ≤ (l0.length : Int) then (if ((l0.length : Int) : Int).toNat ≤ 35184372088832 then (forest_ends.l0 k l0 (List.replicate ((l0.length : Int) : Int).toNat 0) (wrap64 ((l0.length : Int) - 1))) else (none)) else (none)) = some r := h
  clear h
  by_cases c2 : 0 ≤ (l0.length : Int)
  · rw [if_pos c2] at H
    have c2b0 := eq_true c2
    have c2b1 : decide (0 ≤ (l0.length : Int)) = true := decide_eq_true c2
    clear c2
    by_cases c3 : ((l0.length : Int) : Int).toNat ≤ 35184372088832
    · rw [if_pos c3] at H
      have c3b0 := eq_true c3
      have c3b1 : decide (((l0.length : Int) : Int).toNat ≤ 35184372088832) = true := decide_eq_true c3
      clear c3
      obtain ⟨y191, hy191⟩ : ∃ y_ : List Int, y_ = (List.replicate ((l0.length : Int) : Int).toNat 0) := ⟨_, rfl⟩
      replace H : (forest_ends.l0 k l0 y191 (wrap64 ((l0.length : Int) - 1))) = some r := by first | (rw [hy191]; with_reducible exact H) | (have H2_ := (Option.bind_some _ _).symm.trans H; rw [hy191]; with_reducible exact H2_) | (have H2_ := (Option.bind_some _ _).symm.trans H; with_reducible exact H2_) | with_reducible exact H | (rw [hy191]; exact H) | exact H
      have Ny191 := Aside0.mk hy191
      clear hy191
      have H' := Aside0.mk H
      clear H
      go_enter Tryd.func21, Tryd.ntmps21
      go_wp2_with (first | ((with_reducible refine gate_dst (N := 9) rfl ?_); (try (refine gate_guard (by rfl) ?_; dsimp only)); refine Kd.R_make (Kd.int .i64) _ 3 rfl (N := 9) rfl 59 _ _ rfl (l0.length : Int) rfl rfl Tryd.underlying59 (.int .i64 0) 8 info3 rfl (by decide) (by omega) 0 (ok := fun _ => True) (okp := fun _ => True) rfl (fun _ hk => hk) trivial (of_decide_eq_true (by first | (with_reducible assumption) | assumption)) (Nat.le_trans (Nat.mul_le_mul_right _ (of_decide_eq_true (by first | (with_reducible assumption) | assumption) : (l0.length : Int).toNat ≤ 35184372088832)) (by omega)) (Below.refl _ _) (Nat.le_refl _) ?_; intro v192 w4 ho5 hb hg_ hnew_; clear hg_ hnew_; (first | rw [← Ny191.out] at ho5 | (simp only [Int.reduceToNat] at ho5; rw [← Ny191.out] at ho5)); have n0_ := Aside0.mk (Kd.R_lower ho5 (below_size (by repeat (first | (with_reducible first | exact HB.out | apply below_alloc | apply pw_below_drewN | apply below_drew1) | exact HB.out)))); have n1_ := Aside0.mk (below_step (by repeat (first | (with_reducible first | exact HB.out | apply below_alloc | apply pw_below_drewN | apply below_drew1) | exact HB.out)) hb); clear HB; have HO193 := n0_; have HB := n1_; clear n0_ n1_; clear hb ho5))
      go_loopg [4] k (fun kq v4 w' => ∃ (x3_1 : List Int) (x4_1 : Int), v4 = .int .i64 x4_1 ∧ Aside0 (forest_ends.l0 kq l0 x3_1 x4_1 = some r) ∧ Aside0 (kq ≤ k) ∧ Aside0 (Kd.R (Kd.int .i64) 3 w' w.heap.size (fun _ => True) v192 x3_1) ∧ Aside0 (Below w.heap.size w w'))
      case atStart => exact ⟨(y191), (wrap64 ((l0.length : Int) - 1)), (by first | rfl | (simp; done) | (simp [*]; done)), H', ⟨Nat.le_refl _⟩, ⟨by (with_reducible repeat (first | apply Kd.R_alloc | apply Kd.R_drewN | apply Kd.R_drew)); exact HO193.out⟩, ⟨by repeat (first | (with_reducible first | exact HB.out | apply below_alloc | apply pw_below_drewN | apply below_drew1) | exact HB.out)⟩⟩
      case round =>
        clear H'
        try clear c2
        try clear c2b0
        try clear c2b1
        try clear p2
        try clear c3
        try clear c3b0
        try clear c3b1
        obtain ⟨x3_1, x4_1, rfl, HA, HK1, HO_3, HB⟩ := hrel
        cases gk with
        | zero => exact absurd HA.out (by simp [forest_ends.l0])
        | succ k1 =>
          have H := HA.out
          clear HA
          simp only [forest_ends.l0] at H
          by_cases c6 : x4_1 ≥ 0
          · rw [if_pos c6] at H
            have c6b0 : decide (0 ≤ x4_1) = true := decide_eq_true c6
            clear c6
            have HC7 := Aside0.mk H
            clear H
            go_upto_region 6 with (fail)
            go_cut [37] (fun v37 wc => ∃ (kq : Nat) (x37_6 : Bool), v37 = .bool x37_6 ∧ Aside0 (forest_ends.j1 kq l0 x3_1 x4_1 (wrap64 (x4_1 + 1)) x37_6 = some r) ∧ Aside0 (kq ≤ k1) ∧ Aside0 (Kd.R (Kd.int .i64) 3 wc w.heap.size (fun _ => True) v192 x3_1) ∧ Aside0 (Below w.heap.size w wc))
            case first =>
              have H := HC7.out
              clear HC7
              by_cases c8 : 0 ≤ x4_1
              · rw [if_pos c8] at H
                have c8b0 : decide (0 ≤ x4_1) = true := decide_eq_true c8
                clear c8
                (first | rw [c8b0] | (simp only [i64_w, i32_w]; rw [c8b0]) | skip)
                by_cases c9 : x4_1 < (l0.length : Int)
                · rw [if_pos c9] at H
                  have c9b0 : decide (x4_1 < (l0.length : Int)) = true := decide_eq_true c9
                  clear c9
                  by_cases c10 : ((rd_T49 l0 x4_1).f3) < 0
                  · rw [if_pos c10] at H
                    have c10b0 : decide (((rd_T49 l0 x4_1).f3) < 0) = true := decide_eq_true c10
                    clear c10
                    have H' := Aside0.mk H
                    clear H
                    have p194 : 0 ≤ (x4_1 : Int) := of_decide_eq_true (by first | (with_reducible assumption) | assumption)
                    have q194 : x4_1 < (l0.length : Int) := of_decide_eq_true (by first | (with_reducible assumption) | assumption)
                    obtain ⟨ad194, e194, hx194_0, hx194_1, hx194_2, hx194_3⟩ := at_T49 HR0.out x4_1 p194 q194
                    cases e194
                    replace hx194_0 := (HB.out.cell (World.block_lt_of_cell? w _ hx194_0)).trans hx194_0
                    replace hx194_1 := (HB.out.cell (World.block_lt_of_cell? w _ hx194_1)).trans hx194_1
                    replace hx194_2 := (HB.out.cell (World.block_lt_of_cell? w _ hx194_2)).trans hx194_2
                    replace hx194_3 := (HB.out.cell (World.block_lt_of_cell? w _ hx194_3)).trans hx194_3
                    replace p194 := eq_true p194
                    replace q194 := eq_true q194
                    go_wp2
                    go_meet
                    case rel => exact ⟨_, (true), (by first | rfl | (simp; done) | (simp [*]; done)), H', ⟨by have := HK1.out; first | omega | exact Nat.le_refl _⟩, ⟨by (with_reducible repeat (first | apply Kd.R_alloc | apply Kd.R_drewN | apply Kd.R_drew)); exact HO_3.out⟩, ⟨by repeat (first | (with_reducible first | exact HB.out | apply below_alloc | apply pw_below_drewN | apply below_drew1) | exact HB.out)⟩⟩
                  · rw [if_neg c10] at H
                    have c10b0 : decide (((rd_T49 l0 x4_1).f3) < 0) = false := decide_eq_false c10
                    clear c10
                    have H' := Aside0.mk H
                    clear H
                    have p194 : 0 ≤ (x4_1 : Int) := of_decide_eq_true (by first | (with_reducible assumption) | assumption)
                    have q194 : x4_1 < (l0.length : Int) := of_decide_eq_true (by first | (with_reducible assumption) | assumption)
                    obtain ⟨ad194, e194, hx194_0, hx194_1, hx194_2, hx194_3⟩ := at_T49 HR0.out x4_1 p194 q194
                    cases e194
                    replace hx194_0 := (HB.out.cell (World.block_lt_of_cell? w _ hx194_0)).trans hx194_0
                    replace hx194_1 := (HB.out.cell (World.block_lt_of_cell? w _ hx194_1)).trans hx194_1
                    replace hx194_2 := (HB.out.cell (World.block_lt_of_cell? w _ hx194_2)).trans hx194_2
                    replace hx194_3 := (HB.out.cell (World.block_lt_of_cell? w _ hx194_3)).trans hx194_3
                    replace p194 := eq_true p194
                    replace q194 := eq_true q194
                    have p195 : 0 ≤ (x4_1 : Int) := of_decide_eq_true (by first | (with_reducible assumption) | assumption)
                    have q195 : x4_1 < (l0.length : Int) := of_decide_eq_true (by first | (with_reducible assumption) | assumption)
                    obtain ⟨ad195, e195, hx195_0, hx195_1, hx195_2, hx195_3⟩ := at_T49 HR0.out x4_1 p195 q195
                    obtain rfl : ad194 = ad195 := (by injection e195)
                    replace hx195_0 := (HB.out.cell (World.block_lt_of_cell? w _ hx195_0)).trans hx195_0
                    replace hx195_1 := (HB.out.cell (World.block_lt_of_cell? w _ hx195_1)).trans hx195_1
                    replace hx195_2 := (HB.out.cell (World.block_lt_of_cell? w _ hx195_2)).trans hx195_2
                    replace hx195_3 := (HB.out.cell (World.block_lt_of_cell? w _ hx195_3)).trans hx195_3
                    replace p195 := eq_true p195
                    replace q195 := eq_true q195
                    go_wp2
                    go_meet
                    case rel => exact ⟨_, (decide (((rd_T49 l0 x4_1).f3) > (wrap64 ((wrap64 ((l0.length : Int) - 1)) - x4_1)))), (by first | rfl | (simp; done) | (simp [*]; done)), H', ⟨by have := HK1.out; first | omega | exact Nat.le_refl _⟩, ⟨by (with_reducible repeat (first | apply Kd.R_alloc | apply Kd.R_drewN | apply Kd.R_drew)); exact HO_3.out⟩, ⟨by repeat (first | (with_reducible first | exact HB.out | apply below_alloc | apply pw_below_drewN | apply below_drew1) | exact HB.out)⟩⟩
                · rw [if_neg c9] at H
                  exact absurd H (by simp)
              · rw [if_neg c8] at H
                exact absurd H (by simp)
            case rest =>
              clear HC7
              try clear c1
              try clear p1
              try clear q1
              try clear hx1
              try clear c2
              try clear c2b0
              try clear c2b1
              try clear p2
              try clear c3
              try clear c3b0
              try clear c3b1
              try clear c6
              try clear c6b0
              try clear p6
              try clear c8
              try clear c8b0
              try clear c9
              try clear c9b0
              try clear c10
              try clear c10b0
              try clear hx194_0
              try clear hx194_1
              try clear hx194_2
              try clear hx194_3
              try clear hx195_0
              try clear hx195_1
              try clear hx195_2
              try clear hx195_3
              try clear p194
              try clear p195
              try clear p2
              try clear q194
              try clear q195
              obtain ⟨kq, x37_6, rfl, HA, HJ6, HO_3, HB⟩ := hcut
              cases kq with
              | zero => exact absurd HA.out (by simp [forest_ends.j1])
              | succ kj6 =>
                have H := HA.out
                clear HA
                simp only [forest_ends.j1] at H
                have HC11 := Aside0.mk H
                clear H
                go_upto_if 37 with (fail)
                go_cut [5] (fun v5 wc => ∃ (kq : Nat) (x5_10 : Int), v5 = .int .i64 x5_10 ∧ Aside0 (forest_ends.j2 kq l0 x3_1 x4_1 x5_10 = some r) ∧ Aside0 (kq ≤ kj6) ∧ Aside0 (Kd.R (Kd.int .i64) 3 wc w.heap.size (fun _ => True) v192 x3_1) ∧ Aside0 (Below w.heap.size w wc))
                case first =>
                  have H := HC11.out
                  clear HC11
                  by_cases c12 : x37_6 = true
                  · subst c12
                    have H1 : (forest_ends.j2 kj6 l0 x3_1 x4_1 (-1)) = some r := by rw [if_pos rfl] at H; exact H
                    clear H
                    have H := H1
                    clear H1
                    have H' := Aside0.mk H
                    clear H
                    go_wp2
                    go_meet
                    case rel => exact ⟨_, ((-1)), (by first | rfl | (simp; done) | (simp [*]; done)), H', ⟨by have := HK1.out; have := HJ6.out; first | omega | exact Nat.le_refl _⟩, ⟨by (with_reducible repeat (first | apply Kd.R_alloc | apply Kd.R_drewN | apply Kd.R_drew)); exact HO_3.out⟩, ⟨by repeat (first | (with_reducible first | exact HB.out | apply below_alloc | apply pw_below_drewN | apply below_drew1) | exact HB.out)⟩⟩
                  · replace c12 := Bool.eq_false_iff.mpr c12
                    subst c12
                    have H1 : (forest_ends.j2 kj6 l0 x3_1 x4_1 (wrap64 (x4_1 + 1))) = some r := by rw [if_neg (show ¬ (false = true) by decide)] at H; exact H
                    clear H
                    have H := H1
                    clear H1
                    have H' := Aside0.mk H
                    clear H
                    go_wp2
                    go_meet
                    case rel => exact ⟨_, ((wrap64 (x4_1 + 1))), (by first | rfl | (simp; done) | (simp [*]; done)), H', ⟨by have := HK1.out; have := HJ6.out; first | omega | exact Nat.le_refl _⟩, ⟨by (with_reducible repeat (first | apply Kd.R_alloc | apply Kd.R_drewN | apply Kd.R_drew)); exact HO_3.out⟩, ⟨by repeat (first | (with_reducible first | exact HB.out | apply below_alloc | apply pw_below_drewN | apply below_drew1) | exact HB.out)⟩⟩
                case rest =>
                  clear HC11
                  try clear c1
                  try clear p1
                  try clear q1
                  try clear hx1
                  try clear c2
                  try clear c2b0
                  try clear c2b1
                  try clear p2
                  try clear c3
                  try clear c3b0
                  try clear c3b1
                  try clear c6
                  try clear c6b0
                  try clear p6
                  try clear c8
                  try clear c8b0
                  try clear c9
                  try clear c9b0
                  try clear c10
                  try clear c10b0
                  try clear c12
                  try clear hx194_0
                  try clear hx194_1
                  try clear hx194_2
                  try clear hx194_3
                  try clear hx195_0
                  try clear hx195_1
                  try clear hx195_2
                  try clear hx195_3
                  try clear p1
                  try clear p194
                  try clear p195
                  try clear p2
                  try clear p6
                  try clear q1
                  try clear q194
                  try clear q195
                  obtain ⟨kq, x5_10, rfl, HA, HJ10, HO_3, HB⟩ := hcut
                  cases kq with
                  | zero => exact absurd HA.out (by simp [forest_ends.j2])
                  | succ kj10 =>
                    have H := HA.out
                    clear HA
                    simp only [forest_ends.j2] at H
                    have H' := Aside0.mk H
                    clear H
                    go_wp2
                    go_loopg [5, 6] kj10 (fun kq v5 v6 w' => ∃ (x5_4 : Int) (x6_4 : Int), v5 = .int .i64 x5_4 ∧ v6 = .int .i64 x6_4 ∧ Aside0 (forest_ends.l1 kq l0 x3_1 x4_1 x5_4 x6_4 = some r) ∧ Aside0 (kq ≤ kj10) ∧ Aside0 (Kd.R (Kd.int .i64) 3 w' w.heap.size (fun _ => True) v192 x3_1) ∧ Aside0 (Below w.heap.size w w'))
                    case atStart => exact ⟨(x5_10), (0), (by first | rfl | (simp; done) | (simp [*]; done)), (by first | rfl | (simp; done) | (simp [*]; done)), H', ⟨Nat.le_refl _⟩, ⟨by (with_reducible repeat (first | apply Kd.R_alloc | apply Kd.R_drewN | apply Kd.R_drew)); exact HO_3.out⟩, ⟨by repeat (first | (with_reducible first | exact HB.out | apply below_alloc | apply pw_below_drewN | apply below_drew1) | exact HB.out)⟩⟩
                    case round =>
                      clear H'
                      try clear c1
                      try clear p1
                      try clear q1
                      try clear hx1
                      try clear c2
                      try clear c2b0
                      try clear c2b1
                      try clear p2
                      try clear c3
                      try clear c3b0
                      try clear c3b1
                      try clear c6
                      try clear c6b0
                      try clear p6
                      try clear c8
                      try clear c8b0
                      try clear c9
                      try clear c9b0
                      try clear c10
                      try clear c10b0
                      try clear c12
                      try clear hx194_0
                      try clear hx194_1
                      try clear hx194_2
                      try clear hx194_3
                      try clear hx195_0
                      try clear hx195_1
                      try clear hx195_2
                      try clear hx195_3
                      try clear p1
                      try clear p194
                      try clear p195
                      try clear p2
                      try clear p6
                      try clear q1
                      try clear q194
                      try clear q195
                      obtain ⟨x5_4, x6_4, rfl, rfl, HA, HK4, HO_3, HB⟩ := hrel
                      cases gk with
                      | zero => exact absurd HA.out (by simp [forest_ends.l1])
                      | succ k4 =>
                        have H := HA.out
                        clear HA
                        simp only [forest_ends.l1] at H
                        have HC13 := Aside0.mk H
                        clear H
                        go_upto_region 9 with (fail)
                        go_cut [48] (fun v48 wc => ∃ (kq : Nat) (x48_12 : Bool), v48 = .bool x48_12 ∧ Aside0 (forest_ends.j4 kq l0 x3_1 x4_1 x5_4 x6_4 x48_12 = some r) ∧ Aside0 (kq ≤ k4) ∧ Aside0 (Kd.R (Kd.int .i64) 3 wc w.heap.size (fun _ => True) v192 x3_1) ∧ Aside0 (Below w.heap.size w wc))
                        case first =>
                          have H := HC13.out
                          clear HC13
                          by_cases c14 : 0 ≤ x4_1
                          · rw [if_pos c14] at H
                            have c14b0 : decide (0 ≤ x4_1) = true := decide_eq_true c14
                            clear c14
                            (first | rw [c14b0] | (simp only [i64_w, i32_w]; rw [c14b0]) | skip)
                            by_cases c15 : x4_1 < (l0.length : Int)
                            · rw [if_pos c15] at H
                              have c15b0 : decide (x4_1 < (l0.length : Int)) = true := decide_eq_true c15
                              clear c15
                              by_cases c16 : x6_4 < ((rd_T49 l0 x4_1).f3)
                              · rw [if_pos c16] at H
                                have c16b0 : decide (x6_4 < ((rd_T49 l0 x4_1).f3)) = true := decide_eq_true c16
                                clear c16
                                have H' := Aside0.mk H
                                clear H
                                have p196 : 0 ≤ (x4_1 : Int) := of_decide_eq_true (by first | (with_reducible assumption) | assumption)
                                have q196 : x4_1 < (l0.length : Int) := of_decide_eq_true (by first | (with_reducible assumption) | assumption)
                                obtain ⟨ad196, e196, hx196_0, hx196_1, hx196_2, hx196_3⟩ := at_T49 HR0.out x4_1 p196 q196
                                cases e196
                                replace hx196_0 := (HB.out.cell (World.block_lt_of_cell? w _ hx196_0)).trans hx196_0
                                replace hx196_1 := (HB.out.cell (World.block_lt_of_cell? w _ hx196_1)).trans hx196_1
                                replace hx196_2 := (HB.out.cell (World.block_lt_of_cell? w _ hx196_2)).trans hx196_2
                                replace hx196_3 := (HB.out.cell (World.block_lt_of_cell? w _ hx196_3)).trans hx196_3
                                replace p196 := eq_true p196
                                replace q196 := eq_true q196
                                go_wp2
                                go_meet
                                case rel => exact ⟨_, (decide (x5_4 ≥ 0)), (by first | rfl | (simp; done) | (simp [*]; done)), H', ⟨by have := HK1.out; have := HJ6.out; have := HJ10.out; have := HK4.out; first | omega | exact Nat.le_refl _⟩, ⟨by (with_reducible repeat (first | apply Kd.R_alloc | apply Kd.R_drewN | apply Kd.R_drew)); exact HO_3.out⟩, ⟨by repeat (first | (with_reducible first | exact HB.out | apply below_alloc | apply pw_below_drewN | apply below_drew1) | exact HB.out)⟩⟩
                              · rw [if_neg c16] at H
                                have c16b0 : decide (x6_4 < ((rd_T49 l0 x4_1).f3)) = false := decide_eq_false c16
                                clear c16
                                have H' := Aside0.mk H
                                clear H
                                have p196 : 0 ≤ (x4_1 : Int) := of_decide_eq_true (by first | (with_reducible assumption) | assumption)
                                have q196 : x4_1 < (l0.length : Int) := of_decide_eq_true (by first | (with_reducible assumption) | assumption)
                                obtain ⟨ad196, e196, hx196_0, hx196_1, hx196_2, hx196_3⟩ := at_T49 HR0.out x4_1 p196 q196
                                cases e196
                                replace hx196_0 := (HB.out.cell (World.block_lt_of_cell? w _ hx196_0)).trans hx196_0
                                replace hx196_1 := (HB.out.cell (World.block_lt_of_cell? w _ hx196_1)).trans hx196_1
                                replace hx196_2 := (HB.out.cell (World.block_lt_of_cell? w _ hx196_2)).trans hx196_2
                                replace hx196_3 := (HB.out.cell (World.block_lt_of_cell? w _ hx196_3)).trans hx196_3
                                replace p196 := eq_true p196
                                replace q196 := eq_true q196
                                go_wp2
                                go_meet
                                case rel => exact ⟨_, (false), (by first | rfl | (simp; done) | (simp [*]; done)), H', ⟨by have := HK1.out; have := HJ6.out; have := HJ10.out; have := HK4.out; first | omega | exact Nat.le_refl _⟩, ⟨by (with_reducible repeat (first | apply Kd.R_alloc | apply Kd.R_drewN | apply Kd.R_drew)); exact HO_3.out⟩, ⟨by repeat (first | (with_reducible first | exact HB.out | apply below_alloc | apply pw_below_drewN | apply below_drew1) | exact HB.out)⟩⟩
                            · rw [if_neg c15] at H
                              exact absurd H (by simp)
                          · rw [if_neg c14] at H
                            exact absurd H (by simp)
                        case rest =>
                          clear HC13
                          try clear c1
                          try clear p1
                          try clear q1
                          try clear hx1
                          try clear c2
                          try clear c2b0
                          try clear c2b1
                          try clear p2
                          try clear c3
                          try clear c3b0
                          try clear c3b1
                          try clear c6
                          try clear c6b0
                          try clear p6
                          try clear c8
                          try clear c8b0
                          try clear c9
                          try clear c9b0
                          try clear c10
                          try clear c10b0
                          try clear c12
                          try clear c14
                          try clear c14b0
                          try clear c15
                          try clear c15b0
                          try clear c16
                          try clear c16b0
                          try clear hx194_0
                          try clear hx194_1
                          try clear hx194_2
                          try clear hx194_3
                          try clear hx195_0
                          try clear hx195_1
                          try clear hx195_2
                          try clear hx195_3
                          try clear hx196_0
                          try clear hx196_1
                          try clear hx196_2
                          try clear hx196_3
                          try clear p1
                          try clear p194
                          try clear p195
                          try clear p196
                          try clear p2
                          try clear p6
                          try clear q1
                          try clear q194
                          try clear q195
                          try clear q196
                          obtain ⟨kq, x48_12, rfl, HA, HJ12, HO_3, HB⟩ := hcut
                          cases kq with
                          | zero => exact absurd HA.out (by simp [forest_ends.j4])
                          | succ kj12 =>
                            have H := HA.out
                            clear HA
                            simp only [forest_ends.j4] at H
                            by_cases c17 : x48_12 = true
                            · subst c17
                              have H1 : (if x5_4 ≥ (l0.length : Int) then (forest_ends.l1 kj12 l0 x3_1 x4_1 (-1) (wrap64 (x6_4 + 1))) else (if 0 ≤ x5_4 then (if x5_4 < (x3_1.length : Int) then (forest_ends.l1 kj12 l0 x3_1 x4_1 (rd x3_1 x5_4) (wrap64 (x6_4 + 1))) else (none)) else (none))) = some r := by rw [if_pos rfl] at H; exact H
                              clear H
                              have H := H1
                              clear H1
                              by_cases c18 : x5_4 ≥ (l0.length : Int)
                              · rw [if_pos c18] at H
                                have c18b0 : decide ((l0.length : Int) ≤ x5_4) = true := decide_eq_true c18
                                clear c18
                                have H' := Aside0.mk H
                                clear H
                                go_wp2
                                go_roundg kj12
                                case measure => have := HK1.out; have := HJ6.out; have := HJ10.out; have := HK4.out; have := HJ12.out; omega
                                case rel => exact ⟨((-1)), (wrap64 (x6_4 + 1)), (by first | rfl | (simp; done) | (simp [*]; done)), (by first | rfl | (simp; done) | (simp [*]; done)), H', ⟨by have := HK1.out; have := HJ6.out; have := HJ10.out; have := HK4.out; have := HJ12.out; omega⟩, ⟨by (with_reducible repeat (first | apply Kd.R_alloc | apply Kd.R_drewN | apply Kd.R_drew)); exact HO_3.out⟩, ⟨by repeat (first | (with_reducible first | exact HB.out | apply below_alloc | apply pw_below_drewN | apply below_drew1) | exact HB.out)⟩⟩
                              · rw [if_neg c18] at H
                                have c18b0 : decide ((l0.length : Int) ≤ x5_4) = false := decide_eq_false c18
                                clear c18
                                by_cases c19 : 0 ≤ x5_4
                                · rw [if_pos c19] at H
                                  have c19b0 : decide (0 ≤ x5_4) = true := decide_eq_true c19
                                  clear c19
                                  by_cases c20 : x5_4 < (x3_1.length : Int)
                                  · rw [if_pos c20] at H
                                    have c20b0 : decide (x5_4 < (x3_1.length : Int)) = true := decide_eq_true c20
                                    clear c20
                                    have H' := Aside0.mk H
                                    clear H
                                    obtain ⟨Ao21, co21, eo21⟩ := Kd.R_slice HO_3.out
                                    subst eo21
                                    have p197 : 0 ≤ (x5_4 : Int) := of_decide_eq_true (by first | (with_reducible assumption) | assumption)
                                    have q197 : x5_4 < (x3_1.length : Int) := of_decide_eq_true (by first | (with_reducible assumption) | assumption)
                                    obtain ⟨ad197, e197, hx197_0⟩ := Kd.at_int (Kd.R_reads' HO_3.out).2.2 x5_4 p197 q197
                                    cases e197
                                    replace p197 := eq_true p197
                                    replace q197 := eq_true q197
                                    go_wp2
                                    go_roundg kj12
                                    case measure => have := HK1.out; have := HJ6.out; have := HJ10.out; have := HK4.out; have := HJ12.out; omega
                                    case rel => exact ⟨(rd x3_1 x5_4), (wrap64 (x6_4 + 1)), (by first | rfl | (simp; done) | (simp [*]; done)), (by first | rfl | (simp; done) | (simp [*]; done)), H', ⟨by have := HK1.out; have := HJ6.out; have := HJ10.out; have := HK4.out; have := HJ12.out; omega⟩, ⟨by (with_reducible repeat (first | apply Kd.R_alloc | apply Kd.R_drewN | apply Kd.R_drew)); exact HO_3.out⟩, ⟨by repeat (first | (with_reducible first | exact HB.out | apply below_alloc | apply pw_below_drewN | apply below_drew1) | exact HB.out)⟩⟩
                                  · rw [if_neg c20] at H
                                    exact absurd H (by simp)
                                · rw [if_neg c19] at H
                                  exact absurd H (by simp)
                            · replace c17 := Bool.eq_false_iff.mpr c17
                              subst c17
                              have H1 : (if 0 ≤ x4_1 then (if x4_1 < (x3_1.length : Int) then (forest_ends.l0 kj12 l0 (x3_1.set (x4_1 : Int).toNat x5_4) (wrap64 (x4_1 - 1))) else (none)) else (none)) = some r := by rw [if_neg (show ¬ (false = true) by decide)] at H; exact H
                              clear H
                              have H := H1
                              clear H1
                              by_cases c22 : 0 ≤ x4_1
                              · rw [if_pos c22] at H
                                have c22b0 : decide (0 ≤ x4_1) = true := decide_eq_true c22
                                clear c22
                                by_cases c23 : x4_1 < (x3_1.length : Int)
                                · rw [if_pos c23] at H
                                  have c23b0 : decide (x4_1 < (x3_1.length : Int)) = true := decide_eq_true c23
                                  clear c23
                                  obtain ⟨y198, hy198⟩ : ∃ y_ : List Int, y_ = (x3_1.set (x4_1 : Int).toNat x5_4) := ⟨_, rfl⟩
                                  replace H : (forest_ends.l0 kj12 l0 y198 (wrap64 (x4_1 - 1))) = some r := by first | (rw [hy198]; with_reducible exact H) | (have H2_ := (Option.bind_some _ _).symm.trans H; rw [hy198]; with_reducible exact H2_) | (have H2_ := (Option.bind_some _ _).symm.trans H; with_reducible exact H2_) | with_reducible exact H | (rw [hy198]; exact H) | exact H
                                  have Ny198 := Aside0.mk hy198
                                  clear hy198
                                  have H' := Aside0.mk H
                                  clear H
                                  have p24 : 0 ≤ (x4_1 : Int) := of_decide_eq_true (by first | (with_reducible assumption) | assumption)
                                  have q24 : (x4_1 : Int) < ((x3_1.length : Int) : Int) := of_decide_eq_true (by first | (with_reducible assumption) | assumption)
                                  obtain ⟨go24, co24, eo24, gb24, gl24, cl24, HG24⟩ := Kd.R_form HO_3.out (by omega)
                                  (first | cases eo24 | (injection eo24 with ea_ en_ ec_; (first | subst ea_ | (injection ea_ with ea_; subst ea_)); subst ec_; clear en_))
                                  have GB24 := Aside0.mk gb24
                                  have GG24 := Aside0.mk HG24
                                  clear gb24 gl24 HG24
                                  obtain ⟨hx24_0, hf24_0⟩ := Kd.R_celln 0 HO_3.out (x4_1 : Int) p24 q24
                                  replace p24 := eq_true p24
                                  replace q24 := eq_true q24
                                  have HP25 := Kd.R_putg HO_3.out (x4_1 : Int) x5_4
                                  go_wp2_with (first | ((with_reducible refine gate_store (t := 3) (p := 62) rfl ?_); refine store_event (t := 3) (p := 62) (v := ?vo_w26) (w1 := (wc.setCell ⟨go24, (x4_1 : Int).toNat, none⟩ (.int .i64 x5_4))) ?hg ?ho ?hn ?hr ?_; (case ho => rfl); (case hg => rfl); (case hn => rfl); (case hr => first | (go_simp; done) | (go_simp; rfl)); intro w26 hw; have hg : wc.grownBy w26 (some go24) := (by rw [hw]; exact HP25.2); have hp_ : Kd.R (Kd.int .i64) 3 w26 w.heap.size (fun _ => True) (.slice (some ⟨go24, 0, none⟩) x3_1.length co24) y198 := (by rw [hw, Ny198.out]; exact HP25.1); clear HP25; have n0_ := Aside0.mk (hp_); have n1_ := Aside0.mk ((by rw [hw]; exact below_set (HB.out) GB24.out : Below w.heap.size w w26)); clear HO_3; clear HB; have HO_3 := n0_; have HB := n1_; clear n0_ n1_; clear hg hw hp_))
                                  go_roundg kj12
                                  case measure => have := HK1.out; have := HJ6.out; have := HJ10.out; have := HK4.out; have := HJ12.out; omega
                                  case rel => exact ⟨(y198), (wrap64 (x4_1 - 1)), (by first | rfl | (simp; done) | (simp [*]; done)), H', ⟨by have := HK1.out; have := HJ6.out; have := HJ10.out; have := HK4.out; have := HJ12.out; omega⟩, ⟨by (with_reducible repeat (first | apply Kd.R_alloc | apply Kd.R_drewN | apply Kd.R_drew)); exact HO_3.out⟩, ⟨by repeat (first | (with_reducible first | exact HB.out | apply below_alloc | apply pw_below_drewN | apply below_drew1) | exact HB.out)⟩⟩
                                · rw [if_neg c23] at H
                                  exact absurd H (by simp)
                              · rw [if_neg c22] at H
                                exact absurd H (by simp)
          · rw [if_neg c6] at H
            have c6b0 : decide (0 ≤ x4_1) = false := decide_eq_false c6
            clear c6
            obtain rfl := Option.some.inj H
            go_wp2
            go_ret
            exact ⟨_, by first | rfl | (simp [errW_none, errW_some] <;> rfl) | (simp [*, errW_none, errW_some] <;> rfl), by (with_reducible repeat (first | apply Kd.R_alloc | apply Kd.R_drewN | apply Kd.R_drew)); exact HO_3.out, by repeat (first | (with_reducible first | exact HB.out | apply below_alloc | apply pw_below_drewN | apply below_drew1) | exact HB.out)⟩
    · rw [if_neg c3] at H
      exact absurd H (by simp)
  · rw [if_neg c2] at H
    exact absurd H (by simp)

/-! ### forest_roots: function 22 -/
def forest_roots.l0 : Nat → List Int → List Int → Int → Option (List Int × Bool)
  | 0, _, _, _ => none
  | k + 1, x0, x4, x5 => if x5 < (x0.length : Int) then (if 0 ≤ x5 then (if (rd x0 x5) < 0 then (some (([] : List Int), false)) else (if x4.length < 17592186044416 then (forest_roots.l0 k x0 (x4 ++ [x5]) (rd x0 x5)) else (none))) else (none)) else (some (x4, true))
def forest_roots.f (k : Nat) (l0 : List Int) : Option (List Int × Bool) := forest_roots.l0 k l0 ([] : List Int) 0
set_option maxHeartbeats 8000000 in
set_option maxRecDepth 100000 in
theorem forest_roots.calls (k : Nat) (A0 : Option Addr) (c0 : Nat) (l0 : List Int) (r1 : List Int) (r2 : Bool) (w : World) (hr0 : Kd.C (Kd.int .i64) w A0 l0.length l0) (hc0 : l0.length ≤ c0) (h : forest_roots.f k l0 = some (r1, r2)) :
    Calls Tryd.prog 22 #[.slice A0 l0.length c0] w fun e w' => ∃ v0_ : Value, e = .returned (.tuple #[v0_, .bool r2]) ∧ Kd.R (Kd.int .i64) 3 w' w.heap.size (fun _ => True) v0_ r1 ∧ Below w.heap.size w w' := by
  have HR0 := Aside0.mk hr0
  have HC0 := Aside0.mk hc0
  clear hr0 hc0
  have HB := Aside0.mk (Below.refl w.heap.size w)
  have H : (forest_roots.l0 k l0 ([] : List Int) 0) = some (r1, r2) := h
  clear h
  have H' := Aside0.mk H
  clear H
  go_enter Tryd.func22, Tryd.ntmps22
  go_wp2
  go_loopg [4, 5] k (fun kq v4 v5 w' => ∃ (x4_1 : List Int) (x5_1 : Int), v5 = .int .i64 x5_1 ∧ Aside0 (forest_roots.l0 kq l0 x4_1 x5_1 = some (r1, r2)) ∧ Aside0 (kq ≤ k) ∧ Aside0 (Kd.R (Kd.int .i64) 3 w' w.heap.size (fun _ => True) v4 x4_1) ∧ Aside0 (Below w.heap.size w w'))
  case atStart => exact ⟨(([] : List Int)), (0), (by first | rfl | (simp; done) | (simp [*]; done)), H', ⟨Nat.le_refl _⟩, ⟨by first | exact Kd.R_nil _ _ _ _ _ | exact Kd.N_nil _ _ _ _ _ | exact Kd.V_nil _ _ _ _ _ | exact Kd.Q_nil _ _ _ _ _ | exact Kd.S_nil _ _ _ _ _⟩, ⟨by repeat (first | (with_reducible first | exact HB.out | apply below_alloc | apply pw_below_drewN | apply below_drew1) | exact HB.out)⟩⟩
  case round =>
    clear H'
    obtain ⟨x4_1, x5_1, rfl, HA, HK1, HO_4, HB⟩ := hrel
    cases gk with
    | zero => exact absurd HA.out (by simp [forest_roots.l0])
    | succ k1 =>
      have H := HA.out
      clear HA
      simp only [forest_roots.l0] at H
      by_cases c2 : x5_1 < (l0.length : Int)
      · rw [if_pos c2] at H
        have c2b0 : decide (x5_1 < (l0.length : Int)) = true := decide_eq_true c2
        clear c2
        by_cases c3 : 0 ≤ x5_1
        · rw [if_pos c3] at H
          have c3b0 : decide (0 ≤ x5_1) = true := decide_eq_true c3
          clear c3
          by_cases c4 : (rd l0 x5_1) < 0
          · rw [if_pos c4] at H
            have c4b0 : decide ((rd l0 x5_1) < 0) = true := decide_eq_true c4
            clear c4
            simp only [Option.some.injEq, Prod.mk.injEq] at H
            obtain ⟨rfl, rfl⟩ := H
            have p199 : 0 ≤ (x5_1 : Int) := of_decide_eq_true (by first | (with_reducible assumption) | assumption)
            have q199 : x5_1 < (l0.length : Int) := of_decide_eq_true (by first | (with_reducible assumption) | assumption)
            obtain ⟨ad199, e199, hx199_0⟩ := Kd.at_int HR0.out x5_1 p199 q199
            cases e199
            replace hx199_0 := (HB.out.cell (World.block_lt_of_cell? w _ hx199_0)).trans hx199_0
            replace p199 := eq_true p199
            replace q199 := eq_true q199
            go_wp2
            go_ret2
            exact ⟨_, by first | rfl | (simp [errW_none, errW_some] <;> rfl) | (simp [*, errW_none, errW_some] <;> rfl), by first | exact Kd.R_nil _ _ _ _ _ | exact Kd.N_nil _ _ _ _ _ | exact Kd.V_nil _ _ _ _ _ | exact Kd.Q_nil _ _ _ _ _ | exact Kd.S_nil _ _ _ _ _, by repeat (first | (with_reducible first | exact HB.out | apply below_alloc | apply pw_below_drewN | apply below_drew1) | exact HB.out)⟩
          · rw [if_neg c4] at H
            have c4b0 : decide ((rd l0 x5_1) < 0) = false := decide_eq_false c4
            clear c4
            by_cases c5 : x4_1.length < 17592186044416
            · rw [if_pos c5] at H
              have LMc5 := Aside0.mk c5
              clear c5
              obtain ⟨y200, hy200⟩ : ∃ y_ : List Int, y_ = (x4_1 ++ [x5_1]) := ⟨_, rfl⟩
              replace H : (forest_roots.l0 k1 l0 y200 (rd l0 x5_1)) = some (r1, r2) := by first | (rw [hy200]; with_reducible exact H) | (have H2_ := (Option.bind_some _ _).symm.trans H; rw [hy200]; with_reducible exact H2_) | (have H2_ := (Option.bind_some _ _).symm.trans H; with_reducible exact H2_) | with_reducible exact H | (rw [hy200]; exact H) | exact H
              have Ny200 := Aside0.mk hy200
              clear hy200
              have H' := Aside0.mk H
              clear H
              have p199 : 0 ≤ (x5_1 : Int) := of_decide_eq_true (by first | (with_reducible assumption) | assumption)
              have q199 : x5_1 < (l0.length : Int) := of_decide_eq_true (by first | (with_reducible assumption) | assumption)
              obtain ⟨ad199, e199, hx199_0⟩ := Kd.at_int HR0.out x5_1 p199 q199
              cases e199
              replace hx199_0 := (HB.out.cell (World.block_lt_of_cell? w _ hx199_0)).trans hx199_0
              replace p199 := eq_true p199
              replace q199 := eq_true q199
              go_wp2_with (first | ((with_reducible refine gate_builtin (b := .append) (xs := #[.tmp 19, .tmp 21]) rfl ?_); at_builtin; refine Kd.R_append (Kd.int .i64) (w0 := w) w.heap.size rfl (.tmp 19) (.tmp 21) 59 3 (.int .i64 0) 8 rfl Tryd.underlying59 info3 rfl (by decide) (by omega) u4 x4_1 x5_1 [.int .i64 x5_1] (fun _ => True) (fun _ => False) rfl rfl ?aP (fun _ hk => hk.elim) ?aF ?aO ?aB ?aS ?aL ?_; (case aP => exact rfl); (case aB => exact (by repeat (first | (with_reducible first | exact HB.out | apply below_alloc | apply pw_below_drewN | apply below_drew1) | exact HB.out))); (case aF => exact (fun _ _ => trivial)); (case aO => exact (by (with_reducible repeat (first | apply Kd.R_alloc | apply Kd.R_drewN | apply Kd.R_drew)); exact HO_4.out)); (case aS => exact (below_size (by repeat (first | (with_reducible first | exact HB.out | apply below_alloc | apply pw_below_drewN | apply below_drew1) | exact HB.out)))); (case aL => have := LMc5.out; omega); intro v201 w6 ho hb hg hat; rw [← Ny200.out] at ho; have n0_ := Aside0.mk (hb); have n1_ := Aside0.mk (ho); clear HB; clear HO_4; have HB := n0_; have HO202 := n1_; clear n0_ n1_; clear ho hb hg hat; have p203 : 0 ≤ (x5_1 : Int) := of_decide_eq_true (by first | (with_reducible assumption) | assumption); have q203 : x5_1 < (l0.length : Int) := of_decide_eq_true (by first | (with_reducible assumption) | assumption); obtain ⟨ad203, e203, hx203_0⟩ := Kd.at_int HR0.out x5_1 p203 q203; obtain rfl : ad199 = ad203 := (by injection e203); replace hx203_0 := (HB.out.cell (World.block_lt_of_cell? w _ hx203_0)).trans hx203_0; replace p203 := eq_true p203; replace q203 := eq_true q203))
              go_roundg k1
              case measure => have := HK1.out; omega
              case rel => exact ⟨(y200), (rd l0 x5_1), (by first | rfl | (simp; done) | (simp [*]; done)), H', ⟨by have := HK1.out; omega⟩, ⟨by (with_reducible repeat (first | apply Kd.R_alloc | apply Kd.R_drewN | apply Kd.R_drew)); exact HO202.out⟩, ⟨by repeat (first | (with_reducible first | exact HB.out | apply below_alloc | apply pw_below_drewN | apply below_drew1) | exact HB.out)⟩⟩
            · rw [if_neg c5] at H
              exact absurd H (by simp)
        · rw [if_neg c3] at H
          exact absurd H (by simp)
      · rw [if_neg c2] at H
        have c2b0 : decide (x5_1 < (l0.length : Int)) = false := decide_eq_false c2
        clear c2
        simp only [Option.some.injEq, Prod.mk.injEq] at H
        obtain ⟨rfl, rfl⟩ := H
        go_wp2
        go_ret2
        exact ⟨_, by first | rfl | (simp [errW_none, errW_some] <;> rfl) | (simp [*, errW_none, errW_some] <;> rfl), by (with_reducible repeat (first | apply Kd.R_alloc | apply Kd.R_drewN | apply Kd.R_drew)); exact HO_4.out, by repeat (first | (with_reducible first | exact HB.out | apply below_alloc | apply pw_below_drewN | apply below_drew1) | exact HB.out)⟩

/-! ### forest_own: function 33 -/
def forest_own.l0 : Nat → ByteArray → Int → Option (Bool)
  | 0, _, _ => none
  | k + 1, x0, x3 => if x3 < (x0.size : Int) then (if 0 ≤ x3 then (if (bt x0 x3) = 58 then (some false) else (if (bt x0 x3) = 126 then (some false) else (forest_own.l0 k x0 (wrap64 (x3 + 1))))) else (none)) else ((lexis_Name.f x0).bind fun t204 => (some t204))
def forest_own.f (k : Nat) (a0 : ByteArray) : Option (Bool) := forest_own.l0 k a0 0
set_option maxHeartbeats 8000000 in
set_option maxRecDepth 100000 in
theorem forest_own.calls (k : Nat) (a0 : ByteArray) (r : Bool) (w : World) (h : forest_own.f k a0 = some r) :
    Calls Tryd.prog 33 #[.string a0] w fun e w' => e = .returned (.bool r) ∧ Drawn0 w w' := by
  have H : (forest_own.l0 k a0 0) = some r := h
  clear h
  have H' := Aside0.mk H
  clear H
  go_enter Tryd.func33, Tryd.ntmps33
  go_wp2
  go_loopg [3] k (fun kq v3 w' => ∃ (x3_1 : Int), v3 = .int .i64 x3_1 ∧ Aside0 (forest_own.l0 kq a0 x3_1 = some r) ∧ Aside0 (kq ≤ k) ∧ Drawn0 w w')
  case atStart => exact ⟨(0), (by first | rfl | (simp; done) | (simp [*]; done)), H', ⟨Nat.le_refl _⟩, by repeat (first | exact Drawn0.refl _ | apply Drawn0.step)⟩
  case round =>
    clear H'
    obtain ⟨x3_1, rfl, HA, HK1, ⟨m1, rfl⟩⟩ := hrel
    cases gk with
    | zero => exact absurd HA.out (by simp [forest_own.l0])
    | succ k1 =>
      have H := HA.out
      clear HA
      simp only [forest_own.l0] at H
      by_cases c2 : x3_1 < (a0.size : Int)
      · rw [if_pos c2] at H
        have c2b0 : decide (x3_1 < (a0.size : Int)) = true := decide_eq_true c2
        clear c2
        by_cases c3 : 0 ≤ x3_1
        · rw [if_pos c3] at H
          have c3b0 : decide (0 ≤ x3_1) = true := decide_eq_true c3
          clear c3
          by_cases c5 : (bt a0 x3_1) = 58
          · rw [if_pos c5] at H
            have c5b0 : ((bt a0 x3_1) == 58) = true := beq_iff_eq.mpr c5
            have c5b1 : ((bt a0 x3_1) != 58) = false := bne_eq_false_iff_eq.mpr c5
            clear c5
            obtain rfl := Option.some.inj H
            have p4 : 0 ≤ (x3_1 : Int) := of_decide_eq_true (by first | (with_reducible assumption) | assumption)
            have q4 : x3_1 < (a0.size : Int) := of_decide_eq_true (by first | (with_reducible assumption) | assumption)
            have hx4 := bt_at a0 x3_1
            replace p4 := eq_true p4
            replace q4 := eq_true q4
            go_wp2
            go_ret
            exact ⟨by first | rfl | (simp; done) | (simp [*]; done), by repeat (first | exact Drawn0.refl _ | apply Drawn0.step)⟩
          · rw [if_neg c5] at H
            have c5b0 : ((bt a0 x3_1) == 58) = false := beq_eq_false_iff_ne.mpr c5
            have c5b1 : ((bt a0 x3_1) != 58) = true := bne_iff_ne.mpr c5
            by_cases c7 : (bt a0 x3_1) = 126
            · rw [if_pos c7] at H
              have c7b0 : ((bt a0 x3_1) == 126) = true := beq_iff_eq.mpr c7
              have c7b1 : ((bt a0 x3_1) != 126) = false := bne_eq_false_iff_eq.mpr c7
              clear c7
              obtain rfl := Option.some.inj H
              have p4 : 0 ≤ (x3_1 : Int) := of_decide_eq_true (by first | (with_reducible assumption) | assumption)
              have q4 : x3_1 < (a0.size : Int) := of_decide_eq_true (by first | (with_reducible assumption) | assumption)
              have hx4 := bt_at a0 x3_1
              replace p4 := eq_true p4
              replace q4 := eq_true q4
              have p6 : 0 ≤ (x3_1 : Int) := of_decide_eq_true (by first | (with_reducible assumption) | assumption)
              have q6 : x3_1 < (a0.size : Int) := of_decide_eq_true (by first | (with_reducible assumption) | assumption)
              have hx6 := bt_at a0 x3_1
              replace p6 := eq_true p6
              replace q6 := eq_true q6
              go_wp2
              go_ret
              exact ⟨by first | rfl | (simp; done) | (simp [*]; done), by repeat (first | exact Drawn0.refl _ | apply Drawn0.step)⟩
            · rw [if_neg c7] at H
              have c7b0 : ((bt a0 x3_1) == 126) = false := beq_eq_false_iff_ne.mpr c7
              have c7b1 : ((bt a0 x3_1) != 126) = true := bne_iff_ne.mpr c7
              have H' := Aside0.mk H
              clear H
              have p4 : 0 ≤ (x3_1 : Int) := of_decide_eq_true (by first | (with_reducible assumption) | assumption)
              have q4 : x3_1 < (a0.size : Int) := of_decide_eq_true (by first | (with_reducible assumption) | assumption)
              have hx4 := bt_at a0 x3_1
              replace p4 := eq_true p4
              replace q4 := eq_true q4
              have p6 : 0 ≤ (x3_1 : Int) := of_decide_eq_true (by first | (with_reducible assumption) | assumption)
              have q6 : x3_1 < (a0.size : Int) := of_decide_eq_true (by first | (with_reducible assumption) | assumption)
              have hx6 := bt_at a0 x3_1
              replace p6 := eq_true p6
              replace q6 := eq_true q6
              go_wp2
              go_roundg k1
              case measure => have := HK1.out; omega
              case rel => exact ⟨(wrap64 (x3_1 + 1)), (by first | rfl | (simp; done) | (simp [*]; done)), H', ⟨by have := HK1.out; omega⟩, by repeat (first | exact Drawn0.refl _ | apply Drawn0.step)⟩
        · rw [if_neg c3] at H
          exact absurd H (by simp)
      · rw [if_neg c2] at H
        have c2b0 : decide (x3_1 < (a0.size : Int)) = false := decide_eq_false c2
        clear c2
        replace H := Option.bind_eq_some_iff.mp H
        obtain ⟨t204, A80, H⟩ := H
        replace H : (some t204) = some r := H
        have A8 := Aside0.mk A80
        clear A80
        obtain rfl := Option.some.inj H
        go_wp2_with (first | ((with_reducible refine gate_callee (f := 25) rfl ?_); refine goesL_ (some 21) rfl rfl Tryd.func25 (by kernel_rfl) rfl #[.string a0] rfl (by (try simp only [List.map_toArray, List.map_cons, List.map_nil]); first | done | rfl | (simp only [List.length_drop, List.length_take]; rfl)) ?_; (with_reducible refine (lexis_Name.calls a0 t204 _ A8.out).mono ?_); rintro e w' ⟨rfl, ⟨nd, rfl⟩⟩; refine ⟨_, rfl, ?_⟩))
        go_ret
        exact ⟨by first | rfl | (simp; done) | (simp [*]; done), by repeat (first | exact Drawn0.refl _ | apply Drawn0.step)⟩

-- NOT PRINTED: function 23 (forest_nested)

-- NOT PRINTED: function 14 (forest_Check)

-- NOT PRINTED: function 5 (dowellaw14_MatchWithin)

end Go.Proofs.YtmpkkphohilkoaaDoor.F
/- Forests by their places; what ends, roots and own answer of them; the names in a right core grammar. Plain. -/
namespace Go.Proofs.YtmpkkphohilkoaaDoor.B
open Go Go.RowKit Go.X Go.Ma Go.Proofs.YtmpkkphohilkoaaDoorW.PrintWords Go.Proofs.YtmpkkphohilkoaaDoorW.PrintLast Go.Proofs.YtmpkkphohilkoaaDoorW.PrintMore Go.Proofs.YtmpkkphohilkoaaDoor.F Go.Proofs.YtmpkkphohilkoaaDoor.Nm
set_option linter.unusedSimpArgs false

def Own (s : ByteArray) : Prop := nameOK s = true ∧ plainS s = true
theorem Own.ne {s : ByteArray} (h : Own s) : s ≠ ⟨#[]⟩ := by
  rintro rfl
  have := h.1
  simp [nameOK] at this
  exact this.1 rfl
theorem own_l0F (s : ByteArray) (h : Own s) : ∀ (d k i : Nat), s.size - i = d → d < k → i ≤ s.size → forest_own.l0 k s i = some true
  | 0, k, i, hd, hk, hi => by
    obtain ⟨k, rfl⟩ : ∃ m, k = m + 1 := ⟨k - 1, by omega⟩
    rw [forest_own.l0, if_neg (by omega)]
    simp [lexis_Name.f, h.1]
  | d + 1, k, i, hd, hk, hi => by
    obtain ⟨k, rfl⟩ : ∃ m, k = m + 1 := ⟨k - 1, by omega⟩
    have hs := nameOK_le h.1
    have hw : wrap64 ((i : Int) + 1) = ((i + 1 : Nat) : Int) := by rw [IntWalk.wrap64_in _ (by omega)]; rfl
    have hc : (bl s).getD i 0 ≠ 58 ∧ (bl s).getD i 0 ≠ 126 := by
      have h1 := h.2
      unfold plainS at h1
      have h2 := List.all_eq_true.1 h1 ((bl s).getD i 0) (by
        rw [List.getD_eq_getElem?_getD, List.getElem?_eq_getElem (by simp [bl]; show i < s.size; omega)]
        exact List.getElem_mem _)
      simpa using h2
    rw [forest_own.l0, if_pos (by omega), if_pos (by omega), bt_bl s (by omega), if_neg hc.1, if_neg hc.2, hw]
    exact own_l0F s h d k (i + 1) (by omega) (by omega) (by omega)
theorem ownF_f (s : ByteArray) (h : Own s) : forest_own.f 70 s = some true := by
  have := nameOK_le h.1
  exact own_l0F s h s.size 70 0 (by omega) (by omega) (Nat.zero_le _)

/-- The names of a right core grammar's trees. -/
def NodeN (x : CN) : Prop := (x.op = 3 → x.nm ≠ ⟨#[]⟩) ∧ (x.op = 8 → Own x.nm) ∧ 0 ≤ x.op ∧ x.op ≤ 8
theorem names_mk {x : CN} (h : NodeN x) {a b : T} (ha : Names Own a) (hb : Names Own b) : Names Own (mk x a b) := by
  obtain ⟨h3, h8, h0, hl⟩ := h
  unfold mk
  split
  · trivial
  split
  · trivial
  split
  · trivial
  split
  · rename_i h; exact h3 h
  split
  · exact ⟨ha, hb⟩
  split
  · exact ⟨ha, hb⟩
  split
  · exact ha
  split
  · exact ha
  · exact ⟨h8 (by omega), ha⟩
theorem names_hd {st : List T} (h : ∀ t ∈ st, Names Own t) : Names Own (hd st) := by
  cases st with
  | nil => trivial
  | cons t _ => exact h t List.mem_cons_self
theorem names_push {st : List T} {x : CN} (hx : NodeN x) (h : ∀ t ∈ st, Names Own t) : ∀ t ∈ push st x, Names Own t := by
  intro t ht
  have hdrop : ∀ j, ∀ t ∈ st.drop j, Names Own t := fun j t ht => h t (List.mem_of_mem_drop ht)
  unfold push at ht
  split at ht
  · rcases List.mem_cons.1 ht with rfl | ht
    · exact names_mk hx (names_hd (hdrop 1)) (names_hd h)
    · exact hdrop 2 t ht
  · split at ht
    · rcases List.mem_cons.1 ht with rfl | ht
      · exact names_mk hx (names_hd h) trivial
      · exact hdrop 1 t ht
    · rcases List.mem_cons.1 ht with rfl | ht
      · exact names_mk hx trivial trivial
      · exact h t ht
theorem names_tstk {b : List CN} (h : ∀ i, NodeN (cn b i)) : ∀ i, ∀ t ∈ tstk b i, Names Own t
  | 0 => fun _ h => by cases h
  | i + 1 => names_push (h i) (names_tstk h i)
theorem nodeN_zero : NodeN zCN := ⟨fun h => absurd (show (0 : Int) = 3 from h) (by decide), fun h => absurd (show (0 : Int) = 8 from h) (by decide), Int.le_refl _, by decide⟩
theorem goB_nodes {N : Nat} : ∀ {b : List S47} {n : Nat}, goB N b n = true → ∀ x ∈ b, nodeOK N x = true
  | [], _, _, x, hx => by cases hx
  | y :: r, n, h, x, hx => by
    rw [goB, Bool.and_eq_true, Bool.and_eq_true] at h
    rcases List.mem_cons.1 hx with rfl | hx
    · exact h.1.1
    · exact goB_nodes h.2 x hx
theorem nodeN_of {N : Nat} {x : S47} (h : nodeOK N x = true) : (x.f0 = 3 → x.f3 ≠ ⟨#[]⟩) ∧ (x.f0 = 8 → Own x.f3) ∧ 0 ≤ x.f0 ∧ x.f0 ≤ 8 := by
  unfold nodeOK at h
  rw [Bool.and_eq_true] at h
  obtain ⟨h1, h2⟩ := h
  have h1 := of_decide_eq_true h1
  refine ⟨fun e => ?_, fun e => ?_, h1.1, h1.2.1⟩
  · rw [if_pos (.inl e), Bool.and_eq_true] at h2
    exact Own.ne h2
  · rw [if_pos (.inr e), Bool.and_eq_true] at h2
    exact h2
theorem names_tre {rs : List S42} {start : Int} (h : chk rs start = true) : ∀ n, Names Own (tre rs n) := by
  intro n
  unfold tre tr
  refine names_hd (names_tstk (fun i => ?_) _)
  by_cases hn : n < rs.length
  · have h2 : okAt rs n = true := by
      unfold chk at h
      rw [Bool.and_eq_true] at h
      exact List.all_eq_true.1 h.2 n (by simpa using hn)
    unfold okAt at h2
    rw [Bool.and_eq_true, Bool.and_eq_true] at h2
    have h3 := goB_nodes h2.1.2
    by_cases hi : i < (cr rs n).f1.length
    · have h4 := nodeN_of (h3 _ (List.getElem_mem hi))
      have e : cn (bod rs n) i = cnOf (cr rs n).f1[i] := by
        simp [cn, bod, List.getD_eq_getElem?_getD, hi]
      rw [e]
      exact h4
    · have e : cn (bod rs n) i = zCN := by
        simp [cn, bod, List.getD_eq_getElem?_getD, List.getElem?_eq_none (Nat.le_of_not_lt hi)]
      rw [e]; exact nodeN_zero
  · have e : cn (bod rs n) i = zCN := by
      have : (cr rs n).f1 = [] := by
        rw [cr, List.getD_eq_getElem?_getD, List.getElem?_eq_none (Nat.le_of_not_lt hn)]; rfl
      simp [cn, bod, this]
    rw [e]; exact nodeN_zero

/-- t trees at the places i .. j, within [lo, hi]. -/
inductive Sp (xs : List S49) : Nat → Nat → Nat → Int → Int → Prop
  | nil {i : Nat} {lo hi : Int} : lo ≤ hi → Sp xs 0 i i lo hi
  | cons {i m j k t : Nat} {lo hi : Int} {x : S49} : xs[i]? = some x → Own x.f0 → lo ≤ x.f1 → x.f3 = (k : Int) → Sp xs k (i + 1) m x.f1 x.f2 → Sp xs t m j x.f2 hi → Sp xs (t + 1) i j lo hi
theorem Sp.of {F : List Cap} {t : Nat} {lo hi : Int} (h : Fo Own F t lo hi) : ∀ (a b : List S49), Sp (a ++ F.map toS ++ b) t a.length (a.length + F.length) lo hi := by
  induction h with
  | nil h => exact fun a b => .nil h
  | @cons nm fr tz lo hi k t K R h1 h2 h3 h4 ih1 ih2 =>
    intro a b
    have e : a ++ ((⟨nm, fr, tz, (k : Int)⟩ : Cap) :: (K ++ R)).map toS ++ b = (a ++ [toS ⟨nm, fr, tz, (k : Int)⟩]) ++ K.map toS ++ (R.map toS ++ b) := by simp
    have e2 : a ++ ((⟨nm, fr, tz, (k : Int)⟩ : Cap) :: (K ++ R)).map toS ++ b = (a ++ [toS ⟨nm, fr, tz, (k : Int)⟩] ++ K.map toS) ++ R.map toS ++ b := by simp
    have g1 := ih1 (a ++ [toS ⟨nm, fr, tz, (k : Int)⟩]) (R.map toS ++ b)
    have g2 := ih2 (a ++ [toS ⟨nm, fr, tz, (k : Int)⟩] ++ K.map toS) b
    rw [← e] at g1
    rw [← e2] at g2
    refine .cons (x := toS ⟨nm, fr, tz, (k : Int)⟩) (m := a.length + 1 + K.length) (by simp) h1 h2 rfl ?_ ?_
    · have : (a ++ [toS ⟨nm, fr, tz, (k : Int)⟩]).length = a.length + 1 := by simp
      rw [this] at g1
      exact g1
    · have q1 : (a ++ [toS ⟨nm, fr, tz, (k : Int)⟩] ++ K.map toS).length = a.length + 1 + K.length := by simp; omega
      rw [q1] at g2
      have q2 : a.length + 1 + K.length + R.length = a.length + ((⟨nm, fr, tz, (k : Int)⟩ : Cap) :: (K ++ R)).length := by simp; omega
      rw [q2] at g2
      exact g2
theorem Sp.whole {F : List Cap} {t : Nat} {lo hi : Int} (h : Fo Own F t lo hi) : Sp (F.map toS) t 0 (F.map toS).length lo hi := by
  have := Sp.of h [] []
  simpa using this
theorem Sp.le {xs : List S49} {t i j : Nat} {lo hi : Int} (h : Sp xs t i j lo hi) : lo ≤ hi := by
  induction h with
  | nil h => exact h
  | cons _ _ h1 _ _ _ h2 h3 => omega
theorem Sp.ij {xs : List S49} {t i j : Nat} {lo hi : Int} (h : Sp xs t i j lo hi) : i + t ≤ j := by
  induction h with
  | nil h => omega
  | cons _ _ _ _ _ _ h2 h3 => omega
/-- The node at p has its tree up to m. -/
def En (xs : List S49) (p m : Nat) : Prop := ∃ x k, xs[p]? = some x ∧ Own x.f0 ∧ x.f3 = ((k : Nat) : Int) ∧ Sp xs k (p + 1) m x.f1 x.f2
theorem Sp.det {xs : List S49} {t i j : Nat} {lo hi : Int} (h : Sp xs t i j lo hi) : ∀ {j' : Nat} {lo' hi' : Int}, Sp xs t i j' lo' hi' → j' = j := by
  induction h with
  | nil _ => intro j' lo' hi' g; cases g; rfl
  | cons h1 _ _ h2 _ _ ih1 ih2 =>
    intro j' lo' hi' g
    cases g with
    | cons g1 _ _ g2 g3 g4 =>
      rw [h1] at g1
      cases g1
      have hk := h2.symm.trans g2
      have hk := Int.ofNat.inj hk
      subst hk
      have := ih1 g3
      subst this
      exact ih2 g4
theorem En.det {xs : List S49} {p m m' : Nat} (h : En xs p m) (g : En xs p m') : m' = m := by
  obtain ⟨x, k, h1, _, h2, h3⟩ := h
  obtain ⟨y, k', g1, _, g2, g3⟩ := g
  rw [h1] at g1
  cases g1
  have hk := Int.ofNat.inj (h2.symm.trans g2)
  subst hk
  exact h3.det g3
theorem Sp.cover {xs : List S49} {t i j : Nat} {lo hi : Int} (h : Sp xs t i j lo hi) : ∀ p, i ≤ p → p < j → ∃ m, m ≤ j ∧ p < m ∧ En xs p m := by
  induction h with
  | nil _ => intro p h1 h2; omega
  | @cons i m j k t lo hi x h1 h2 h3 h4 h5 h6 ih1 ih2 =>
    intro p hp1 hp2
    have hmj := h6.ij
    have him := h5.ij
    by_cases e : p = i
    · subst e
      exact ⟨m, by omega, by omega, x, k, h1, h2, h4, h5⟩
    · by_cases e2 : p < m
      · obtain ⟨q, q1, q2, q3⟩ := ih1 p (by omega) e2
        exact ⟨q, by omega, q2, q3⟩
      · exact ih2 p (by omega) hp2
/-- The list tells the ends from c on. -/
def Tells (xs : List S49) (L : List Int) (c : Nat) : Prop := L.length = xs.length ∧ ∀ p m, c ≤ p → p < xs.length → En xs p m → L.getD p 0 = (m : Int)
theorem rd_at {L : List Int} {p : Nat} : rd L (p : Int) = L.getD p 0 := by rw [rd, Int.toNat_natCast]
theorem rdT {xs : List S49} {i : Nat} {x : S49} (h : xs[i]? = some x) : rd_T49 xs (i : Int) = x := by
  rw [rd_T49, Int.toNat_natCast, List.getD_eq_getElem?_getD, h]; rfl
theorem ends_l1 {xs : List S49} {L : List Int} {i m : Nat} {x : S49} (hi : xs[i]? = some x) (hL : Tells xs L (i + 1)) (hx : x.f3 ≤ 4000000) :
    ∀ (r q : Nat) (K c : Nat) (lo hi' : Int), Sp xs r q m lo hi' → i < q → x.f3 = ((c + r : Nat) : Int) → forest_ends.l1 (K + 2 * r + 2) xs L i q c = forest_ends.l0 K xs (L.set i m) (wrap64 ((i : Int) - 1)) := by
  have hil := (List.getElem?_eq_some_iff.1 hi).1
  intro r
  induction r with
  | zero =>
    intro q K c lo hi' hs hq hk
    obtain rfl : q = m := by cases hs; rfl
    rw [show K + 2 * 0 + 2 = (K + 1) + 1 by omega, forest_ends.l1, if_pos (by omega), if_pos (by omega), rdT hi, if_neg (by omega), forest_ends.j4, if_neg (by simp), if_pos (by omega), if_pos (by rw [hL.1]; omega), Int.toNat_natCast]
  | succ r ih =>
    intro q K c lo hi' hs hq hk
    cases hs with
    | @cons _ m' _ k' _ _ _ y g1 g2 g3 g4 g5 g6 =>
      have hql := (List.getElem?_eq_some_iff.1 g1).1
      have hen := hL.2 q m' (by omega) hql ⟨y, k', g1, g2, g4, g5⟩
      have hqm := g5.ij
      have hw : wrap64 ((c : Int) + 1) = ((c + 1 : Nat) : Int) := by rw [IntWalk.wrap64_in _ (by omega)]; rfl
      rw [show K + 2 * (r + 1) + 2 = (K + 2 * r + 2 + 1) + 1 by omega, forest_ends.l1, if_pos (by omega), if_pos (by omega), rdT hi, if_pos (by omega), forest_ends.j4, if_pos (by simp), if_neg (by omega), if_pos (by omega), if_pos (by rw [hL.1]; omega), rd_at, hen, hw]
      exact ih m' K (c + 1) _ _ g6 (by omega) (by omega)
theorem ends_l0 {xs : List S49} {t : Nat} {lo hi : Int} (h : Sp xs t 0 xs.length lo hi) (hn : xs.length ≤ 4000000) : ∀ (c : Nat) (L : List Int), c ≤ xs.length → Tells xs L c → ∃ K L', forest_ends.l0 K xs L ((c : Int) - 1) = some L' ∧ Tells xs L' 0
  | 0, L, _, hL => ⟨1, L, by rw [forest_ends.l0, if_neg (by omega)], hL⟩
  | c + 1, L, hc, hL => by
    obtain ⟨m, hm, hcm, x, k, h1, h2, h3, h4⟩ := h.cover c (Nat.zero_le _) (by omega)
    have hk := h4.ij
    have hset : Tells xs (L.set c m) c := by
      refine ⟨by rw [List.length_set]; exact hL.1, fun p q hp hpl he => ?_⟩
      by_cases e : p = c
      · subst e
        have := (show En xs p m from ⟨x, k, h1, h2, h3, h4⟩).det he
        subst this
        simp [List.getD_eq_getElem?_getD, hL.1, hpl]
      · rw [List.getD_eq_getElem?_getD, List.getElem?_set_ne (by omega), ← List.getD_eq_getElem?_getD]
        exact hL.2 p q (by omega) hpl he
    obtain ⟨K, L', hK, hL'⟩ := ends_l0 h hn c (L.set c m) (by omega) hset
    refine ⟨K + 2 * k + 2 + 3, L', ?_, hL'⟩
    have hw1 : wrap64 ((c : Int) + 1) = ((c + 1 : Nat) : Int) := by rw [IntWalk.wrap64_in _ (by omega)]; rfl
    have hw2 : wrap64 ((xs.length : Int) - 1) = (xs.length : Int) - 1 := by rw [IntWalk.wrap64_in _ (by omega)]
    have hw3 : wrap64 ((xs.length : Int) - 1 - c) = (xs.length : Int) - 1 - c := by rw [IntWalk.wrap64_in _ (by omega)]
    have hw4 : wrap64 ((c : Int) - 1) = (c : Int) - 1 := by rw [IntWalk.wrap64_in _ (by omega)]
    have hcc : ((c + 1 : Nat) : Int) - 1 = (c : Int) := by omega
    rw [hcc, show K + 2 * k + 2 + 3 = (K + 2 * k + 2 + 1 + 1) + 1 by omega, forest_ends.l0, if_pos (by omega), if_pos (by omega), if_pos (by omega), rdT h1, if_neg (by omega), hw1, hw2, hw3]
    rw [show decide (x.f3 > (xs.length : Int) - 1 - c) = false from decide_eq_false (by omega), forest_ends.j1, if_neg (by simp), forest_ends.j2]
    have := ends_l1 h1 hL (by omega) k (c + 1) K 0 _ _ h4 (by omega) (by omega)
    rw [show ((0 : Nat) : Int) = 0 from rfl] at this
    rw [this, hw4]
    exact hK
theorem ends_f {xs : List S49} {t : Nat} {lo hi : Int} (h : Sp xs t 0 xs.length lo hi) (hn : xs.length ≤ 4000000) : ∃ K L, forest_ends.f K xs = some L ∧ Tells xs L 0 := by
  obtain ⟨K, L, h1, h2⟩ := ends_l0 h hn xs.length (List.replicate xs.length 0) (Nat.le_refl _) ⟨by simp, fun p m h1 h2 => by omega⟩
  refine ⟨K, L, ?_, h2⟩
  unfold forest_ends.f
  rw [if_pos (by omega), Int.toNat_natCast, if_pos (by omega), IntWalk.wrap64_in _ (by omega)]
  exact h1
theorem roots_l0 {xs : List S49} {L : List Int} (hL : Tells xs L 0) (hn : xs.length ≤ 4000000) : ∀ (t q : Nat) (A : List Int) (lo hi : Int), Sp xs t q xs.length lo hi → A.length + t ≤ xs.length → ∃ r, forest_roots.l0 (t + 1) L A q = some (r, true)
  | 0, q, A, lo, hi, h, _ => by
    cases h
    exact ⟨A, by rw [forest_roots.l0, if_neg (by rw [hL.1]; omega)]⟩
  | t + 1, q, A, lo, hi, h, hA => by
    cases h with
    | @cons _ m _ k _ _ _ x g1 g2 g3 g4 g5 g6 =>
      have hql := (List.getElem?_eq_some_iff.1 g1).1
      have hen := hL.2 q m (Nat.zero_le _) hql ⟨x, k, g1, g2, g4, g5⟩
      obtain ⟨r, hr⟩ := roots_l0 hL hn t m (A ++ [(q : Int)]) _ _ g6 (by simp; omega)
      refine ⟨r, ?_⟩
      rw [forest_roots.l0, if_pos (by rw [hL.1]; omega), if_pos (by omega), rd_at, hen, if_neg (by omega), if_pos (by omega)]
      exact hr
theorem roots_f {xs : List S49} {L : List Int} {t : Nat} {lo hi : Int} (hL : Tells xs L 0) (hn : xs.length ≤ 4000000) (h : Sp xs t 0 xs.length lo hi) : ∃ K r, forest_roots.f K L = some (r, true) := by
  obtain ⟨r, hr⟩ := roots_l0 hL hn t 0 [] lo hi h (by have := h.ij; simp; omega)
  exact ⟨t + 1, r, hr⟩
/-- The spans that are open at place i: each has its end, where its next kid may begin, how far it may go. -/
def Open (xs : List S49) (i : Nat) : List (Nat × Int × Int) → Prop
  | [] => False
  | (e, hi, lo) :: r => (∃ t, Sp xs t i e lo hi) ∧ (r = [] ∧ e = xs.length ∨ Open xs e r)
theorem Open.pop {xs : List S49} {i : Nat} {hi lo : Int} {r : List (Nat × Int × Int)} (h : Open xs i ((i, hi, lo) :: r)) (hi' : i < xs.length) : Open xs i r := by
  rcases h.2 with ⟨_, h2⟩ | h2
  · omega
  · exact h2
theorem Open.ge {xs : List S49} {i e : Nat} {hi lo : Int} {r : List (Nat × Int × Int)} (h : Open xs i ((e, hi, lo) :: r)) : i ≤ e := by
  obtain ⟨t, h1⟩ := h.1
  have := h1.ij
  omega
/-- A node within the innermost one that is open. -/
theorem Open.node {xs : List S49} {i e : Nat} {hi lo : Int} {r : List (Nat × Int × Int)} (h : Open xs i ((e, hi, lo) :: r)) (hlt : i < e) :
    ∃ x m k, xs[i]? = some x ∧ En xs i m ∧ Own x.f0 ∧ lo ≤ x.f1 ∧ x.f1 ≤ x.f2 ∧ x.f2 ≤ hi ∧ x.f3 = ((k : Nat) : Int) ∧ Open xs (i + 1) ((m, x.f2, x.f1) :: (e, hi, x.f2) :: r) := by
  obtain ⟨⟨t, h1⟩, h2⟩ := h
  cases h1 with
  | nil => omega
  | @cons _ m _ k t _ _ x g1 g2 g3 g4 g5 g6 =>
    exact ⟨x, m, k, g1, ⟨x, k, g1, g2, g4, g5⟩, g2, g3, g5.le, g6.le, g4, ⟨k, g5⟩, .inr ⟨⟨t, g6⟩, h2⟩⟩
theorem Open.first {xs : List S49} {t : Nat} {lo hi : Int} (h : Sp xs t 0 xs.length lo hi) : Open xs 0 [(xs.length, hi, lo)] := ⟨⟨t, h⟩, .inl ⟨rfl, rfl⟩⟩
end Go.Proofs.YtmpkkphohilkoaaDoor.B
/- What MatchWithin asks, plain; its region 12. -/
namespace Go.Ma
theorem Fo.mem {own : ByteArray → Prop} {F : List Cap} {t : Nat} {lo hi : Int} (h : Fo own F t lo hi) : ∀ c ∈ F, lo ≤ c.fr ∧ c.fr ≤ c.to ∧ c.to ≤ hi := by
  induction h with
  | nil _ => exact fun _ h => by cases h
  | @cons nm fr tz lo hi k t K R h1 h2 h3 h4 ih1 ih2 =>
    intro c hc
    have a3 := h3.le
    have a4 := h4.le
    rcases List.mem_cons.1 hc with rfl | hc
    · exact ⟨h2, a3, a4⟩
    · rcases List.mem_append.1 hc with hc | hc
      · have := ih1 c hc; omega
      · have := ih2 c hc; omega
end Go.Ma
namespace Go.Proofs.YtmpkkphohilkoaaDoor.B
open Go Go.RowKit Go.X Go.Ma Go.Proofs.YtmpkkphohilkoaaDoorW.PrintWords Go.Proofs.YtmpkkphohilkoaaDoor.F
/-- What holds of an outcome at place 0 of an input of n bytes. -/
structure OutN (n : Nat) (r : Res) : Prop where
  out : Out Own 0 r
  en : r.en ≤ n
structure WLaw (X Z : Res × St) (n k : Nat) : Prop where
  st : ansSt Z = ansSt X
  res : (ansSt X).err = 0 → ansRes Z = shR k (ansRes X)
  out : (ansSt X).err = 0 → OutN n (ansRes X)
theorem later (rs : List S42) (inp ahead : ByteArray) : Later ahead.size (envOf rs inp) (envOf rs (ahead ++ inp)) where
  rules := rfl
  len := by simp [envOf, Nat.add_comm]
  has := fun c p h => by
    simp only [envOf] at h ⊢
    have h1 : p + ahead.size < (ahead ++ inp).size := by simp; omega
    rw [dif_pos h, dif_pos h1]
    have e : (ahead ++ inp)[p + ahead.size]'h1 = inp[p]'h := by
      rw [ByteArray.getElem_append_right (Nat.le_add_left _ _)]
      congr 1
      omega
    rw [e]
theorem wLaw (rs : List S42) (start rule : Int) (inp ahead : ByteArray) (h1 : inp.size ≤ 4096) (h2 : ahead.size ≤ 4096) : WLaw (atAns rs start rule inp 0 3000 50000) (atAns rs start rule (ahead ++ inp) ahead.size 3000 50000) inp.size ahead.size := by
  have hs : (ahead ++ inp).size = ahead.size + inp.size := by simp
  by_cases hc : chk rs start = true
  · by_cases hr : 0 ≤ rule ∧ rule < rs.length
    · have e1 : atAns rs start rule inp 0 3000 50000 = runOf rs inp rule.toNat 0 3000 50000 := by
        rw [atAns, if_pos hc, if_pos hr, if_pos (by omega), if_pos (by omega)]; rfl
      have e2 : atAns rs start rule (ahead ++ inp) ahead.size 3000 50000 = runOf rs (ahead ++ inp) rule.toNat ahead.size 3000 50000 := by
        rw [atAns, if_pos hc, if_pos hr, if_pos (by omega), if_pos (by omega)]; rfl
      have hsh := ev_shift (later rs inp ahead) (clamp 3000 50000) (2 * (clamp 3000 50000).steps + 1) (tre rs rule.toNat) 0 1 st0
      rw [Nat.zero_add] at hsh
      have e3 : runOf rs (ahead ++ inp) rule.toNat ahead.size 3000 50000 = (shR ahead.size (runOf rs inp rule.toNat 0 3000 50000).1, (runOf rs inp rule.toNat 0 3000 50000).2) := hsh
      rw [e1, e2, e3]
      have hok := ev_ok (envOf rs inp) (clamp 3000 50000) (2 * (clamp 3000 50000).steps + 1) (tre rs rule.toNat) 0 1 st0 (by simp [st0])
      have hout := ev_out (own := Own) (envOf rs inp) (clamp 3000 50000) (names_tre hc) (2 * (clamp 3000 50000).steps + 1) (tre rs rule.toNat) 0 1 st0 (names_tre hc _)
      refine ⟨by rfl, fun h0 => ?_, fun h0 => ?_⟩
      · rw [ansSt_err] at h0
        rw [ansRes, ansRes, if_pos h0, if_pos h0]
      · rw [ansSt_err] at h0
        rw [ansRes, if_pos h0]
        exact ⟨hout, hok.en (Nat.zero_le _)⟩
    · have e1 : atAns rs start rule inp 0 3000 50000 = (.zero, ⟨0, 0, 5⟩) := by rw [atAns, if_pos hc, if_neg hr]
      have e2 : atAns rs start rule (ahead ++ inp) ahead.size 3000 50000 = (.zero, ⟨0, 0, 5⟩) := by rw [atAns, if_pos hc, if_neg hr]
      rw [e1, e2]
      exact ⟨rfl, fun h => absurd h (by decide), fun h => absurd h (by decide)⟩
  · have e1 : atAns rs start rule inp 0 3000 50000 = (.zero, ⟨0, 0, 6⟩) := by rw [atAns, if_neg hc]
    have e2 : atAns rs start rule (ahead ++ inp) ahead.size 3000 50000 = (.zero, ⟨0, 0, 6⟩) := by rw [atAns, if_neg hc]
    rw [e1, e2]
    exact ⟨rfl, fun h => absurd h (by decide), fun h => absurd h (by decide)⟩
end Go.Proofs.YtmpkkphohilkoaaDoor.B
/- Regions that run match.Run: what the steps share. -/
namespace Go.Proofs.YtmpkkphohilkoaaDoor.B
open Go Go.RowKit Go.X Go.Ma Go.Proofs.YtmpkkphohilkoaaDoorW.PrintWords Go.Proofs.YtmpkkphohilkoaaDoor.F
/-- An answer of this shape. -/
theorem RunAns.any {x : Res × St} {w w' : World} {e : Ending} (h : RunAns w x e w') :
    ∃ A c, e = .returned (.tuple #[.agg #[.int .i64 (ansRes x).kind, .int .i64 ((ansRes x).en : Nat), .string (ansRes x).label, .slice A (ansRes x).forest.length c], .agg #[.int .i64 ((ansSt x).depth : Nat), .int .i64 ((ansSt x).steps : Nat)], .int .i64 (ansSt x).err]) ∧ Below w.heap.size w w' ∧ OwnF w' w.heap.size (.slice A (ansRes x).forest.length c) (ansRes x).forest := by
  obtain ⟨v, he, hb, ho⟩ := h
  obtain ⟨a, c, rfl⟩ := Go.X.own_slice ho
  exact ⟨a, c, he, hb, ho⟩
theorem lendRun.calls (Ar : Option Addr) (c : Nat) (start : Int) (rs : List S42) (w : World) (hr : Kd.C k42 w Ar rs.length rs) (mr : rs.length ≤ 1048576) (mb : ∀ x ∈ rs, x.f1.length ≤ 1048576) :
    Calls Tryd.prog 9 #[.agg #[.slice Ar rs.length c, .int .i64 start]] w fun e w' => ∃ br, e = .returned (.agg #[.slice (some ⟨br, 0, none⟩) rs.length (rs.length + 1), .int .i64 start]) ∧ Kd.C k42 w' (some ⟨br, 0, none⟩) rs.length rs ∧ Below w.heap.size w w' :=
  (LendCore.calls Ar c start rs w hr mr mb).mono fun _ _ ⟨br, _, h1, h2, _, h3⟩ => ⟨br, h1, h2.C mr mb, h3⟩
theorem zero31 : (Tryd.prog.info? 31).map (·.zero) = some (some (.agg #[.int .i64 0, .int .i64 0, .string ⟨#[]⟩, .slice none 0 0])) := by kernel_rfl
theorem zero32 : (Tryd.prog.info? 32).map (·.zero) = some (some (.agg #[.int .i64 0, .int .i64 0])) := by kernel_rfl
theorem concat9 {a b : ByteArray} (w : World) (h : a.size + b.size ≤ 8388608) : (binOp .add 9 (.string a) (.string b)).run Tryd.prog w = .ok (.string (a ++ b)) w := by
  have e : (binOp .add 9 (.string a) (.string b)).run Tryd.prog w = (Op.stringOp .add a b).run Tryd.prog w := by kernel_rfl
  rw [e, run_string_add_sum w a b (by omega)]
/-- The answer's parts, as cells. -/
abbrev oC (X : Res × St) (v : Value) : List Value := [.int .i64 (ansRes X).kind, .int .i64 ((ansRes X).en : Nat), .string (ansRes X).label, v]
abbrev uC (X : Res × St) : List Value := [.int .i64 ((ansSt X).depth : Nat), .int .i64 ((ansSt X).steps : Nat)]
abbrev ansV (X : Res × St) (A : Option Addr) (c : Nat) : Value := .tuple #[.agg (oC X (.slice A (ansRes X).forest.length c)).toArray, .agg (uC X).toArray, .int .i64 (ansSt X).err]
end Go.Proofs.YtmpkkphohilkoaaDoor.B
