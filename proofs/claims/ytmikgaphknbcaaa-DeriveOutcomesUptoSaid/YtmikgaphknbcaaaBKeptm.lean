/- dowelbook.KeptGrammar of a grammar as it was lent: true; nothing old is written. -/
import Derived.Test.YtmikgaphknbcaaaBEqm
namespace Go.Proofs.Ytmikgaphknbcaaa.B
open Go Go.RowKit Go.X Go.Proofs.YtmikgaphknbcaaaW.PrintWords Go.Proofs.Ytmikgaphknbcaaa.F

theorem rowsTo_get (rs : List S34) (P Q : Nat → Nat) (n i j : Nat) (h : i < n) (hj : j < 3) (r : List Value) : (rowsTo rs P Q n ++ r)[i * 3 + j]? = (ruleAt (rl rs i) (P i) (Q i))[j]? := by
  rw [List.getElem?_append_left (by rw [rowsTo_length]; omega)]
  induction n with
  | zero => omega
  | succ n ih =>
    rw [rowsTo]
    by_cases hi : i < n
    · rw [List.getElem?_append_left (by rw [rowsTo_length]; omega)]
      exact ih hi
    · obtain rfl : i = n := by omega
      rw [List.getElem?_append_right (by rw [rowsTo_length]; omega), rowsTo_length, Nat.add_sub_cancel_left]
/-- A lent grammar is read as what it was made of. -/
theorem GramAt.uses {w : World} {base bu br : Nat} {us : List S69} {rs : List S34} {P Q : Nat → Nat} (h : GramAt w base bu br us rs P Q) (hm : us.length ≤ 9223372036854775807) : Kd.C k69 w (some ⟨bu, 0, none⟩) us.length us := Lent.C h.1 hm
theorem Reps_rows {w : World} {base : Nat} {rs : List S34} {P Q : Nat → Nat} {N : Nat} (h : RulesIn w base rs P Q N) (hb : ∀ i, i < N → (rl rs i).f1.length ≤ 1048576 ∧ (rl rs i).f2.length ≤ 1048576) : ∀ n, n ≤ N → n ≤ rs.length → Reps (k34.K w) k34.sz (rs.take n) (rowsTo rs P Q n)
  | 0, _, _ => Reps.none _ _
  | n + 1, hn, hl => by
    rw [List.take_succ_eq_append_getElem (by omega), rowsTo]
    obtain ⟨_, _, a3, a4, _⟩ := h n (by omega)
    have hbn := hb n (by omega)
    have e : rs[n]'(by omega) = rl rs n := by rw [rl, List.getD_eq_getElem?_getD, List.getElem?_eq_getElem (by omega)]; rfl
    rw [e]
    exact (Reps_rows h hb n (by omega) (by omega)).snoc (k34_mk w (rl rs n) (by omega) (Lent.C a3 (by omega)) (by omega) (Lent.C a4 (by omega))) rfl
theorem GramAt.rules {w : World} {base bu br : Nat} {us : List S69} {rs : List S34} {P Q : Nat → Nat} (h : GramAt w base bu br us rs P Q) (hok : GramOK us rs) : Kd.C k34 w (some ⟨br, 0, none⟩) rs.length rs := by
  have := Reps_rows h.2.2 (fun i hi => hok.2.2 _ (rl_mem hi)) rs.length (Nat.le_refl _) (Nat.le_refl _)
  rw [List.take_length] at this
  exact C_of_blk h.2.1 this (by have := hok.2.1; omega)
attribute [local go_sem high] eqA69
set_option maxRecDepth 100000 in
set_option maxHeartbeats 4000000 in
theorem KeptGrammar.calls (bu br base : Nat) (P Q : Nat → Nat) (Bu Br : Option Addr) (du dr : Nat) (us : List S69) (rs : List S34) (w : World) (hg : GramAt w base bu br us rs P Q) (hu : Kd.C k69 w Bu us.length us) (hr : Kd.C k34 w Br rs.length rs) (hok : GramOK us rs) :
    Calls Try.prog 19 #[.agg #[.slice (some ⟨bu, 0, none⟩) us.length (us.length + 1), .slice (some ⟨br, 0, none⟩) rs.length (rs.length + 1)], .agg #[.slice Bu us.length du, .slice Br rs.length dr]] w fun e w' => e = .returned (.bool true) ∧ Below w.heap.size w w' := by
  have HG := Lib.hid hg; clear hg
  have HU := Lib.hid hu; clear hu
  have HR := Lib.hid hr; clear hr
  have HOK := Lib.hid hok; clear hok
  go_enter Try.func19, Try.ntmps19
  go_wp2
  have HB : Hid (GHead w ((w.alloc (.cells #[.slice (some ⟨bu, 0, none⟩) us.length (us.length + 1), .slice (some ⟨br, 0, none⟩) rs.length (rs.length + 1)] 26)).alloc (.cells #[.slice Bu us.length du, .slice Br rs.length dr] 26)) (some ⟨bu, 0, none⟩) (some ⟨br, 0, none⟩) Bu Br (us.length + 1) (rs.length + 1) du dr us.length rs.length) :=
    ⟨((Below.refl _ w).alloc (Nat.le_refl _) _).alloc (by simp) _, (Blk.alloc w _ _).grown (World.grownBy_alloc _ _ none) (by simp), by have := Blk.alloc (w.alloc (.cells #[.slice (some ⟨bu, 0, none⟩) us.length (us.length + 1), .slice (some ⟨br, 0, none⟩) rs.length (rs.length + 1)] 26)) #[.slice Bu us.length du, .slice Br rs.length dr] 26; simpa using this⟩
  generalize (w.alloc (.cells #[.slice (some ⟨bu, 0, none⟩) us.length (us.length + 1), .slice (some ⟨br, 0, none⟩) rs.length (rs.length + 1)] 26)).alloc (.cells #[.slice Bu us.length du, .slice Br rs.length dr] 26) = wa at *
  have a0 : wa.cell? ⟨w.heap.size, 0, none⟩ = some (.slice (some ⟨bu, 0, none⟩) us.length (us.length + 1)) := HB.out.2.1.cell 0
  have a1 : wa.cell? ⟨w.heap.size, 1, none⟩ = some (.slice (some ⟨br, 0, none⟩) rs.length (rs.length + 1)) := HB.out.2.1.cell 1
  have b0 : wa.cell? ⟨w.heap.size + 1, 0, none⟩ = some (.slice Bu us.length du) := HB.out.2.2.cell 0
  have b1 : wa.cell? ⟨w.heap.size + 1, 1, none⟩ = some (.slice Br rs.length dr) := HB.out.2.2.cell 1
  have HG' : Hid (GramAt wa base bu br us rs P Q) := HG.out.below HB.out.1
  have h0 : wa.cell? ⟨bu, us.length * 2, none⟩ = some (.string holder) := Lent.hold HG'.out.1 0 rfl
  have h1 : wa.cell? ⟨br, rs.length * 3, none⟩ = some (.string holder) := by
    rw [HG'.out.2.1.cell, List.getElem?_append_right (by rw [rowsTo_length]; omega), rowsTo_length, Nat.sub_self]; rfl
  have HBD : Hid (Below wa.heap.size wa wa.drew) := (Below.refl _ _).drew
  have s1 : IntKind.i64.wrap ((us.length : Int) + 1) = (us.length : Int) + 1 := IntWalk.i64_in _ (by have := HOK.out.1; omega)
  have s2 : IntKind.i64.wrap ((rs.length : Int) + 1) = (rs.length : Int) + 1 := IntWalk.i64_in _ (by have := HOK.out.2.1; omega)
  have p1 : (0 : Int) ≤ (us.length : Int) + 1 := by omega
  have p2 : (0 : Int) ≤ (rs.length : Int) + 1 := by omega
  have p3 : (us.length : Int) < (us.length : Int) + 1 := by omega
  have p4 : (rs.length : Int) < (rs.length : Int) + 1 := by omega
  have t1 : ((us.length : Int) + 1).toNat = us.length + 1 := by omega
  have t2 : ((rs.length : Int) + 1).toNat = rs.length + 1 := by omega
  have hq : (holder.toList == [45, 104, 111, 108, 100, 101, 114, 45]) = true := by decide +kernel
  go_region_held3 (fun w' => w'.cell? ⟨w.heap.size, 0, none⟩ = some (.slice (some ⟨bu, 0, none⟩) us.length (us.length + 1)) ∧ w'.cell? ⟨w.heap.size, 1, none⟩ = some (.slice (some ⟨br, 0, none⟩) rs.length (rs.length + 1)) ∧ w'.cell? ⟨w.heap.size + 1, 0, none⟩ = some (.slice Bu us.length du) ∧ w'.cell? ⟨w.heap.size + 1, 1, none⟩ = some (.slice Br rs.length dr) ∧ w'.cell? ⟨bu, us.length * 2, none⟩ = some (.string holder) ∧ w'.cell? ⟨br, rs.length * 3, none⟩ = some (.string holder))
    (first
      | exact ⟨Below.cell_some hbk.out a0, Below.cell_some hbk.out a1, Below.cell_some hbk.out b0, Below.cell_some hbk.out b1, Below.cell_some hbk.out h0, Below.cell_some hbk.out h1⟩
      | go_keep)
    (first
      | (go_at_call 41; refine (Grammars.calls _ _ _ _ _ _ _ _ us rs _ (Kd.C_below (HG'.out.uses (by have := HOK.out.1; omega)) HBD.out) (Kd.C_below (HG'.out.rules HOK.out) HBD.out) (Kd.C_below HU.out (HB.out.1.trans (HBD.out.mono HB.out.1.size))) (Kd.C_below HR.out (HB.out.1.trans (HBD.out.mono HB.out.1.size))) HOK.out).mono ?_; rintro e w5 ⟨rfl, hbl⟩
         have hbk : Hid (Below wa.heap.size wa w5) := HBD.out.trans hbl
         clear hbl))
  have HB5 : Hid (GHead w w5 (some ⟨bu, 0, none⟩) (some ⟨br, 0, none⟩) Bu Br (us.length + 1) (rs.length + 1) du dr us.length rs.length) := HB.out.below hbk.out
  have HG5 : Hid (GramAt w5 base bu br us rs P Q) := HG'.out.below hbk.out
  clear s1 s2 p1 p2 p3 p4 t1 t2 a0 a1 b0 b1 h0 h1 HB HG' HBD hbk
  go_wp2
  go_loopg [5] rs.length (fun q v wr => ∃ k : Nat, q + k = rs.length ∧ v = .int .i64 k ∧ Hid (GHead w wr (some ⟨bu, 0, none⟩) (some ⟨br, 0, none⟩) Bu Br (us.length + 1) (rs.length + 1) du dr us.length rs.length ∧ GramAt wr base bu br us rs P Q))
  case atStart => exact ⟨0, by simp, rfl, HB5.out, HG5.out⟩
  case round =>
    clear HB5 HG5
    rename World => wo
    obtain ⟨k, hk, rfl, HW⟩ := hrel
    have b1 : wo.cell? ⟨w.heap.size + 1, 1, none⟩ = some (.slice Br rs.length dr) := HW.out.1.2.2.cell 1
    by_cases hlt : k < rs.length
    · have a1 : wo.cell? ⟨w.heap.size, 1, none⟩ = some (.slice (some ⟨br, 0, none⟩) rs.length (rs.length + 1)) := HW.out.1.2.1.cell 1
      obtain ⟨ad, A1, c1, A2, c2, eA, e0, e1, e2, l1, g1, l2, g2⟩ := rule_at (Kd.C_below HR.out HW.out.1.1) k hlt
      subst eA
      clear l1 l2 g1 g2 e0
      obtain ⟨_, _, u3, u4, _⟩ := HW.out.2.2.2 k hlt
      have m1 : wo.cell? ⟨br, k * 3 + 1, none⟩ = some (.slice (some ⟨P k, 0, none⟩) (rl rs k).f1.length ((rl rs k).f1.length + 1)) := by
        rw [HW.out.2.2.1.cell, rowsTo_get rs P Q _ k 1 hlt (by omega)]; rfl
      have m2 : wo.cell? ⟨br, k * 3 + 2, none⟩ = some (.slice (some ⟨Q k, 0, none⟩) (rl rs k).f2.length ((rl rs k).f2.length + 1)) := by
        rw [HW.out.2.2.1.cell, rowsTo_get rs P Q _ k 2 hlt (by omega)]; rfl
      have m3 : wo.cell? ⟨P k, (rl rs k).f1.length, none⟩ = some (.string holder) := by
        have := Lent.hold u3 0 (v := .string holder) rfl
        have e1 : Kd.string.sz = 1 := rfl
        simpa [e1] using this
      have m4 : wo.cell? ⟨Q k, (rl rs k).f2.length * 10, none⟩ = some (.int .i64 (-77)) := Lent.hold u4 0 rfl
      have HX := Lib.hid (HOK.out.2.2 _ (rl_mem hlt))
      generalize rl rs k = x at *
      have k0 : (0 : Int) ≤ (k : Int) := Int.natCast_nonneg _
      have k1 : (k : Int) < (rs.length : Int) := by omega
      have q1 : IntKind.i64.wrap ((x.f1.length : Int) + 1) = (x.f1.length : Int) + 1 := IntWalk.i64_in _ (by have := HX.out.1; omega)
      have q2 : IntKind.i64.wrap ((x.f2.length : Int) + 1) = (x.f2.length : Int) + 1 := IntWalk.i64_in _ (by have := HX.out.2; omega)
      have p1 : (0 : Int) ≤ (x.f1.length : Int) + 1 := by omega
      have p2 : (0 : Int) ≤ (x.f2.length : Int) + 1 := by omega
      have t1 : ((x.f1.length : Int) + 1).toNat = x.f1.length + 1 := by omega
      have t2 : ((x.f2.length : Int) + 1).toNat = x.f2.length + 1 := by omega
      go_wp2
      go_quiet (fail)
      go_wp2
      go_quiet (fail)
      clear q1 q2 p1 p2 t1 t2
      have r1 : wrap64 (x.f1.length : Int) = (x.f1.length : Int) := IntWalk.wrap64_in _ (by have := HX.out.1; omega)
      have r2 : wrap64 (x.f2.length : Int) = (x.f2.length : Int) := IntWalk.wrap64_in _ (by have := HX.out.2; omega)
      go_wp2
      go_roundg (rs.length - (k + 1))
      case measure => omega
      case rel => exact ⟨k + 1, by clear r1 r2; omega, by rw [IntWalk.wrap64_in _ (by clear r1 r2; have := HOK.out.2.1; omega)]; rfl, HW.out.1.quiet ⟨_, rfl⟩, HW.out.2.below (Below.drewQ ⟨_, rfl⟩)⟩
    · go_wp2
      go_ret
      exact ⟨rfl, HW.out.1.1⟩
end Go.Proofs.Ytmikgaphknbcaaa.B
