/- script.begins: of each node where its extent begins. -/
import Derived.Test.YtmikgaphknbcaaaSBase
import Derived.Test.YtmikgaphknbcaaaBNodes
import Derived.WalkKit
import Derived.Lib.Hide
import Derived.Deep.LoopGhost
namespace Go.Proofs.Ytmikgaphknbcaaa.B
open Go Go.RowKit Go.X Go.Proofs.YtmikgaphknbcaaaW.PrintWords Go.Proofs.Ytmikgaphknbcaaa.F

def OwnInts (w w' : World) (l : List Int) (e : Ending) : Prop :=
  ∃ g, e = .returned (.slice (some ⟨g, 0, none⟩) l.length l.length) ∧ Blk w' g 3 (nums .i64 l) ∧ w.heap.size ≤ g ∧ Below w.heap.size w w'

theorem made_ints (n : Nat) : (madeCells (Value.int IntKind.i64 0).cells (n * 1)).toList = nums .i64 (List.replicate n 0) := by
  simp only [nums, List.map_replicate, Value.cells, Nat.mul_one]
  apply List.ext_getElem?
  intro j
  simp [madeCells, List.getElem?_replicate]
  split <;> simp_all [Nat.mod_one]
theorem made_part {w : World} {b : Nat} {xs : List S47} (h : Blk w b 3 (madeCells (Value.int IntKind.i64 0).cells (xs.length * 1)).toList) : Blk w b 3 (nums .i64 (part xs xs.length 0)) := by
  rw [made_ints] at h
  simpa [part, begsTo] using h
set_option maxRecDepth 100000 in
set_option maxHeartbeats 4000000 in
theorem begins.calls (A : Option Addr) (c : Nat) (xs : List S47) (w : World) (hr : Kd.C k47 w A xs.length xs) (hn : xs.length ≤ 4000000) :
    Calls Try.prog 43 #[.slice A xs.length c] w fun e w' => OwnInts w w' (begs xs) e := by
  have HR := Lib.hid hr; clear hr
  go_enter Try.func43, Try.ntmps43
  go_wp2_with (first
    | (at_make; refine X.make rfl _ _ 36 rfl 3 (.int .i64 0) 1 8 Try.underlying36 info3 .i64 .i64 _ _ xs.length rfl rfl rfl rfl (by omega) (by simp only [maxLen]; omega) ?_; intro w1 hb1 hg1; have HB1 := Lib.hid hb1; clear hb1; have HG1 := Lib.hid hg1; clear hg1)
    | fail)
  have HI : Hid (Blk w1 w.heap.size 3 (nums .i64 (part xs xs.length 0)) ∧ Below w.heap.size w w1) := ⟨made_part HB1.out, (Below.refl _ _).grown HG1.out (Nat.le_refl _) (by simp)⟩
  clear HB1 HG1
  go_loopg [13] xs.length (fun q v wr => ∃ i : Nat, q + i = xs.length ∧ v = .int .i64 i ∧ Hid (Blk wr w.heap.size 3 (nums .i64 (part xs xs.length i)) ∧ Below w.heap.size w wr))
  case atStart => exact ⟨0, by simp, rfl, HI⟩
  case round =>
    clear HI
    rename World => wo
    obtain ⟨i, hi, rfl, HI⟩ := hrel
    by_cases hlt : i < xs.length
    · obtain ⟨ad, eA, c0, c1, c2, c3, c4, c5, c6, c7, c8, c9⟩ := node_at (Kd.C_below HR.out HI.out.2) i hlt
      subst eA
      have HW : Hid (Blk (wo.alloc (.cells (nodeCells (nd xs i)).toArray 47)) w.heap.size 3 (nums .i64 (part xs xs.length i)) ∧ Below w.heap.size w (wo.alloc (.cells (nodeCells (nd xs i)).toArray 47)) ∧ Blk (wo.alloc (.cells (nodeCells (nd xs i)).toArray 47)) wo.heap.size 47 (nodeCells (nd xs i))) :=
        ⟨HI.out.1.grown (World.grownBy_alloc _ _ none) (by simp), HI.out.2.alloc HI.out.2.size _, Blk.alloc _ _ _⟩
      have HNE : Hid (w.heap.size ≠ wo.heap.size) := by have := HI.out.1.lt; show _ ≠ _; omega
      clear HI
      have hL := begsTo_length xs i
      have hR := begsTo_inR xs i
      obtain ⟨a0, HA, hcase⟩ : ∃ a0, Hid (AtI (begsTo xs i) i (nd xs i).f1 a0 0) ∧ Hid (a0 = -1 ∧ (nd xs i).f1 < 0 ∨ a0 = -1 ∧ ¬ (nd xs i).f1 < 0 ∧ (i : Int) < (nd xs i).f1 ∨ a0 = i ∧ ¬ (nd xs i).f1 < 0 ∧ ¬ (i : Int) < (nd xs i).f1) := by
        by_cases hN : (nd xs i).f1 < 0
        · exact ⟨-1, AtI.begin_neg hR hL (.inl hN), .inl ⟨rfl, hN⟩⟩
        · by_cases hN2 : (i : Int) < (nd xs i).f1
          · exact ⟨-1, AtI.begin_neg hR hL (.inr hN2), .inr (.inl ⟨rfl, hN, hN2⟩)⟩
          · exact ⟨i, AtI.begin_pos (by omega) (by omega), .inr (.inr ⟨rfl, hN, hN2⟩)⟩
      have HL := Lib.hid hL; clear hL
      have HRR := Lib.hid hR; clear hR
      rcases hcase.out with ⟨rfl, hN⟩ | ⟨rfl, hN, hN2⟩ | ⟨rfl, hN, hN2⟩
      all_goals
        clear hcase
        go_wp2
        go_loopg [6, 7] (nd xs i).f1.toNat (fun q v6 v7 wr' => ∃ a k : Int, v6 = .int .i64 a ∧ v7 = .int .i64 k ∧ 0 ≤ k ∧ q = ((nd xs i).f1 - k).toNat ∧ Hid (AtI (begsTo xs i) i (nd xs i).f1 a k) ∧ Hid (Blk wr' w.heap.size 3 (nums .i64 (part xs xs.length i)) ∧ Below w.heap.size w wr' ∧ Blk wr' wo.heap.size 47 (nodeCells (nd xs i))))
        case atStart => exact ⟨_, 0, rfl, rfl, by omega, by simp, HA, HW⟩
        clear HA HW
        try clear hN2
        clear hN
        case round =>
          obtain ⟨a, k, rfl, rfl, hk0, rfl, HA, HW⟩ := hrel
          have b1 : wr.cell? ⟨wo.heap.size, 1, none⟩ = some (.int .i64 (nd xs i).f1) := HW.out.2.2.cell 1
          by_cases hgo : k < (nd xs i).f1 ∧ 0 < a
          · obtain ⟨hk, ha⟩ := hgo
            obtain ⟨m, rfl⟩ : ∃ m : Nat, a = m + 1 := ⟨(a - 1).toNat, by omega⟩
            have hmi : m < i ∧ (nd xs i).f1 ≤ i := by
              rcases HA.out with ⟨_, h1, h2, h3, h4, _⟩ | ⟨h1, _⟩ <;> omega
            obtain ⟨hmi, hNi⟩ := hmi
            obtain ⟨v, hv⟩ : ∃ v, (begsTo xs i).getD m 0 = v := ⟨_, rfl⟩
            have hst := HA.out.step HRR.out HL.out ha hk (v := v) (by rw [show ((m : Int) + 1 - 1).toNat = m by omega]; exact hv)
            have hcl : wr.cell? ⟨w.heap.size, m, none⟩ = some (.int .i64 v) := by
              have hlen := HL.out
              rw [HW.out.1.cell, nums, List.getElem?_map, part_get _ _ _ _ hmi, ← hv, List.getD_eq_getElem?_getD, List.getElem?_eq_getElem (by omega)]
              rfl
            have hvi := hst.2.2
            have HS := Lib.hid hst; clear hst
            clear hv HA
            by_cases hv0 : v = 0
            · subst hv0
              by_cases hk1 : k < (nd xs i).f1 - 1
              · go_wp2
                go_roundg ((nd xs i).f1 - (k + 1)).toNat
                case measure => omega
                case rel => exact ⟨-1, k + 1, rfl, rfl, by omega, rfl, HS.out.1 (by simp) hk1, HW⟩
              · go_wp2
                go_roundg ((nd xs i).f1 - (k + 1)).toNat
                case measure => omega
                case rel => exact ⟨0, k + 1, rfl, rfl, by omega, rfl, HS.out.2.1 (by omega), HW⟩
            · have e1 : (v == 0) = false := by simpa using hv0
              go_wp2
              go_roundg ((nd xs i).f1 - (k + 1)).toNat
              case measure => omega
              case rel => exact ⟨v, k + 1, rfl, rfl, by omega, rfl, HS.out.2.1 (by omega), HW⟩
          · have HD := HA.out.done hgo
            have HA1 : Hid (AtI (begsTo xs i) i (nd xs i).f1 a k) := HA
            clear HA
            have hgl : wr.cell? ⟨w.heap.size, i, none⟩ = some ((nums .i64 (part xs xs.length i))[i]'(by rw [nums, List.length_map, part_length _ _ _ (by omega)]; exact hlt)) := (HW.out.1.cell i).trans (List.getElem?_eq_getElem _)
            have hfz := HW.out.1.frozen i
            have HE : Hid (a = beg1 (begsTo xs i) i (nd xs i).f1) := HD.1
            have HZ : Hid (a = 0 → 0 < i ∨ (nd xs i).f1 ≤ 0) := HD.2
            clear HD
            generalize (nums .i64 (part xs xs.length i))[i]'(by rw [nums, List.length_map, part_length _ _ _ (by omega)]; exact hlt) = old at hgl
            have hdone : ∀ w1 : World, w1 = wr.setCell ⟨w.heap.size, i, none⟩ (.int .i64 a) → Hid (Blk w1 w.heap.size 3 (nums .i64 (part xs xs.length (i + 1))) ∧ Below w.heap.size w w1) := by
              rintro w1 rfl
              refine ⟨?_, HW.out.2.1.setCell (Nat.le_refl _) _⟩
              have := HW.out.1.setCell i (.int .i64 a)
              rw [nums, ← List.map_set, HE.out, part_set _ _ _ hlt] at this
              rw [HE.out]
              exact this
            have HDN := Lib.hid hdone; clear hdone HW
            have hsplit : (a = 0 ∧ 0 < (nd xs i).f1 ∧ 0 < i) ∨ (a = 0 ∧ ¬ 0 < (nd xs i).f1) ∨ (a == 0) = false := by
              by_cases ha0 : a = 0
              · by_cases hN0 : 0 < (nd xs i).f1
                · exact .inl ⟨ha0, hN0, by have := HZ.out ha0; omega⟩
                · exact .inr (.inl ⟨ha0, hN0⟩)
              · exact .inr (.inr (by simpa using ha0))
            have hgo2 : ¬ k < (nd xs i).f1 ∨ (k < (nd xs i).f1 ∧ ¬ 0 < a) := by omega
            clear hgo HE HZ
            have HGO := Lib.hid hgo2; clear hgo2
            rcases hsplit with ⟨rfl, hN0, hi0⟩ | ⟨rfl, hN0⟩ | e1
            all_goals
              try have e2 : ((i : Int) == 0) = false := by simp; omega
              rcases HGO.out with h1 | ⟨h1, h2⟩
              all_goals try (exfalso; omega)
              all_goals
                clear HGO
                go_wp2
                go_roundg (xs.length - (i + 1))
                case measure => omega
                case rel => exact ⟨i + 1, by omega, by go_num, HDN.out _ rfl⟩
    · obtain rfl : i = xs.length := by omega
      go_wp2
      go_ret
      refine ⟨w.heap.size, ?_, ?_, Nat.le_refl _, HI.out.2⟩
      · rw [show (begs xs).length = xs.length from begsTo_length _ _]
        rfl
      · rw [← part_all]; exact HI.out.1
end Go.Proofs.Ytmikgaphknbcaaa.B
