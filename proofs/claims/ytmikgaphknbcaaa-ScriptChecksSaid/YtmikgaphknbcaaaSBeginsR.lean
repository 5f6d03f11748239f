/- dowelref06.Begins: of each node where its extent begins: the same numbers. -/
import Derived.Test.YtmikgaphknbcaaaSBegins
namespace Go.Proofs.Ytmikgaphknbcaaa.B
open Go Go.RowKit Go.X Go.Proofs.YtmikgaphknbcaaaW.PrintWords Go.Proofs.Ytmikgaphknbcaaa.F

/-- The inner loop of dowelref06.Begins: at b after k rounds. -/
def AtR (l : List Int) (i : Nat) (N b k : Int) : Prop := 0 ≤ b ∧ b ≤ i ∧ 0 ≤ k ∧ k ≤ N ∧ b + k ≤ i ∧ ext l (N - k).toNat b = beg1 l i N
theorem AtR.begin {l : List Int} {i : Nat} {N : Int} (h : ¬ N < 0) : AtR l i N i 0 :=
  ⟨by omega, by omega, by omega, by omega, by omega, by unfold beg1; rw [if_neg h, Int.sub_zero]⟩
theorem AtR.step {l : List Int} {i : Nat} {N b k v : Int} (h : AtR l i N b k) (hl : InR l) (hlen : l.length = i) (hk : k < N) (hb : 0 < b) (hv : l.getD (b - 1).toNat 0 = v) (hv0 : 0 ≤ v) : AtR l i N v (k + 1) := by
  obtain ⟨h1, h2, h3, h4, h5, h6⟩ := h
  obtain ⟨m, hm⟩ : ∃ m, (N - k).toNat = m + 1 := ⟨(N - k).toNat - 1, by omega⟩
  rw [hm] at h6
  simp only [ext, hv] at h6
  rw [if_pos ⟨hb, hv0⟩] at h6
  have hr := hl (b - 1).toNat (by omega)
  rw [hv] at hr
  exact ⟨hv0, by omega, by omega, by omega, by omega, by rw [show (N - (k + 1)).toNat = m by omega]; exact h6⟩
theorem AtR.stop {l : List Int} {i : Nat} {N b k : Int} (h : AtR l i N b k) (hk : k < N) (hx : b ≤ 0 ∨ l.getD (b - 1).toNat 0 < 0) : beg1 l i N = -1 := by
  obtain ⟨h1, h2, h3, h4, h5, h6⟩ := h
  obtain ⟨m, hm⟩ : ∃ m, (N - k).toNat = m + 1 := ⟨(N - k).toNat - 1, by omega⟩
  rw [hm] at h6
  simp only [ext] at h6
  rw [if_neg (by omega)] at h6
  exact h6.symm
theorem AtR.done {l : List Int} {i : Nat} {N b k : Int} (h : AtR l i N b k) (hk : ¬ k < N) : k = N ∧ beg1 l i N = b := by
  obtain ⟨h1, h2, h3, h4, h5, h6⟩ := h
  obtain rfl : k = N := by omega
  rw [show (k - k).toNat = 0 by omega] at h6
  exact ⟨rfl, h6.symm⟩

set_option maxRecDepth 100000 in
set_option maxHeartbeats 4000000 in
theorem Begins.calls (A : Option Addr) (c : Nat) (xs : List S47) (w : World) (hr : Kd.C k47 w A xs.length xs) (hn : xs.length ≤ 4000000) :
    Calls Try.prog 45 #[.slice A xs.length c] w fun e w' => OwnInts w w' (begs xs) e := by
  have HR := Lib.hid hr; clear hr
  go_enter Try.func45, Try.ntmps45
  go_wp2_with (first
    | (at_make; refine X.make rfl _ _ 36 rfl 3 (.int .i64 0) 1 8 Try.underlying36 info3 .i64 .i64 _ _ xs.length rfl rfl rfl rfl (by omega) (by simp only [maxLen]; omega) ?_; intro w1 hb1 hg1; have HB1 := Lib.hid hb1; clear hb1; have HG1 := Lib.hid hg1; clear hg1)
    | fail)
  have HI : Hid (Blk w1 w.heap.size 3 (nums .i64 (part xs xs.length 0)) ∧ Below w.heap.size w w1) := ⟨made_part HB1.out, (Below.refl _ _).grown HG1.out (Nat.le_refl _) (by simp)⟩
  clear HB1 HG1
  go_loopg [4] xs.length (fun q v wr => ∃ i : Nat, q + i = xs.length ∧ v = .int .i64 i ∧ Hid (Blk wr w.heap.size 3 (nums .i64 (part xs xs.length i)) ∧ Below w.heap.size w wr))
  case atStart => exact ⟨0, by simp, rfl, HI⟩
  case round =>
    clear HI
    rename World => wo
    obtain ⟨i, hi, rfl, HI⟩ := hrel
    by_cases hlt : i < xs.length
    · have hgl := HI.out.1.cell i
      rw [List.getElem?_eq_getElem (by rw [nums, List.length_map, part_length _ _ _ (by omega)]; exact hlt)] at hgl
      generalize (nums .i64 (part xs xs.length i))[i]'(by rw [nums, List.length_map, part_length _ _ _ (by omega)]; exact hlt) = old at hgl
      have hfz := HI.out.1.frozen i
      have HW : Hid (Blk (wo.setCell ⟨w.heap.size, i, none⟩ (.int .i64 (-1))) w.heap.size 3 (nums .i64 ((part xs xs.length i).set i (-1))) ∧ Below w.heap.size w (wo.setCell ⟨w.heap.size, i, none⟩ (.int .i64 (-1)))) := by
        refine ⟨?_, HI.out.2.setCell (Nat.le_refl _) _⟩
        have := HI.out.1.setCell i (.int .i64 (-1))
        rwa [nums, ← List.map_set] at this
      clear HI
      obtain ⟨ad, eA, -, c1, -⟩ := node_at (Kd.C_below HR.out HW.out.2) i hlt
      subst eA
      have HL : Hid ((begsTo xs i).length = i) := begsTo_length xs i
      have HRR : Hid (InR (begsTo xs i)) := begsTo_inR xs i
      by_cases hN : (nd xs i).f1 < 0
      · have HE : Hid (beg1 (begsTo xs i) i (nd xs i).f1 = -1) := by show _ = _; unfold beg1; rw [if_pos hN]
        go_wp2
        go_roundg (xs.length - (i + 1))
        case measure => omega
        case rel => exact ⟨i + 1, by omega, by go_num, by have := HW.out; rw [← part_set _ _ _ hlt, HE.out]; exact this⟩
      · have HA : Hid (AtR (begsTo xs i) i (nd xs i).f1 i 0) := AtR.begin hN
        go_wp2
        clear c1
        go_loopg [5, 6] (nd xs i).f1.toNat (fun q v5 v6 wr' => ∃ b k : Int, v5 = .int .i64 b ∧ v6 = .int .i64 k ∧ q = ((nd xs i).f1 - k).toNat ∧ Hid (AtR (begsTo xs i) i (nd xs i).f1 b k) ∧ Hid (Blk wr' w.heap.size 3 (nums .i64 ((part xs xs.length i).set i (-1))) ∧ Below w.heap.size w wr'))
        case atStart => exact ⟨_, 0, rfl, rfl, by simp, HA, HW⟩
        clear HA HW hgl hfz
        case round =>
          obtain ⟨b, k, rfl, rfl, rfl, HA, HW⟩ := hrel
          obtain ⟨ad', eA, -, c1, -⟩ := node_at (Kd.C_below HR.out HW.out.2) i hlt
          obtain rfl : ad = ad' := Option.some.inj eA
          clear eA
          have hkk : 0 ≤ k ∧ 0 ≤ b ∧ b ≤ i ∧ b + k ≤ i := ⟨HA.out.2.2.1, HA.out.1, HA.out.2.1, HA.out.2.2.2.2.1⟩
          obtain ⟨hk0, hb0, hbi, hbk⟩ := hkk
          have hcell : ∀ m : Nat, m < i → wr.cell? ⟨w.heap.size, m, none⟩ = some (.int .i64 ((begsTo xs i).getD m 0)) := by
            intro m hm
            have hlen := HL.out
            rw [HW.out.1.cell, nums, List.getElem?_map, List.getElem?_set_ne (by omega), part_get _ _ _ _ hm, List.getD_eq_getElem?_getD, List.getElem?_eq_getElem (by omega)]
            rfl
          have HC := Lib.hid hcell; clear hcell
          have hgl := HW.out.1.cell i
          rw [List.getElem?_eq_getElem (by rw [nums, List.length_map, List.length_set, part_length _ _ _ (by omega)]; exact hlt)] at hgl
          generalize (nums .i64 ((part xs xs.length i).set i (-1)))[i]'(by rw [nums, List.length_map, List.length_set, part_length _ _ _ (by omega)]; exact hlt) = old at hgl
          have hfz := HW.out.1.frozen i
          have hset : ∀ w1 : World, w1 = wr.setCell ⟨w.heap.size, i, none⟩ (.int .i64 b) → beg1 (begsTo xs i) i (nd xs i).f1 = b → Hid (Blk w1 w.heap.size 3 (nums .i64 (part xs xs.length (i + 1))) ∧ Below w.heap.size w w1) := by
            rintro w1 rfl hb
            refine ⟨?_, HW.out.2.setCell (Nat.le_refl _) _⟩
            have := HW.out.1.setCell i (.int .i64 b)
            rwa [nums, ← List.map_set, List.set_set, ← hb, part_set _ _ _ hlt, hb] at this
          have HST := Lib.hid hset; clear hset
          by_cases hk : k < (nd xs i).f1
          · have e1 : (k == (nd xs i).f1) = false := by simp; omega
            by_cases hb : 0 < b
            · obtain ⟨m, rfl⟩ : ∃ m : Nat, b = m + 1 := ⟨(b - 1).toNat, by omega⟩
              have hc := HC.out m (by omega)
              by_cases hv : 0 ≤ (begsTo xs i).getD m 0
              · have HA' : Hid (AtR (begsTo xs i) i (nd xs i).f1 ((begsTo xs i).getD m 0) (k + 1)) := HA.out.step HRR.out HL.out hk hb (by rw [show ((m : Int) + 1 - 1).toNat = m by omega]) hv
                clear HA
                generalize (begsTo xs i).getD m 0 = v at hc hv HA'
                go_wp2
                go_roundg ((nd xs i).f1 - (k + 1)).toNat
                case measure => omega
                case rel => exact ⟨v, k + 1, rfl, rfl, rfl, HA', HW⟩
              · have HE : Hid (beg1 (begsTo xs i) i (nd xs i).f1 = -1) := HA.out.stop hk (.inr (by rw [show ((m : Int) + 1 - 1).toNat = m by omega]; omega))
                clear HA
                generalize (begsTo xs i).getD m 0 = v at hc hv
                go_wp2
                go_roundg (xs.length - (i + 1))
                case measure => omega
                case rel => exact ⟨i + 1, by omega, by go_num, by have := HW.out; rw [← part_set _ _ _ hlt, HE.out]; exact this⟩
            · have HE : Hid (beg1 (begsTo xs i) i (nd xs i).f1 = -1) := HA.out.stop hk (.inl (by omega))
              clear HA
              go_wp2
              go_roundg (xs.length - (i + 1))
              case measure => omega
              case rel => exact ⟨i + 1, by omega, by go_num, by have := HW.out; rw [← part_set _ _ _ hlt, HE.out]; exact this⟩
          · obtain ⟨hkN, hE⟩ := HA.out.done hk
            have HE := Lib.hid hE; clear hE HA
            have HKN := Lib.hid hkN; clear hkN
            have e1 : (k == (nd xs i).f1) = true := by simp; exact HKN.out
            go_wp2
            go_roundg (xs.length - (i + 1))
            case measure => omega
            case rel => exact ⟨i + 1, by omega, by go_num, HST.out _ rfl HE.out⟩
    · obtain rfl : i = xs.length := by omega
      go_wp2
      go_ret
      refine ⟨w.heap.size, ?_, ?_, Nat.le_refl _, HI.out.2⟩
      · rw [show (begs xs).length = xs.length from begsTo_length _ _]
        rfl
      · rw [← part_all]; exact HI.out.1
end Go.Proofs.Ytmikgaphknbcaaa.B
