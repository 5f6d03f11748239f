/- Texts joined: SBase, SBegins, SBeginsR, SParts, SParts2. -/
import Derived.Test.YtmikgaphknbcaaaXApp
import Derived.Test.YtmikgaphknbcaaaFx0
import Derived.Test.YtmikgaphknbcaaaBNodes
import Derived.WalkKit
import Derived.Lib.Hide
import Derived.Deep.LoopGhost
import Derived.Test.YtmikgaphknbcaaaFx1
import Derived.Deep.QuietTactic
import Derived.BigQuiet
/- Plain facts on extents of nodes (script.begins and its like), and an element of a row of nodes. -/
namespace Go.Proofs.Ytmikgaphknbcaaa.B
open Go Go.RowKit Go.X Go.Proofs.YtmikgaphknbcaaaW.PrintWords Go.Proofs.Ytmikgaphknbcaaa.F

/-- From place b go back over n extents; -1: there are not so many. -/
def ext (l : List Int) : Nat → Int → Int
  | 0, b => b
  | n + 1, b => if 0 < b ∧ 0 ≤ l.getD (b - 1).toNat 0 then ext l n (l.getD (b - 1).toNat 0) else -1
def beg1 (l : List Int) (i : Nat) (N : Int) : Int := if N < 0 then -1 else ext l N.toNat i
def nd (xs : List S47) (i : Nat) : S47 := xs.getD i z47
def begsTo (xs : List S47) : Nat → List Int
  | 0 => []
  | i + 1 => begsTo xs i ++ [beg1 (begsTo xs i) i (nd xs i).f1]
def begs (xs : List S47) : List Int := begsTo xs xs.length

theorem begsTo_length (xs : List S47) (i : Nat) : (begsTo xs i).length = i := by induction i <;> simp_all [begsTo]
def InR (l : List Int) : Prop := ∀ j : Nat, j < l.length → -1 ≤ l.getD j 0 ∧ l.getD j 0 ≤ j

theorem ext_range (l : List Int) (hl : InR l) : ∀ (n : Nat) (b : Int), 0 ≤ b → b ≤ l.length → -1 ≤ ext l n b ∧ ext l n b ≤ b
  | 0, b, h0, _ => ⟨by simp only [ext]; omega, by simp only [ext]; omega⟩
  | n + 1, b, h0, h1 => by
    simp only [ext]
    split
    · rename_i h
      have := hl (b - 1).toNat (by omega)
      have ih := ext_range l hl n _ h.2 (by omega)
      omega
    · omega
theorem ext_many (l : List Int) (hl : InR l) : ∀ (n : Nat) (b : Int), 0 ≤ b → b ≤ l.length → b < n → ext l n b = -1
  | 0, b, h0, _, h => by omega
  | n + 1, b, h0, h1, h => by
    simp only [ext]
    split
    · rename_i hh
      have := hl (b - 1).toNat (by omega)
      exact ext_many l hl n _ hh.2 (by omega) (by omega)
    · rfl
theorem beg1_range (l : List Int) (hl : InR l) (N : Int) : -1 ≤ beg1 l l.length N ∧ beg1 l l.length N ≤ l.length := by
  unfold beg1
  split
  · omega
  · exact ext_range l hl _ _ (by omega) (by omega)
theorem begsTo_inR (xs : List S47) (i : Nat) : InR (begsTo xs i) := by
  induction i with
  | zero => intro j hj; simp [begsTo] at hj
  | succ i ih =>
    intro j hj
    simp only [begsTo, List.length_append, List.length_singleton, begsTo_length] at hj
    have hlen := begsTo_length xs i
    have hb := beg1_range (begsTo xs i) ih (nd xs i).f1
    rw [hlen] at hb
    by_cases h : j < i
    · have := ih j (by omega)
      simpa [begsTo, List.getD_eq_getElem?_getD, List.getElem?_append, hlen, h] using this
    · obtain rfl : j = i := by omega
      simpa [begsTo, List.getD_eq_getElem?_getD, List.getElem?_append, hlen] using hb
theorem begsTo_take (xs : List S47) : ∀ (n i : Nat), i ≤ n → (begsTo xs n).take i = begsTo xs i
  | 0, i, h => by obtain rfl : i = 0 := by omega
                  rfl
  | n + 1, i, h => by
    by_cases hi : i = n + 1
    · subst hi; rw [List.take_of_length_le (by rw [begsTo_length]; omega)]
    · rw [begsTo, List.take_append_of_le_length (by rw [begsTo_length]; omega)]
      exact begsTo_take xs n i (by omega)
/-- The list that the loop fills: what is known, and noughts. -/
def part (xs : List S47) (n i : Nat) : List Int := begsTo xs i ++ List.replicate (n - i) 0
theorem part_length (xs : List S47) (n i : Nat) (h : i ≤ n) : (part xs n i).length = n := by simp [part, begsTo_length]; omega
theorem part_get (xs : List S47) (n i j : Nat) (h : j < i) : (part xs n i)[j]? = (begsTo xs i)[j]? := by
  rw [part, List.getElem?_append_left (by rw [begsTo_length]; exact h)]
theorem part_set (xs : List S47) (n i : Nat) (h : i < n) : (part xs n i).set i (beg1 (begsTo xs i) i (nd xs i).f1) = part xs n (i + 1) := by
  obtain ⟨m, hm⟩ : ∃ m, n - i = m + 1 := ⟨n - i - 1, by omega⟩
  rw [part, part, hm, List.replicate_succ, List.set_append_right _ _ (by rw [begsTo_length]; exact Nat.le_refl i), begsTo_length, Nat.sub_self, List.set_cons_zero, begsTo, List.append_assoc, show n - (i + 1) = m by omega]
  rfl
theorem part_all (xs : List S47) : part xs xs.length xs.length = begs xs := by simp [part, begs]

/-- The inner loop of script.begins: at (of the node i with N parts), after k rounds. -/
def AtI (l : List Int) (i : Nat) (N at_ k : Int) : Prop :=
  (0 < at_ ∧ at_ ≤ i ∧ 0 ≤ k ∧ k ≤ N ∧ N ≤ i ∧ ext l (N - k).toNat at_ = beg1 l i N) ∨ (at_ ≤ 0 ∧ -1 ≤ at_ ∧ at_ = beg1 l i N ∧ (at_ = 0 → 0 < i ∨ N ≤ 0))
theorem AtI.begin_neg {l : List Int} {i : Nat} {N : Int} (hl : InR l) (hlen : l.length = i) (h : N < 0 ∨ N > i) : AtI l i N (-1) 0 := by
  refine .inr ⟨by omega, by omega, ?_, by omega⟩
  unfold beg1
  split
  · rfl
  · rw [ext_many l hl _ _ (by omega) (by omega) (by omega)]
theorem AtI.begin_pos {l : List Int} {i : Nat} {N : Int} (h0 : 0 ≤ N) (h1 : N ≤ i) : AtI l i N i 0 := by
  by_cases hi : i = 0
  · subst hi
    obtain rfl : N = 0 := by simpa using Int.le_antisymm h1 h0
    exact .inr ⟨by omega, by omega, by simp [beg1, ext], by omega⟩
  · exact .inl ⟨by omega, by omega, by omega, by omega, by omega, by unfold beg1; rw [if_neg (by omega), Int.sub_zero]⟩
theorem AtI.step {l : List Int} {i : Nat} {N at_ k v : Int} (h : AtI l i N at_ k) (hl : InR l) (hlen : l.length = i) (hp : 0 < at_) (hk : k < N) (hv : l.getD (at_ - 1).toNat 0 = v) :
    (v = 0 → k < N - 1 → AtI l i N (-1) (k + 1)) ∧ (¬ (v = 0 ∧ k < N - 1) → AtI l i N v (k + 1)) ∧ v < i := by
  rcases h with ⟨_, h1, h2, h3, hNi, h4⟩ | ⟨h1, _⟩
  · obtain ⟨m, hm⟩ : ∃ m, (N - k).toNat = m + 1 := ⟨(N - k).toNat - 1, by omega⟩
    rw [hm] at h4
    simp only [ext, hv] at h4
    have hr := hl (at_ - 1).toNat (by omega)
    rw [hv] at hr
    refine ⟨fun h0 hk1 => ?_, fun hne => ?_, by omega⟩
    · subst h0
      rw [if_pos ⟨hp, Int.le_refl 0⟩] at h4
      obtain ⟨m', hm'⟩ : ∃ m', m = m' + 1 := ⟨m - 1, by omega⟩
      rw [hm'] at h4
      simp only [ext] at h4
      rw [if_neg (by omega)] at h4
      exact .inr ⟨by omega, by omega, h4, by omega⟩
    · by_cases hv0 : 0 ≤ v
      · rw [if_pos ⟨hp, hv0⟩] at h4
        by_cases hv1 : v = 0
        · obtain rfl : m = 0 := by omega
          simp only [ext] at h4
          exact .inr ⟨by omega, by omega, h4, by omega⟩
        · exact .inl ⟨by omega, by omega, by omega, by omega, by omega, by rw [show (N - (k + 1)).toNat = m by omega]; exact h4⟩
      · rw [if_neg (by omega)] at h4
        exact .inr ⟨by omega, by omega, by omega, by omega⟩
  · omega
theorem AtI.done {l : List Int} {i : Nat} {N at_ k : Int} (h : AtI l i N at_ k) (hx : ¬ (k < N ∧ 0 < at_)) : at_ = beg1 l i N ∧ (at_ = 0 → 0 < i ∨ N ≤ 0) := by
  rcases h with ⟨h0, h1, h2, h3, _, h4⟩ | ⟨h1, _, h2, h3⟩
  · obtain rfl : k = N := by omega
    rw [show (k - k).toNat = 0 by omega] at h4
    exact ⟨h4, by omega⟩
  · exact ⟨h2, h3⟩

def nodeCells (x : S47) : List Value := [.int .i64 x.f0, .int .i64 x.f1, .string x.f2, .bool x.f3, .int .u64 x.f4.f0, .int .u64 x.f4.f1, .int .u64 x.f4.f2, .int .u64 x.f4.f3, .int .i64 x.f5, .int .i64 x.f6]
theorem nodeCells_one (x : S47) : ∀ u ∈ (nodeCells x).toArray.toList, u.oneCell' = true := by
  intro u hu
  simp [nodeCells] at hu
  rcases hu with rfl | rfl | rfl | rfl | rfl | rfl | rfl | rfl | rfl | rfl <;> rfl
theorem nodeCells_k (w : World) (x : S47) : k47.K w x (nodeCells x) := k47_mk w x
theorem k47_cells {w : World} {x : S47} {cs : List Value} (h : k47.K w x cs) : cs = nodeCells x := k47_open h
/-- An element of a row of nodes that is read. -/
theorem node_at {w : World} {A : Option Addr} {xs : List S47} (h : Kd.C k47 w A xs.length xs) (k : Nat) (hk : k < xs.length) :
    ∃ ad, A = some ad ∧ w.cell? (ad.add (k * 10)) = some (.int .i64 (nd xs k).f0) ∧ w.cell? ⟨(ad.add (k * 10)).block, (ad.add (k * 10)).off + 1, none⟩ = some (.int .i64 (nd xs k).f1) ∧
      w.cell? ⟨(ad.add (k * 10)).block, (ad.add (k * 10)).off + 2, none⟩ = some (.string (nd xs k).f2) ∧ w.cell? ⟨(ad.add (k * 10)).block, (ad.add (k * 10)).off + 3, none⟩ = some (.bool (nd xs k).f3) ∧
      w.cell? ⟨(ad.add (k * 10)).block, (ad.add (k * 10)).off + 4, none⟩ = some (.int .u64 (nd xs k).f4.f0) ∧ w.cell? ⟨(ad.add (k * 10)).block, (ad.add (k * 10)).off + 5, none⟩ = some (.int .u64 (nd xs k).f4.f1) ∧
      w.cell? ⟨(ad.add (k * 10)).block, (ad.add (k * 10)).off + 6, none⟩ = some (.int .u64 (nd xs k).f4.f2) ∧ w.cell? ⟨(ad.add (k * 10)).block, (ad.add (k * 10)).off + 7, none⟩ = some (.int .u64 (nd xs k).f4.f3) ∧
      w.cell? ⟨(ad.add (k * 10)).block, (ad.add (k * 10)).off + 8, none⟩ = some (.int .i64 (nd xs k).f5) ∧ w.cell? ⟨(ad.add (k * 10)).block, (ad.add (k * 10)).off + 9, none⟩ = some (.int .i64 (nd xs k).f6) := by
  have := at_T47 h (k : Int) (by omega) (by omega)
  simpa only [Int.toNat_natCast, rd_T47, nd] using this
end Go.Proofs.Ytmikgaphknbcaaa.B
/- script.begins: of each node where its extent begins. -/
namespace Go.Proofs.Ytmikgaphknbcaaa.B
open Go Go.RowKit Go.X Go.Proofs.YtmikgaphknbcaaaW.PrintWords Go.Proofs.Ytmikgaphknbcaaa.F

def OwnInts (w w' : World) (l : List Int) (e : Ending) : Prop :=
  ∃ g, e = .returned (.slice (some ⟨g, 0, none⟩) l.length l.length) ∧ Blk w' g 3 (nums .i64 l) ∧ w.heap.size ≤ g ∧ Below w.heap.size w w'

theorem made_ints (n : Nat) : (madeCells (Value.int IntKind.i64 0).cells (n * 1)).toList = nums .i64 (List.replicate n 0) := by
  simp only [nums, List.map_replicate, Value.cells, Nat.mul_one]
  apply List.ext_getElem?
  intro j
  simp [madeCells, List.getElem?_replicate]
  split <;> simp_all [Nat.mod_one]
theorem made_part {w : World} {b : Nat} {xs : List S47} (h : Blk w b 3 (madeCells (Value.int IntKind.i64 0).cells (xs.length * 1)).toList) : Blk w b 3 (nums .i64 (part xs xs.length 0)) := by
  rw [made_ints] at h
  simpa [part, begsTo] using h
set_option maxRecDepth 100000 in
set_option maxHeartbeats 4000000 in
theorem begins.calls (A : Option Addr) (c : Nat) (xs : List S47) (w : World) (hr : Kd.C k47 w A xs.length xs) (hn : xs.length ≤ 4000000) :
    Calls Try.prog 43 #[.slice A xs.length c] w fun e w' => OwnInts w w' (begs xs) e := by
  have HR := Lib.hid hr; clear hr
  go_enter Try.func43, Try.ntmps43
  go_wp2_with (first
    | (at_make; refine X.make rfl _ _ 36 rfl 3 (.int .i64 0) 1 8 Try.underlying36 info3 .i64 .i64 _ _ xs.length rfl rfl rfl rfl (by omega) (by simp only [maxLen]; omega) ?_; intro w1 hb1 hg1; have HB1 := Lib.hid hb1; clear hb1; have HG1 := Lib.hid hg1; clear hg1)
    | fail)
  have HI : Hid (Blk w1 w.heap.size 3 (nums .i64 (part xs xs.length 0)) ∧ Below w.heap.size w w1) := ⟨made_part HB1.out, (Below.refl _ _).grown HG1.out (Nat.le_refl _) (by simp)⟩
  clear HB1 HG1
  go_loopg [13] xs.length (fun q v wr => ∃ i : Nat, q + i = xs.length ∧ v = .int .i64 i ∧ Hid (Blk wr w.heap.size 3 (nums .i64 (part xs xs.length i)) ∧ Below w.heap.size w wr))
  case atStart => exact ⟨0, by simp, rfl, HI⟩
  case round =>
    clear HI
    rename World => wo
    obtain ⟨i, hi, rfl, HI⟩ := hrel
    by_cases hlt : i < xs.length
    · obtain ⟨ad, eA, c0, c1, c2, c3, c4, c5, c6, c7, c8, c9⟩ := node_at (Kd.C_below HR.out HI.out.2) i hlt
      subst eA
      have HW : Hid (Blk (wo.alloc (.cells (nodeCells (nd xs i)).toArray 47)) w.heap.size 3 (nums .i64 (part xs xs.length i)) ∧ Below w.heap.size w (wo.alloc (.cells (nodeCells (nd xs i)).toArray 47)) ∧ Blk (wo.alloc (.cells (nodeCells (nd xs i)).toArray 47)) wo.heap.size 47 (nodeCells (nd xs i))) :=
        ⟨HI.out.1.grown (World.grownBy_alloc _ _ none) (by simp), HI.out.2.alloc HI.out.2.size _, Blk.alloc _ _ _⟩
      have HNE : Hid (w.heap.size ≠ wo.heap.size) := by have := HI.out.1.lt; show _ ≠ _; omega
      clear HI
      have hL := begsTo_length xs i
      have hR := begsTo_inR xs i
      obtain ⟨a0, HA, hcase⟩ : ∃ a0, Hid (AtI (begsTo xs i) i (nd xs i).f1 a0 0) ∧ Hid (a0 = -1 ∧ (nd xs i).f1 < 0 ∨ a0 = -1 ∧ ¬ (nd xs i).f1 < 0 ∧ (i : Int) < (nd xs i).f1 ∨ a0 = i ∧ ¬ (nd xs i).f1 < 0 ∧ ¬ (i : Int) < (nd xs i).f1) := by
        by_cases hN : (nd xs i).f1 < 0
        · exact ⟨-1, AtI.begin_neg hR hL (.inl hN), .inl ⟨rfl, hN⟩⟩
        · by_cases hN2 : (i : Int) < (nd xs i).f1
          · exact ⟨-1, AtI.begin_neg hR hL (.inr hN2), .inr (.inl ⟨rfl, hN, hN2⟩)⟩
          · exact ⟨i, AtI.begin_pos (by omega) (by omega), .inr (.inr ⟨rfl, hN, hN2⟩)⟩
      have HL := Lib.hid hL; clear hL
      have HRR := Lib.hid hR; clear hR
      rcases hcase.out with ⟨rfl, hN⟩ | ⟨rfl, hN, hN2⟩ | ⟨rfl, hN, hN2⟩
      all_goals
        clear hcase
        go_wp2
        go_loopg [6, 7] (nd xs i).f1.toNat (fun q v6 v7 wr' => ∃ a k : Int, v6 = .int .i64 a ∧ v7 = .int .i64 k ∧ 0 ≤ k ∧ q = ((nd xs i).f1 - k).toNat ∧ Hid (AtI (begsTo xs i) i (nd xs i).f1 a k) ∧ Hid (Blk wr' w.heap.size 3 (nums .i64 (part xs xs.length i)) ∧ Below w.heap.size w wr' ∧ Blk wr' wo.heap.size 47 (nodeCells (nd xs i))))
        case atStart => exact ⟨_, 0, rfl, rfl, by omega, by simp, HA, HW⟩
        clear HA HW
        try clear hN2
        clear hN
        case round =>
          obtain ⟨a, k, rfl, rfl, hk0, rfl, HA, HW⟩ := hrel
          have b1 : wr.cell? ⟨wo.heap.size, 1, none⟩ = some (.int .i64 (nd xs i).f1) := HW.out.2.2.cell 1
          by_cases hgo : k < (nd xs i).f1 ∧ 0 < a
          · obtain ⟨hk, ha⟩ := hgo
            obtain ⟨m, rfl⟩ : ∃ m : Nat, a = m + 1 := ⟨(a - 1).toNat, by omega⟩
            have hmi : m < i ∧ (nd xs i).f1 ≤ i := by
              rcases HA.out with ⟨_, h1, h2, h3, h4, _⟩ | ⟨h1, _⟩ <;> omega
            obtain ⟨hmi, hNi⟩ := hmi
            obtain ⟨v, hv⟩ : ∃ v, (begsTo xs i).getD m 0 = v := ⟨_, rfl⟩
            have hst := HA.out.step HRR.out HL.out ha hk (v := v) (by rw [show ((m : Int) + 1 - 1).toNat = m by omega]; exact hv)
            have hcl : wr.cell? ⟨w.heap.size, m, none⟩ = some (.int .i64 v) := by
              have hlen := HL.out
              rw [HW.out.1.cell, nums, List.getElem?_map, part_get _ _ _ _ hmi, ← hv, List.getD_eq_getElem?_getD, List.getElem?_eq_getElem (by omega)]
              rfl
            have hvi := hst.2.2
            have HS := Lib.hid hst; clear hst
            clear hv HA
            by_cases hv0 : v = 0
            · subst hv0
              by_cases hk1 : k < (nd xs i).f1 - 1
              · go_wp2
                go_roundg ((nd xs i).f1 - (k + 1)).toNat
                case measure => omega
                case rel => exact ⟨-1, k + 1, rfl, rfl, by omega, rfl, HS.out.1 (by simp) hk1, HW⟩
              · go_wp2
                go_roundg ((nd xs i).f1 - (k + 1)).toNat
                case measure => omega
                case rel => exact ⟨0, k + 1, rfl, rfl, by omega, rfl, HS.out.2.1 (by omega), HW⟩
            · have e1 : (v == 0) = false := by simpa using hv0
              go_wp2
              go_roundg ((nd xs i).f1 - (k + 1)).toNat
              case measure => omega
              case rel => exact ⟨v, k + 1, rfl, rfl, by omega, rfl, HS.out.2.1 (by omega), HW⟩
          · have HD := HA.out.done hgo
            have HA1 : Hid (AtI (begsTo xs i) i (nd xs i).f1 a k) := HA
            clear HA
            have hgl : wr.cell? ⟨w.heap.size, i, none⟩ = some ((nums .i64 (part xs xs.length i))[i]'(by rw [nums, List.length_map, part_length _ _ _ (by omega)]; exact hlt)) := (HW.out.1.cell i).trans (List.getElem?_eq_getElem _)
            have hfz := HW.out.1.frozen i
            have HE : Hid (a = beg1 (begsTo xs i) i (nd xs i).f1) := HD.1
            have HZ : Hid (a = 0 → 0 < i ∨ (nd xs i).f1 ≤ 0) := HD.2
            clear HD
            generalize (nums .i64 (part xs xs.length i))[i]'(by rw [nums, List.length_map, part_length _ _ _ (by omega)]; exact hlt) = old at hgl
            have hdone : ∀ w1 : World, w1 = wr.setCell ⟨w.heap.size, i, none⟩ (.int .i64 a) → Hid (Blk w1 w.heap.size 3 (nums .i64 (part xs xs.length (i + 1))) ∧ Below w.heap.size w w1) := by
              rintro w1 rfl
              refine ⟨?_, HW.out.2.1.setCell (Nat.le_refl _) _⟩
              have := HW.out.1.setCell i (.int .i64 a)
              rw [nums, ← List.map_set, HE.out, part_set _ _ _ hlt] at this
              rw [HE.out]
              exact this
            have HDN := Lib.hid hdone; clear hdone HW
            have hsplit : (a = 0 ∧ 0 < (nd xs i).f1 ∧ 0 < i) ∨ (a = 0 ∧ ¬ 0 < (nd xs i).f1) ∨ (a == 0) = false := by
              by_cases ha0 : a = 0
              · by_cases hN0 : 0 < (nd xs i).f1
                · exact .inl ⟨ha0, hN0, by have := HZ.out ha0; omega⟩
                · exact .inr (.inl ⟨ha0, hN0⟩)
              · exact .inr (.inr (by simpa using ha0))
            have hgo2 : ¬ k < (nd xs i).f1 ∨ (k < (nd xs i).f1 ∧ ¬ 0 < a) := by omega
            clear hgo HE HZ
            have HGO := Lib.hid hgo2; clear hgo2
            rcases hsplit with ⟨rfl, hN0, hi0⟩ | ⟨rfl, hN0⟩ | e1
            all_goals
              try have e2 : ((i : Int) == 0) = false := by simp; omega
              rcases HGO.out with h1 | ⟨h1, h2⟩
              all_goals try (exfalso; omega)
              all_goals
                clear HGO
                go_wp2
                go_roundg (xs.length - (i + 1))
                case measure => omega
                case rel => exact ⟨i + 1, by omega, by go_num, HDN.out _ rfl⟩
    · obtain rfl : i = xs.length := by omega
      go_wp2
      go_ret
      refine ⟨w.heap.size, ?_, ?_, Nat.le_refl _, HI.out.2⟩
      · rw [show (begs xs).length = xs.length from begsTo_length _ _]
        rfl
      · rw [← part_all]; exact HI.out.1
end Go.Proofs.Ytmikgaphknbcaaa.B
/- dowelref06.Begins: of each node where its extent begins: the same numbers. -/
namespace Go.Proofs.Ytmikgaphknbcaaa.B
open Go Go.RowKit Go.X Go.Proofs.YtmikgaphknbcaaaW.PrintWords Go.Proofs.Ytmikgaphknbcaaa.F

/-- The inner loop of dowelref06.Begins: at b after k rounds. -/
def AtR (l : List Int) (i : Nat) (N b k : Int) : Prop := 0 ≤ b ∧ b ≤ i ∧ 0 ≤ k ∧ k ≤ N ∧ b + k ≤ i ∧ ext l (N - k).toNat b = beg1 l i N
theorem AtR.begin {l : List Int} {i : Nat} {N : Int} (h : ¬ N < 0) : AtR l i N i 0 :=
  ⟨by omega, by omega, by omega, by omega, by omega, by unfold beg1; rw [if_neg h, Int.sub_zero]⟩
theorem AtR.step {l : List Int} {i : Nat} {N b k v : Int} (h : AtR l i N b k) (hl : InR l) (hlen : l.length = i) (hk : k < N) (hb : 0 < b) (hv : l.getD (b - 1).toNat 0 = v) (hv0 : 0 ≤ v) : AtR l i N v (k + 1) := by
  obtain ⟨h1, h2, h3, h4, h5, h6⟩ := h
  obtain ⟨m, hm⟩ : ∃ m, (N - k).toNat = m + 1 := ⟨(N - k).toNat - 1, by omega⟩
  rw [hm] at h6
  simp only [ext, hv] at h6
  rw [if_pos ⟨hb, hv0⟩] at h6
  have hr := hl (b - 1).toNat (by omega)
  rw [hv] at hr
  exact ⟨hv0, by omega, by omega, by omega, by omega, by rw [show (N - (k + 1)).toNat = m by omega]; exact h6⟩
theorem AtR.stop {l : List Int} {i : Nat} {N b k : Int} (h : AtR l i N b k) (hk : k < N) (hx : b ≤ 0 ∨ l.getD (b - 1).toNat 0 < 0) : beg1 l i N = -1 := by
  obtain ⟨h1, h2, h3, h4, h5, h6⟩ := h
  obtain ⟨m, hm⟩ : ∃ m, (N - k).toNat = m + 1 := ⟨(N - k).toNat - 1, by omega⟩
  rw [hm] at h6
  simp only [ext] at h6
  rw [if_neg (by omega)] at h6
  exact h6.symm
theorem AtR.done {l : List Int} {i : Nat} {N b k : Int} (h : AtR l i N b k) (hk : ¬ k < N) : k = N ∧ beg1 l i N = b := by
  obtain ⟨h1, h2, h3, h4, h5, h6⟩ := h
  obtain rfl : k = N := by omega
  rw [show (k - k).toNat = 0 by omega] at h6
  exact ⟨rfl, h6.symm⟩

set_option maxRecDepth 100000 in
set_option maxHeartbeats 4000000 in
theorem Begins.calls (A : Option Addr) (c : Nat) (xs : List S47) (w : World) (hr : Kd.C k47 w A xs.length xs) (hn : xs.length ≤ 4000000) :
    Calls Try.prog 45 #[.slice A xs.length c] w fun e w' => OwnInts w w' (begs xs) e := by
  have HR := Lib.hid hr; clear hr
  go_enter Try.func45, Try.ntmps45
  go_wp2_with (first
    | (at_make; refine X.make rfl _ _ 36 rfl 3 (.int .i64 0) 1 8 Try.underlying36 info3 .i64 .i64 _ _ xs.length rfl rfl rfl rfl (by omega) (by simp only [maxLen]; omega) ?_; intro w1 hb1 hg1; have HB1 := Lib.hid hb1; clear hb1; have HG1 := Lib.hid hg1; clear hg1)
    | fail)
  have HI : Hid (Blk w1 w.heap.size 3 (nums .i64 (part xs xs.length 0)) ∧ Below w.heap.size w w1) := ⟨made_part HB1.out, (Below.refl _ _).grown HG1.out (Nat.le_refl _) (by simp)⟩
  clear HB1 HG1
  go_loopg [4] xs.length (fun q v wr => ∃ i : Nat, q + i = xs.length ∧ v = .int .i64 i ∧ Hid (Blk wr w.heap.size 3 (nums .i64 (part xs xs.length i)) ∧ Below w.heap.size w wr))
  case atStart => exact ⟨0, by simp, rfl, HI⟩
  case round =>
    clear HI
    rename World => wo
    obtain ⟨i, hi, rfl, HI⟩ := hrel
    by_cases hlt : i < xs.length
    · have hgl := HI.out.1.cell i
      rw [List.getElem?_eq_getElem (by rw [nums, List.length_map, part_length _ _ _ (by omega)]; exact hlt)] at hgl
      generalize (nums .i64 (part xs xs.length i))[i]'(by rw [nums, List.length_map, part_length _ _ _ (by omega)]; exact hlt) = old at hgl
      have hfz := HI.out.1.frozen i
      have HW : Hid (Blk (wo.setCell ⟨w.heap.size, i, none⟩ (.int .i64 (-1))) w.heap.size 3 (nums .i64 ((part xs xs.length i).set i (-1))) ∧ Below w.heap.size w (wo.setCell ⟨w.heap.size, i, none⟩ (.int .i64 (-1)))) := by
        refine ⟨?_, HI.out.2.setCell (Nat.le_refl _) _⟩
        have := HI.out.1.setCell i (.int .i64 (-1))
        rwa [nums, ← List.map_set] at this
      clear HI
      obtain ⟨ad, eA, -, c1, -⟩ := node_at (Kd.C_below HR.out HW.out.2) i hlt
      subst eA
      have HL : Hid ((begsTo xs i).length = i) := begsTo_length xs i
      have HRR : Hid (InR (begsTo xs i)) := begsTo_inR xs i
      by_cases hN : (nd xs i).f1 < 0
      · have HE : Hid (beg1 (begsTo xs i) i (nd xs i).f1 = -1) := by show _ = _; unfold beg1; rw [if_pos hN]
        go_wp2
        go_roundg (xs.length - (i + 1))
        case measure => omega
        case rel => exact ⟨i + 1, by omega, by go_num, by have := HW.out; rw [← part_set _ _ _ hlt, HE.out]; exact this⟩
      · have HA : Hid (AtR (begsTo xs i) i (nd xs i).f1 i 0) := AtR.begin hN
        go_wp2
        clear c1
        go_loopg [5, 6] (nd xs i).f1.toNat (fun q v5 v6 wr' => ∃ b k : Int, v5 = .int .i64 b ∧ v6 = .int .i64 k ∧ q = ((nd xs i).f1 - k).toNat ∧ Hid (AtR (begsTo xs i) i (nd xs i).f1 b k) ∧ Hid (Blk wr' w.heap.size 3 (nums .i64 ((part xs xs.length i).set i (-1))) ∧ Below w.heap.size w wr'))
        case atStart => exact ⟨_, 0, rfl, rfl, by simp, HA, HW⟩
        clear HA HW hgl hfz
        case round =>
          obtain ⟨b, k, rfl, rfl, rfl, HA, HW⟩ := hrel
          obtain ⟨ad', eA, -, c1, -⟩ := node_at (Kd.C_below HR.out HW.out.2) i hlt
          obtain rfl : ad = ad' := Option.some.inj eA
          clear eA
          have hkk : 0 ≤ k ∧ 0 ≤ b ∧ b ≤ i ∧ b + k ≤ i := ⟨HA.out.2.2.1, HA.out.1, HA.out.2.1, HA.out.2.2.2.2.1⟩
          obtain ⟨hk0, hb0, hbi, hbk⟩ := hkk
          have hcell : ∀ m : Nat, m < i → wr.cell? ⟨w.heap.size, m, none⟩ = some (.int .i64 ((begsTo xs i).getD m 0)) := by
            intro m hm
            have hlen := HL.out
            rw [HW.out.1.cell, nums, List.getElem?_map, List.getElem?_set_ne (by omega), part_get _ _ _ _ hm, List.getD_eq_getElem?_getD, List.getElem?_eq_getElem (by omega)]
            rfl
          have HC := Lib.hid hcell; clear hcell
          have hgl := HW.out.1.cell i
          rw [List.getElem?_eq_getElem (by rw [nums, List.length_map, List.length_set, part_length _ _ _ (by omega)]; exact hlt)] at hgl
          generalize (nums .i64 ((part xs xs.length i).set i (-1)))[i]'(by rw [nums, List.length_map, List.length_set, part_length _ _ _ (by omega)]; exact hlt) = old at hgl
          have hfz := HW.out.1.frozen i
          have hset : ∀ w1 : World, w1 = wr.setCell ⟨w.heap.size, i, none⟩ (.int .i64 b) → beg1 (begsTo xs i) i (nd xs i).f1 = b → Hid (Blk w1 w.heap.size 3 (nums .i64 (part xs xs.length (i + 1))) ∧ Below w.heap.size w w1) := by
            rintro w1 rfl hb
            refine ⟨?_, HW.out.2.setCell (Nat.le_refl _) _⟩
            have := HW.out.1.setCell i (.int .i64 b)
            rwa [nums, ← List.map_set, List.set_set, ← hb, part_set _ _ _ hlt, hb] at this
          have HST := Lib.hid hset; clear hset
          by_cases hk : k < (nd xs i).f1
          · have e1 : (k == (nd xs i).f1) = false := by simp; omega
            by_cases hb : 0 < b
            · obtain ⟨m, rfl⟩ : ∃ m : Nat, b = m + 1 := ⟨(b - 1).toNat, by omega⟩
              have hc := HC.out m (by omega)
              by_cases hv : 0 ≤ (begsTo xs i).getD m 0
              · have HA' : Hid (AtR (begsTo xs i) i (nd xs i).f1 ((begsTo xs i).getD m 0) (k + 1)) := HA.out.step HRR.out HL.out hk hb (by rw [show ((m : Int) + 1 - 1).toNat = m by omega]) hv
                clear HA
                generalize (begsTo xs i).getD m 0 = v at hc hv HA'
                go_wp2
                go_roundg ((nd xs i).f1 - (k + 1)).toNat
                case measure => omega
                case rel => exact ⟨v, k + 1, rfl, rfl, rfl, HA', HW⟩
              · have HE : Hid (beg1 (begsTo xs i) i (nd xs i).f1 = -1) := HA.out.stop hk (.inr (by rw [show ((m : Int) + 1 - 1).toNat = m by omega]; omega))
                clear HA
                generalize (begsTo xs i).getD m 0 = v at hc hv
                go_wp2
                go_roundg (xs.length - (i + 1))
                case measure => omega
                case rel => exact ⟨i + 1, by omega, by go_num, by have := HW.out; rw [← part_set _ _ _ hlt, HE.out]; exact this⟩
            · have HE : Hid (beg1 (begsTo xs i) i (nd xs i).f1 = -1) := HA.out.stop hk (.inl (by omega))
              clear HA
              go_wp2
              go_roundg (xs.length - (i + 1))
              case measure => omega
              case rel => exact ⟨i + 1, by omega, by go_num, by have := HW.out; rw [← part_set _ _ _ hlt, HE.out]; exact this⟩
          · obtain ⟨hkN, hE⟩ := HA.out.done hk
            have HE := Lib.hid hE; clear hE HA
            have HKN := Lib.hid hkN; clear hkN
            have e1 : (k == (nd xs i).f1) = true := by simp; exact HKN.out
            go_wp2
            go_roundg (xs.length - (i + 1))
            case measure => omega
            case rel => exact ⟨i + 1, by omega, by go_num, HST.out _ rfl HE.out⟩
    · obtain rfl : i = xs.length := by omega
      go_wp2
      go_ret
      refine ⟨w.heap.size, ?_, ?_, Nat.le_refl _, HI.out.2⟩
      · rw [show (begs xs).length = xs.length from begsTo_length _ _]
        rfl
      · rw [← part_all]; exact HI.out.1
end Go.Proofs.Ytmikgaphknbcaaa.B
/- script.parts, script.Parts, dowelref06.parts, dowelref06.Parts: the parts of a node, by one plain function. -/
namespace Go.Proofs.Ytmikgaphknbcaaa.B
open Go Go.RowKit Go.X Go.Proofs.YtmikgaphknbcaaaW.PrintWords Go.Proofs.Ytmikgaphknbcaaa.F

/-- n extents back from b: the last nodes of the parts. -/
def backs (l : List Int) : Nat → Int → List Int
  | 0, _ => []
  | n + 1, b => backs l n (l.getD (b - 1).toNat 0) ++ [b - 1]
def partsOf (xs : List S47) (i : Int) : List Int :=
  if 0 ≤ i ∧ i < xs.length ∧ 0 ≤ (begs xs).getD i.toNat 0 then backs (begs xs) (nd xs i.toNat).f1.toNat i else []

theorem backs_length (l : List Int) : ∀ (n : Nat) (b : Int), (backs l n b).length = n
  | 0, _ => rfl
  | n + 1, b => by rw [backs, List.length_append, backs_length l n]; rfl
theorem begs_get (xs : List S47) (m j : Nat) (hj : j < m) (hm : m ≤ xs.length) : (begsTo xs m).getD j 0 = (begs xs).getD j 0 := by
  have := begsTo_take xs xs.length m hm
  rw [List.getD_eq_getElem?_getD, List.getD_eq_getElem?_getD, ← this, List.getElem?_take, if_pos hj]
  rfl
theorem begs_at (xs : List S47) (i : Nat) (hi : i < xs.length) : (begs xs).getD i 0 = beg1 (begsTo xs i) i (nd xs i).f1 := by
  rw [← begs_get xs (i + 1) i (by omega) (by omega), begsTo, List.getD_eq_getElem?_getD, List.getElem?_append_right (by rw [begsTo_length]; exact Nat.le_refl i), begsTo_length]
  simp
theorem ext_same (l l' : List Int) (hl : InR l) : ∀ (n : Nat) (b : Int), 0 ≤ b → b ≤ l.length → (∀ j : Nat, (j : Int) < b → l.getD j 0 = l'.getD j 0) → ext l n b = ext l' n b
  | 0, _, _, _, _ => rfl
  | n + 1, b, h0, h1, h => by
    simp only [ext]
    by_cases hb : 0 < b
    · have e := h (b - 1).toNat (by omega)
      rw [← e]
      have hr := hl (b - 1).toNat (by omega)
      by_cases hv : 0 ≤ l.getD (b - 1).toNat 0
      · rw [if_pos ⟨hb, hv⟩, if_pos ⟨hb, hv⟩]
        exact ext_same l l' hl n _ hv (by omega) (fun j hj => h j (by omega))
      · rw [if_neg (fun x => hv x.2), if_neg (fun x => hv x.2)]
    · rw [if_neg (fun x => hb x.1), if_neg (fun x => hb x.1)]
theorem begs_inR (xs : List S47) : InR (begs xs) := begsTo_inR xs _
theorem begs_length (xs : List S47) : (begs xs).length = xs.length := begsTo_length xs _
/-- A node with an extent has no more parts than nodes ahead; they lie in a row. -/
theorem begs_parts (xs : List S47) (i : Nat) (hi : i < xs.length) (h : 0 ≤ (begs xs).getD i 0) : 0 ≤ (nd xs i).f1 ∧ (nd xs i).f1 ≤ i ∧ ext (begs xs) (nd xs i).f1.toNat i = (begs xs).getD i 0 := by
  have hb := begs_at xs i hi
  have hl := begsTo_inR xs i
  have hlen := begsTo_length xs i
  by_cases hN : (nd xs i).f1 < 0
  · rw [hb, beg1, if_pos hN] at h; omega
  · rw [beg1, if_neg hN] at hb
    by_cases hN2 : (nd xs i).f1 ≤ i
    · refine ⟨by omega, hN2, ?_⟩
      rw [hb]
      exact (ext_same (begsTo xs i) (begs xs) hl _ _ (by omega) (by omega) (fun j hj => begs_get xs i j (by omega) (by omega))).symm
    · rw [hb, ext_many _ hl _ _ (by omega) (by omega) (by omega)] at h; omega
theorem ext_pos {l : List Int} {n : Nat} {b : Int} (h : 0 ≤ ext l (n + 1) b) : 0 < b ∧ 0 ≤ l.getD (b - 1).toNat 0 ∧ 0 ≤ ext l n (l.getD (b - 1).toNat 0) := by
  simp only [ext] at h
  split at h
  · rename_i hh; exact ⟨hh.1, hh.2, h⟩
  · omega

/-- The loop that fills the list from behind: k + 1 places are open, at b. -/
structure AtP (xs : List S47) (i n : Nat) (out : List Int) (b : Int) (k : Nat) : Prop where
  le : b ≤ i
  tail : ∃ t, out = List.replicate k 0 ++ t ∧ backs (begs xs) k b ++ t = backs (begs xs) n i
  pos : 0 ≤ ext (begs xs) k b
theorem AtP.length {xs : List S47} {i n : Nat} {out : List Int} {b : Int} {k : Nat} (h : AtP xs i n out b k) : out.length = n ∧ k ≤ n := by
  obtain ⟨t, h1, h2⟩ := h.tail
  have := congrArg List.length h2
  rw [List.length_append, backs_length, backs_length] at this
  rw [h1, List.length_append, List.length_replicate]
  omega
theorem AtP.begin {xs : List S47} {i : Nat} (hi : i < xs.length) (h : 0 ≤ (begs xs).getD i 0) : AtP xs i (nd xs i).f1.toNat (List.replicate (nd xs i).f1.toNat 0) i (nd xs i).f1.toNat :=
  ⟨by omega, ⟨[], by simp, by simp⟩, by rw [(begs_parts xs i hi h).2.2]; exact h⟩
theorem AtP.step {xs : List S47} {i n : Nat} {out : List Int} {b : Int} {k : Nat} (h : AtP xs i n out b (k + 1)) (hi : i < xs.length) :
    0 < b ∧ AtP xs i n (out.set k (b - 1)) ((begs xs).getD (b - 1).toNat 0) k := by
  obtain ⟨hb, hv, he⟩ := ext_pos h.pos
  obtain ⟨t, h1, h2⟩ := h.tail
  have hr := begs_inR xs (b - 1).toNat (by rw [begs_length]; have := h.le; omega)
  refine ⟨hb, by have := h.le; omega, ⟨(b - 1) :: t, ?_, ?_⟩, he⟩
  · rw [h1, List.replicate_succ', List.append_assoc, List.set_append_right _ _ (by simp)]
    simp
  · rw [← h2, backs, List.append_assoc]
    rfl
theorem AtP.done {xs : List S47} {i n : Nat} {out : List Int} {b : Int} (h : AtP xs i n out b 0) : out = backs (begs xs) n i := by
  obtain ⟨t, h1, h2⟩ := h.tail
  simp at h1
  simp only [backs, List.nil_append] at h2
  rw [h1, h2]

def OwnI (w w' : World) (l : List Int) (e : Ending) : Prop :=
  ∃ v, e = .returned v ∧ w'.ownsRow w.heap.size 3 1 v l.length (nums .i64 l) ∧ Below w.heap.size w w'
theorem OwnI.nil (w : World) {w' : World} (h : Below w.heap.size w w') : OwnI w w' [] (.returned (.slice none 0 0)) := ⟨_, rfl, World.ownsRow_nil _ _ _ _, h⟩
theorem own_of_blk {w : World} {g base : Nat} {l : List Int} (h : Blk w g 3 (nums .i64 l)) (hb : base ≤ g) (hm : l.length ≤ maxLen) : w.ownsRow base 3 1 (.slice (some ⟨g, 0, none⟩) l.length l.length) l.length (nums .i64 l) := by
  refine ⟨by simp [nums_length], .inr ⟨g, l.length, _, rfl, hb, h, Nat.le_refl _, hm, by simp [nums_length], ?_⟩⟩
  rw [List.toList_toArray, List.take_of_length_le (by simp [nums_length])]
/-- An int of a list that is read. -/
theorem int_at {w : World} {A : Option Addr} {l : List Int} {n : Nat} (h : Kd.C (Kd.int .i64) w A n l) (k : Nat) (hk : k < n) : ∃ ad, A = some ad ∧ w.cell? (ad.add k) = some (.int .i64 (l.getD k 0)) := by
  have := Kd.at_int h (k : Int) (by omega) (by omega)
  simpa only [Int.toNat_natCast, rd] using this
theorem C_of_own {w : World} {base : Nat} {v : Value} {l : List Int} (h : w.ownsRow base 3 1 v l.length (nums .i64 l)) : ∃ A c, v = .slice A l.length c ∧ l.length ≤ c ∧ Kd.C (Kd.int .i64) w A l.length l := by
  have hR : (Kd.int .i64).R 3 w base (fun _ => True) v l := Kd.R_of_own h (fun _ _ => trivial)
  exact Kd.R_reads hR

set_option maxRecDepth 100000 in
set_option maxHeartbeats 4000000 in
theorem parts.calls (A A1 : Option Addr) (c c1 m : Nat) (xs : List S47) (i : Int) (w : World) (hr : Kd.C k47 w A xs.length xs) (hl : Kd.C (Kd.int .i64) w A1 m (begsTo xs m)) (hm : m ≤ xs.length) (him : 0 ≤ i → i < xs.length → i < m) (hn : xs.length ≤ 4000000) :
    Calls Try.prog 42 #[.slice A xs.length c, .slice A1 m c1, .int .i64 i] w fun e w' => OwnI w w' (partsOf xs i) e := by
  have HR := Lib.hid hr; clear hr
  have HL := Lib.hid hl; clear hl
  have hnil : ∀ w' : World, Below w.heap.size w w' → (¬ 0 ≤ i ∨ ¬ i < xs.length ∨ 0 ≤ i ∧ i < xs.length ∧ ((begs xs).getD i.toNat 0 < 0 ∨ (nd xs i.toNat).f1 = 0)) → OwnI w w' (partsOf xs i) (.returned (.slice none 0 0)) := by
    intro w' hb h
    have : partsOf xs i = [] := by
      unfold partsOf
      split
      · rename_i hh
        rcases h with h | h | ⟨_, _, h | h⟩
        · exact absurd hh.1 h
        · exact absurd hh.2.1 h
        · omega
        · rw [h]; rfl
      · rfl
    rw [this]
    exact OwnI.nil w hb
  have HNIL := Lib.hid hnil; clear hnil
  by_cases h0 : i < 0
  · go_enter Try.func42, Try.ntmps42
    go_wp2
    go_ret
    exact HNIL.out _ (Below.refl _ _) (.inl (by omega))
  obtain ⟨n, rfl⟩ : ∃ n : Nat, i = n := ⟨i.toNat, by omega⟩
  clear h0
  by_cases h1 : n < xs.length
  case neg =>
    have h1' : ¬ (n : Int) < xs.length := by omega
    have hb1 : decide (xs.length ≤ n) = true := by simp; omega
    go_enter Try.func42, Try.ntmps42
    go_wp2
    go_ret
    exact HNIL.out _ (Below.refl _ _) (.inr (.inl h1'))
  have hnm : n < m := by have := him (by omega) (by omega); omega
  obtain ⟨a1, eA1, d1⟩ := int_at HL.out n hnm
  subst eA1
  rw [begs_get xs m n hnm hm] at d1
  obtain ⟨ad, eA, -, e1, -⟩ := node_at HR.out n h1
  subst eA
  by_cases h2 : (begs xs).getD n 0 < 0
  · have HV : Hid ((begs xs).getD n 0 < 0) := h2
    generalize (begs xs).getD n 0 = v at d1 h2
    go_enter Try.func42, Try.ntmps42
    go_wp2
    go_ret
    exact HNIL.out _ (Below.refl _ _) (.inr (.inr ⟨by omega, by omega, .inl HV.out⟩))
  have hpt := begs_parts xs n h1 (by omega)
  have HB : Hid (AtP xs n (nd xs n).f1.toNat (List.replicate (nd xs n).f1.toNat 0) n (nd xs n).f1.toNat) := AtP.begin h1 (by omega)
  have HP : Hid (partsOf xs n = backs (begs xs) (nd xs n).f1.toNat n) := by show _ = _; unfold partsOf; rw [if_pos ⟨by omega, by omega, by rw [Int.toNat_natCast]; omega⟩, Int.toNat_natCast]
  obtain ⟨p1, p2, -⟩ := hpt
  generalize (begs xs).getD n 0 = v at d1 h2
  have HNN : Hid ((nd xs n).f1 = 0 → partsOf xs n = []) := by intro h; rw [HP.out, h]; rfl
  generalize hNq : (nd xs n).f1 = N at *
  obtain ⟨q, rfl⟩ : ∃ q : Nat, N = q := ⟨N.toNat, by omega⟩
  clear hNq
  rw [Int.toNat_natCast] at HB HP
  by_cases hz : (q : Int) = 0
  · have hz1 : ((q : Int) == 0) = true := by simpa using hz
    have HZ := Lib.hid hz; clear hz
    go_enter Try.func42, Try.ntmps42
    go_wp2
    go_ret
    rw [HNN.out HZ.out]
    exact OwnI.nil w (Below.refl _ _)
  have hz1 : ((q : Int) == 0) = false := by simpa using hz
  clear hz
  go_enter Try.func42, Try.ntmps42
  go_wp2_with (first
    | (at_make; refine X.make rfl _ _ 36 rfl 3 (.int .i64 0) 1 8 Try.underlying36 info3 .i64 .i64 _ _ q rfl rfl rfl rfl (by omega) (by simp only [maxLen]; omega) ?_; intro w1 hb1 hg1; have HB1 := Lib.hid hb1; clear hb1; have HG1 := Lib.hid hg1; clear hg1)
    | fail)
  have HI : Hid (Blk w1 w.heap.size 3 (nums .i64 (List.replicate q 0)) ∧ Below w.heap.size w w1) := ⟨by have := HB1.out; rwa [made_ints] at this, (Below.refl _ _).grown HG1.out (Nat.le_refl _) (by simp)⟩
  clear HB1 HG1
  go_loopg [8, 9] q (fun k v8 v9 wr => ∃ (b : Int) (out : List Int), v8 = .int .i64 b ∧ v9 = .int .i64 ((k : Int) - 1) ∧ k ≤ q ∧ Hid (AtP xs n q out b k) ∧ Hid (Blk wr w.heap.size 3 (nums .i64 out) ∧ Below w.heap.size w wr))
  case atStart => exact ⟨n, _, rfl, by simp, Nat.le_refl _, HB, HI⟩
  clear HB HI d1 e1
  case round =>
    obtain ⟨b, out, rfl, rfl, hkq, HA, HI⟩ := hrel
    cases gk with
    | zero =>
      go_wp2
      go_ret
      have hd := HA.out.done
      have hlen := HA.out.length.1
      refine ⟨.slice (some ⟨w.heap.size, 0, none⟩) q q, rfl, ?_, HI.out.2⟩
      rw [HP.out, ← hd]
      have ho := own_of_blk HI.out.1 (Nat.le_refl _) (by simp only [maxLen]; omega)
      rwa [hlen] at ho ⊢
    | succ k =>
      obtain ⟨hb, hst⟩ := HA.out.step h1
      have hlen := HA.out.length.1
      have hble := HA.out.le
      obtain ⟨bm, rfl⟩ : ∃ bm : Nat, b = bm + 1 := ⟨(b - 1).toNat, by omega⟩
      rw [show ((bm : Int) + 1 - 1).toNat = bm by omega, show ((bm : Int) + 1 - 1) = bm by omega] at hst
      have HST := Lib.hid hst; clear hst HA
      have hgl := HI.out.1.cell k
      rw [List.getElem?_eq_getElem (by rw [nums, List.length_map]; omega)] at hgl
      generalize (nums .i64 out)[k]'(by rw [nums, List.length_map]; omega) = old at hgl
      have hfz := HI.out.1.frozen k
      have HJ : Hid (Blk (wr.setCell ⟨w.heap.size, k, none⟩ (.int .i64 bm)) w.heap.size 3 (nums .i64 (out.set k bm)) ∧ Below w.heap.size w (wr.setCell ⟨w.heap.size, k, none⟩ (.int .i64 bm))) := by
        refine ⟨?_, HI.out.2.setCell (Nat.le_refl _) _⟩
        have := HI.out.1.setCell k (.int .i64 bm)
        rwa [nums, ← List.map_set] at this
      clear HI
      obtain ⟨a1', eA1, d1⟩ := int_at (Kd.C_below HL.out HJ.out.2) bm (by omega)
      obtain rfl : a1 = a1' := Option.some.inj eA1
      clear eA1 hlen
      rw [begs_get xs m bm (by omega) hm] at d1
      have HST' := HST
      generalize (begs xs).getD bm 0 = v at d1 HST'
      clear HST
      go_wp2
      go_roundg k
      case measure => omega
      case rel => exact ⟨v, out.set k bm, rfl, by simp; try omega, by omega, HST', HJ⟩

set_option maxRecDepth 100000 in
set_option maxHeartbeats 4000000 in
theorem partsR.calls (A A1 : Option Addr) (c c1 m : Nat) (xs : List S47) (i : Int) (w : World) (hr : Kd.C k47 w A xs.length xs) (hl : Kd.C (Kd.int .i64) w A1 m (begsTo xs m)) (hm : m ≤ xs.length) (him : 0 ≤ i → i < xs.length → i < m) (hn : xs.length ≤ 4000000) :
    Calls Try.prog 44 #[.slice A xs.length c, .slice A1 m c1, .int .i64 i] w fun e w' => OwnI w w' (partsOf xs i) e := by
  have HR := Lib.hid hr; clear hr
  have HL := Lib.hid hl; clear hl
  have hnil : ∀ w' : World, Below w.heap.size w w' → (¬ 0 ≤ i ∨ ¬ i < xs.length ∨ 0 ≤ i ∧ i < xs.length ∧ ((begs xs).getD i.toNat 0 < 0 ∨ (nd xs i.toNat).f1 = 0)) → OwnI w w' (partsOf xs i) (.returned (.slice none 0 0)) := by
    intro w' hb h
    have : partsOf xs i = [] := by
      unfold partsOf
      split
      · rename_i hh
        rcases h with h | h | ⟨_, _, h | h⟩
        · exact absurd hh.1 h
        · exact absurd hh.2.1 h
        · omega
        · rw [h]; rfl
      · rfl
    rw [this]
    exact OwnI.nil w hb
  have HNIL := Lib.hid hnil; clear hnil
  by_cases h0 : i < 0
  · go_enter Try.func44, Try.ntmps44
    go_wp2
    go_ret
    exact HNIL.out _ (Below.refl _ _) (.inl (by omega))
  obtain ⟨n, rfl⟩ : ∃ n : Nat, i = n := ⟨i.toNat, by omega⟩
  clear h0
  by_cases h1 : n < xs.length
  case neg =>
    have h1' : ¬ (n : Int) < xs.length := by omega
    have hb1 : decide (xs.length ≤ n) = true := by simp; omega
    go_enter Try.func44, Try.ntmps44
    go_wp2
    go_ret
    exact HNIL.out _ (Below.refl _ _) (.inr (.inl h1'))
  have hnm : n < m := by have := him (by omega) (by omega); omega
  obtain ⟨a1, eA1, d1⟩ := int_at HL.out n hnm
  subst eA1
  rw [begs_get xs m n hnm hm] at d1
  obtain ⟨ad, eA, -, e1, -⟩ := node_at HR.out n h1
  subst eA
  by_cases h2 : (begs xs).getD n 0 < 0
  · have HV : Hid ((begs xs).getD n 0 < 0) := h2
    generalize (begs xs).getD n 0 = v at d1 h2
    go_enter Try.func44, Try.ntmps44
    go_wp2
    go_ret
    exact HNIL.out _ (Below.refl _ _) (.inr (.inr ⟨by omega, by omega, .inl HV.out⟩))
  have hpt := begs_parts xs n h1 (by omega)
  have HB : Hid (AtP xs n (nd xs n).f1.toNat (List.replicate (nd xs n).f1.toNat 0) n (nd xs n).f1.toNat) := AtP.begin h1 (by omega)
  have HP : Hid (partsOf xs n = backs (begs xs) (nd xs n).f1.toNat n) := by show _ = _; unfold partsOf; rw [if_pos ⟨by omega, by omega, by rw [Int.toNat_natCast]; omega⟩, Int.toNat_natCast]
  obtain ⟨p1, p2, -⟩ := hpt
  generalize (begs xs).getD n 0 = v at d1 h2
  have HNN : Hid ((nd xs n).f1 = 0 → partsOf xs n = []) := by intro h; rw [HP.out, h]; rfl
  generalize hNq : (nd xs n).f1 = N at *
  obtain ⟨q, rfl⟩ : ∃ q : Nat, N = q := ⟨N.toNat, by omega⟩
  clear hNq
  rw [Int.toNat_natCast] at HB HP

  go_enter Try.func44, Try.ntmps44
  go_wp2_with (first
    | (at_make; refine X.make rfl _ _ 36 rfl 3 (.int .i64 0) 1 8 Try.underlying36 info3 .i64 .i64 _ _ q rfl rfl rfl rfl (by omega) (by simp only [maxLen]; omega) ?_; intro w1 hb1 hg1; have HB1 := Lib.hid hb1; clear hb1; have HG1 := Lib.hid hg1; clear hg1; have e2 := (World.grownBy.cell HG1.out e1 (by simp)))
    | fail)
  have HI : Hid (Blk w1 w.heap.size 3 (nums .i64 (List.replicate q 0)) ∧ Below w.heap.size w w1) := ⟨by have := HB1.out; rwa [made_ints] at this, (Below.refl _ _).grown HG1.out (Nat.le_refl _) (by simp)⟩
  clear HB1 HG1 e2
  go_loopg [8, 9] q (fun k v8 v9 wr => ∃ (b : Int) (out : List Int), v8 = .int .i64 b ∧ v9 = .int .i64 ((k : Int) - 1) ∧ k ≤ q ∧ Hid (AtP xs n q out b k) ∧ Hid (Blk wr w.heap.size 3 (nums .i64 out) ∧ Below w.heap.size w wr))
  case atStart => exact ⟨n, _, rfl, by simp, Nat.le_refl _, HB, HI⟩
  clear HB HI d1 e1
  case round =>
    obtain ⟨b, out, rfl, rfl, hkq, HA, HI⟩ := hrel
    cases gk with
    | zero =>
      go_wp2
      go_ret
      have hd := HA.out.done
      have hlen := HA.out.length.1
      refine ⟨.slice (some ⟨w.heap.size, 0, none⟩) q q, rfl, ?_, HI.out.2⟩
      rw [HP.out, ← hd]
      have ho := own_of_blk HI.out.1 (Nat.le_refl _) (by simp only [maxLen]; omega)
      rwa [hlen] at ho ⊢
    | succ k =>
      obtain ⟨hb, hst⟩ := HA.out.step h1
      have hlen := HA.out.length.1
      have hble := HA.out.le
      obtain ⟨bm, rfl⟩ : ∃ bm : Nat, b = bm + 1 := ⟨(b - 1).toNat, by omega⟩
      rw [show ((bm : Int) + 1 - 1).toNat = bm by omega, show ((bm : Int) + 1 - 1) = bm by omega] at hst
      have HST := Lib.hid hst; clear hst HA
      have hgl := HI.out.1.cell k
      rw [List.getElem?_eq_getElem (by rw [nums, List.length_map]; omega)] at hgl
      generalize (nums .i64 out)[k]'(by rw [nums, List.length_map]; omega) = old at hgl
      have hfz := HI.out.1.frozen k
      have HJ : Hid (Blk (wr.setCell ⟨w.heap.size, k, none⟩ (.int .i64 bm)) w.heap.size 3 (nums .i64 (out.set k bm)) ∧ Below w.heap.size w (wr.setCell ⟨w.heap.size, k, none⟩ (.int .i64 bm))) := by
        refine ⟨?_, HI.out.2.setCell (Nat.le_refl _) _⟩
        have := HI.out.1.setCell k (.int .i64 bm)
        rwa [nums, ← List.map_set] at this
      clear HI
      obtain ⟨a1', eA1, d1⟩ := int_at (Kd.C_below HL.out HJ.out.2) bm (by omega)
      obtain rfl : a1 = a1' := Option.some.inj eA1
      clear eA1 hlen
      rw [begs_get xs m bm (by omega) hm] at d1
      have HST' := HST
      generalize (begs xs).getD bm 0 = v at d1 HST'
      clear HST
      go_wp2
      go_roundg k
      case measure => omega
      case rel => exact ⟨v, out.set k bm, rfl, by simp; try omega, by omega, HST', HJ⟩
end Go.Proofs.Ytmikgaphknbcaaa.B
/- script.Parts and dowelref06.Parts; script.tree; the comparisons of lists. -/
namespace Go.Proofs.Ytmikgaphknbcaaa.B
open Go Go.RowKit Go.X Go.Proofs.YtmikgaphknbcaaaW.PrintWords Go.Proofs.Ytmikgaphknbcaaa.F

theorem C_take {α : Type} {d : Kd α} {w : World} {A : Option Addr} {n : Nat} {xs : List α} (h : d.C w A n xs) (m : Nat) (hm : m ≤ n) : d.C w A m (xs.take m) := by
  obtain ⟨h1, h2, h3⟩ := h
  refine ⟨by rw [List.length_take, h1]; omega, by omega, fun h0 => ?_⟩
  obtain ⟨ad, e, hc⟩ := h3 (by omega)
  refine ⟨ad, e, fun j p hj => hc j p ?_⟩
  rw [List.getElem?_take] at hj
  split at hj
  · exact hj
  · cases hj
theorem nd_take (xs : List S47) (m j : Nat) (hj : j < m) : nd (xs.take m) j = nd xs j := by
  unfold nd
  rw [List.getD_eq_getElem?_getD, List.getD_eq_getElem?_getD, List.getElem?_take, if_pos hj]
theorem begsTo_of_take (xs : List S47) (m : Nat) : ∀ j, j ≤ m → begsTo (xs.take m) j = begsTo xs j
  | 0, _ => rfl
  | j + 1, h => by rw [begsTo, begsTo, begsTo_of_take xs m j (by omega), nd_take xs m j (by omega)]
theorem begs_take (xs : List S47) (m : Nat) (hm : m ≤ xs.length) : begs (xs.take m) = begsTo xs m := by
  unfold begs
  rw [List.length_take, Nat.min_eq_left hm, begsTo_of_take xs m m (Nat.le_refl _)]
theorem OwnInts.C {w' : World} {l : List Int} {g : Nat} (h : Blk w' g 3 (nums .i64 l)) (hm : l.length ≤ maxLen) : Kd.C (Kd.int .i64) w' (some ⟨g, 0, none⟩) l.length l := by
  obtain ⟨A, c, e, _, hC⟩ := C_of_own (own_of_blk (base := 0) h (Nat.zero_le _) hm)
  simp at e
  rw [← e.1] at hC
  exact hC
theorem OwnI.after {w w1 w2 : World} {l : List Int} {e : Ending} (hb : Below w.heap.size w w1) (h : OwnI w1 w2 l e) : OwnI w w2 l e := by
  obtain ⟨v, he, ho, hb2⟩ := h
  exact ⟨v, he, own_weaken ho hb.size, hb.trans (hb2.mono hb.size)⟩
/-- The same contracts, the length a letter of its own. -/
theorem begins.callsN (A : Option Addr) (c n : Nat) (xs : List S47) (w : World) (hl : xs.length = n) (hr : Kd.C k47 w A n xs) (hn : n ≤ 4000000) :
    Calls Try.prog 43 #[.slice A n c] w fun e w' => OwnInts w w' (begs xs) e := by
  subst hl; exact begins.calls A c xs w hr hn
theorem Begins.callsN (A : Option Addr) (c n : Nat) (xs : List S47) (w : World) (hl : xs.length = n) (hr : Kd.C k47 w A n xs) (hn : n ≤ 4000000) :
    Calls Try.prog 45 #[.slice A n c] w fun e w' => OwnInts w w' (begs xs) e := by
  subst hl; exact Begins.calls A c xs w hr hn

set_option maxRecDepth 100000 in
set_option maxHeartbeats 4000000 in
theorem Parts.calls (A : Option Addr) (c : Nat) (xs : List S47) (i : Int) (w : World) (hr : Kd.C k47 w A xs.length xs) (hn : xs.length ≤ 4000000) (hc : xs.length ≤ c) :
    Calls Try.prog 21 #[.slice A xs.length c, .int .i64 i] w fun e w' => OwnI w w' (partsOf xs i) e := by
  have HR := Lib.hid hr; clear hr
  by_cases h0 : i < 0
  · have HN : Hid (partsOf xs i = []) := by show _ = _; unfold partsOf; rw [if_neg (by omega)]
    go_enter Try.func21, Try.ntmps21
    go_wp2
    go_ret
    rw [HN.out]; exact OwnI.nil w (Below.refl _ _)
  obtain ⟨n, rfl⟩ : ∃ n : Nat, i = n := ⟨i.toNat, by omega⟩
  by_cases h1 : n < xs.length
  · have hb1 : decide (xs.length ≤ n) = false := by simp; omega
    go_enter Try.func21, Try.ntmps21
    go_wp2_with (fail)
    refine (begins.callsN A c (n + 1) (xs.take (n + 1)) w (by rw [List.length_take]; omega) (C_take HR.out (n + 1) (by omega)) (by omega)).mono ?_
    rintro e w1 ⟨g, rfl, hb, hg, hbel⟩
    rw [begs_take xs (n + 1) (by omega)] at hb ⊢
    have HL : Hid (Kd.C (Kd.int .i64) w1 (some ⟨g, 0, none⟩) (n + 1) (begsTo xs (n + 1))) := by
      have := OwnInts.C hb (by rw [begsTo_length]; simp only [maxLen]; omega)
      rwa [begsTo_length] at this
    rw [begsTo_length]
    have HB := Lib.hid hbel; clear hbel hb hg
    dsimp only
    go_wp2_with (fail)
    refine (parts.calls A (some ⟨g, 0, none⟩) c (n + 1) (n + 1) xs n w1 (Kd.C_below HR.out HB.out) HL.out (by omega) (by omega) hn).mono ?_
    rintro e w2 ho
    have HO := Lib.hid (ho.after HB.out); clear ho
    obtain ⟨v, rfl, ho, hb2⟩ := HO.out
    have HO2 := Lib.hid ho; have HB2 := Lib.hid hb2; clear ho hb2 HO
    dsimp only
    go_wp2
    go_ret
    exact ⟨v, rfl, HO2.out, HB2.out⟩
  · have HN : Hid (partsOf xs n = []) := by show _ = _; unfold partsOf; rw [if_neg (by omega)]
    have hb1 : decide (xs.length ≤ n) = true := by simp; omega
    go_enter Try.func21, Try.ntmps21
    go_wp2
    go_ret
    rw [HN.out]; exact OwnI.nil w (Below.refl _ _)

set_option maxRecDepth 100000 in
set_option maxHeartbeats 4000000 in
theorem PartsR.calls (A : Option Addr) (c : Nat) (xs : List S47) (i : Int) (w : World) (hr : Kd.C k47 w A xs.length xs) (hn : xs.length ≤ 4000000) :
    Calls Try.prog 22 #[.slice A xs.length c, .int .i64 i] w fun e w' => OwnI w w' (partsOf xs i) e := by
  have HR := Lib.hid hr; clear hr
  go_enter Try.func22, Try.ntmps22
  go_wp2_with (fail)
  refine (Begins.callsN A c xs.length xs w rfl HR.out hn).mono ?_
  rintro e w1 ⟨g, rfl, hb, hg, hbel⟩
  have HL : Hid (Kd.C (Kd.int .i64) w1 (some ⟨g, 0, none⟩) xs.length (begsTo xs xs.length)) := by
    have := OwnInts.C hb (by rw [begs_length]; simp only [maxLen]; omega)
    rwa [begs_length] at this
  rw [begs_length]
  have HB := Lib.hid hbel; clear hbel hb hg
  dsimp only
  go_wp2_with (fail)
  refine (partsR.calls A (some ⟨g, 0, none⟩) c xs.length xs.length xs i w1 (Kd.C_below HR.out HB.out) HL.out (Nat.le_refl _) (fun _ h => h) hn).mono ?_
  rintro e w2 ho
  have HO := Lib.hid (ho.after HB.out); clear ho
  obtain ⟨v, rfl, ho, hb2⟩ := HO.out
  have HO2 := Lib.hid ho; have HB2 := Lib.hid hb2; clear ho hb2 HO
  dsimp only
  go_wp2
  go_ret
  exact ⟨v, rfl, HO2.out, HB2.out⟩

def isTree (xs : List S47) : Bool := decide (0 < xs.length ∧ (begs xs).getD (xs.length - 1) 0 = 0)
set_option maxRecDepth 100000 in
set_option maxHeartbeats 4000000 in
theorem tree.calls (A A1 : Option Addr) (c c1 : Nat) (xs : List S47) (w : World) (hl : Kd.C (Kd.int .i64) w A1 xs.length (begs xs)) (hn : xs.length ≤ 4000000) :
    Calls Try.prog 46 #[.slice A xs.length c, .slice A1 xs.length c1] w fun e w' => e = .returned (.bool (isTree xs)) ∧ w = w' := by
  have HL := Lib.hid hl; clear hl
  by_cases h0 : 0 < xs.length
  · obtain ⟨ad, eA, d1⟩ := int_at HL.out (xs.length - 1) (by omega)
    subst eA
    obtain ⟨m, hm⟩ : ∃ m, xs.length = m + 1 := ⟨xs.length - 1, by omega⟩
    have HT : Hid (isTree xs = ((begs xs).getD (xs.length - 1) 0 == 0)) := by
      show _ = _
      unfold isTree
      rw [Bool.eq_iff_iff]
      simp [h0]
    rw [hm] at d1 HT ⊢
    simp only [Nat.add_sub_cancel] at d1 HT
    have HM := Lib.hid hm; clear hm HL
    generalize (begs xs).getD m 0 = v at d1 HT
    have hm4 : m + 1 ≤ 4000000 := by have := HM.out; omega
    clear h0 hn
    go_enter Try.func46, Try.ntmps46
    go_wp2
    all_goals
      go_ret
      exact ⟨by rw [HT.out]; simp [*], rfl⟩
  · have HT : Hid (isTree xs = false) := by show _ = _; unfold isTree; simp; omega
    have h1 : decide (0 < xs.length) = false := by simpa using h0
    go_enter Try.func46, Try.ntmps46
    go_wp2
    go_ret
    exact ⟨by rw [HT.out]; rfl, rfl⟩

set_option maxRecDepth 100000 in
set_option maxHeartbeats 4000000 in
theorem Ints.calls (A A1 : Option Addr) (c c1 n : Nat) (xs ys : List Int) (w : World) (hx : Kd.C (Kd.int .i64) w A n xs) (hy : Kd.C (Kd.int .i64) w A1 n ys) (he : xs = ys) (hn : n ≤ 4000000) :
    Calls Try.prog 23 #[.slice A n c, .slice A1 n c1] w fun e w' => e = .returned (.bool true) ∧ ∃ q, w' = w.drewN q := by
  subst he
  have HX := Lib.hid hx; clear hx
  have HY := Lib.hid hy; clear hy
  go_enter Try.func23, Try.ntmps23
  go_wp2
  go_loopg [5] n (fun q v wr => ∃ k : Nat, q + k = n ∧ v = .int .i64 k ∧ Hid (∃ q, wr = w.drewN q))
  case atStart => exact ⟨0, by simp, rfl, 0, rfl⟩
  case round =>
    obtain ⟨k, hk, rfl, HW⟩ := hrel
    obtain ⟨qw, hw⟩ := HW.out
    subst hw
    clear HW
    by_cases hlt : k < n
    · obtain ⟨ad, eA, d1⟩ := int_at HX.out k hlt
      obtain ⟨ad', eA', d2⟩ := int_at HY.out k hlt
      subst eA
      subst eA'
      generalize xs.getD k 0 = v at d1 d2
      go_wp2
      go_quiet (fail)
      go_wp2
      go_roundg (n - (k + 1))
      case measure => omega
      case rel => exact ⟨k + 1, by omega, by go_num, ⟨_, rfl⟩⟩
    · go_wp2
      go_ret
      exact ⟨rfl, qw, rfl⟩

attribute [local go_sem high] eqA47
set_option maxRecDepth 100000 in
set_option maxHeartbeats 4000000 in
theorem Nodes.calls (A A1 : Option Addr) (c c1 : Nat) (xs : List S47) (w : World) (hx : Kd.C k47 w A xs.length xs) (hy : Kd.C k47 w A1 xs.length xs) (hn : xs.length ≤ 4000000) :
    Calls Try.prog 26 #[.slice A xs.length c, .slice A1 xs.length c1] w fun e w' => e = .returned (.bool true) ∧ ∃ q, w' = w.drewN q := by
  have HX := Lib.hid hx; clear hx
  have HY := Lib.hid hy; clear hy
  go_enter Try.func26, Try.ntmps26
  go_wp2
  go_loopg [5] xs.length (fun q v wr => ∃ k : Nat, q + k = xs.length ∧ v = .int .i64 k ∧ Hid (∃ q, wr = w.drewN q))
  case atStart => exact ⟨0, by simp, rfl, 0, rfl⟩
  case round =>
    obtain ⟨k, hk, rfl, HW⟩ := hrel
    obtain ⟨qw, hw⟩ := HW.out
    subst hw
    clear HW
    by_cases hlt : k < xs.length
    · obtain ⟨ad, eA, c0, c1, c2, c3, c4, c5, c6, c7, c8, c9⟩ := node_at HX.out k hlt
      obtain ⟨ad', eA', d0, d1, d2, d3, d4, d5, d6, d7, d8, d9⟩ := node_at HY.out k hlt
      subst eA
      subst eA'
      go_wp2
      go_quiet (fail)
      go_wp2
      go_roundg (xs.length - (k + 1))
      case measure => omega
      case rel => exact ⟨k + 1, by omega, by go_num, ⟨_, rfl⟩⟩
    · go_wp2
      go_ret
      exact ⟨rfl, qw, rfl⟩
end Go.Proofs.Ytmikgaphknbcaaa.B
