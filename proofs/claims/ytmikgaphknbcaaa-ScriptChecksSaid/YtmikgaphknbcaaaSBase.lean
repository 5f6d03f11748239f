/- Plain facts on extents of nodes (script.begins and its like), and an element of a row of nodes. -/
import Derived.Test.YtmikgaphknbcaaaXApp
import Derived.Test.YtmikgaphknbcaaaFx0
namespace Go.Proofs.Ytmikgaphknbcaaa.B
open Go Go.RowKit Go.X Go.Proofs.YtmikgaphknbcaaaW.PrintWords Go.Proofs.Ytmikgaphknbcaaa.F

/-- From place b go back over n extents; -1: there are not so many. -/
def ext (l : List Int) : Nat → Int → Int
  | 0, b => b
  | n + 1, b => if 0 < b ∧ 0 ≤ l.getD (b - 1).toNat 0 then ext l n (l.getD (b - 1).toNat 0) else -1
def beg1 (l : List Int) (i : Nat) (N : Int) : Int := if N < 0 then -1 else ext l N.toNat i
def nd (xs : List S47) (i : Nat) : S47 := xs.getD i z47
def begsTo (xs : List S47) : Nat → List Int
  | 0 => []
  | i + 1 => begsTo xs i ++ [beg1 (begsTo xs i) i (nd xs i).f1]
def begs (xs : List S47) : List Int := begsTo xs xs.length

theorem begsTo_length (xs : List S47) (i : Nat) : (begsTo xs i).length = i := by induction i <;> simp_all [begsTo]
def InR (l : List Int) : Prop := ∀ j : Nat, j < l.length → -1 ≤ l.getD j 0 ∧ l.getD j 0 ≤ j

theorem ext_range (l : List Int) (hl : InR l) : ∀ (n : Nat) (b : Int), 0 ≤ b → b ≤ l.length → -1 ≤ ext l n b ∧ ext l n b ≤ b
  | 0, b, h0, _ => ⟨by simp only [ext]; omega, by simp only [ext]; omega⟩
  | n + 1, b, h0, h1 => by
    simp only [ext]
    split
    · rename_i h
      have := hl (b - 1).toNat (by omega)
      have ih := ext_range l hl n _ h.2 (by omega)
      omega
    · omega
theorem ext_many (l : List Int) (hl : InR l) : ∀ (n : Nat) (b : Int), 0 ≤ b → b ≤ l.length → b < n → ext l n b = -1
  | 0, b, h0, _, h => by omega
  | n + 1, b, h0, h1, h => by
    simp only [ext]
    split
    · rename_i hh
      have := hl (b - 1).toNat (by omega)
      exact ext_many l hl n _ hh.2 (by omega) (by omega)
    · rfl
theorem beg1_range (l : List Int) (hl : InR l) (N : Int) : -1 ≤ beg1 l l.length N ∧ beg1 l l.length N ≤ l.length := by
  unfold beg1
  split
  · omega
  · exact ext_range l hl _ _ (by omega) (by omega)
theorem begsTo_inR (xs : List S47) (i : Nat) : InR (begsTo xs i) := by
  induction i with
  | zero => intro j hj; simp [begsTo] at hj
  | succ i ih =>
    intro j hj
    simp only [begsTo, List.length_append, List.length_singleton, begsTo_length] at hj
    have hlen := begsTo_length xs i
    have hb := beg1_range (begsTo xs i) ih (nd xs i).f1
    rw [hlen] at hb
    by_cases h : j < i
    · have := ih j (by omega)
      simpa [begsTo, List.getD_eq_getElem?_getD, List.getElem?_append, hlen, h] using this
    · obtain rfl : j = i := by omega
      simpa [begsTo, List.getD_eq_getElem?_getD, List.getElem?_append, hlen] using hb
theorem begsTo_take (xs : List S47) : ∀ (n i : Nat), i ≤ n → (begsTo xs n).take i = begsTo xs i
  | 0, i, h => by obtain rfl : i = 0 := by omega
                  rfl
  | n + 1, i, h => by
    by_cases hi : i = n + 1
    · subst hi; rw [List.take_of_length_le (by rw [begsTo_length]; omega)]
    · rw [begsTo, List.take_append_of_le_length (by rw [begsTo_length]; omega)]
      exact begsTo_take xs n i (by omega)
/-- The list that the loop fills: what is known, and noughts. -/
def part (xs : List S47) (n i : Nat) : List Int := begsTo xs i ++ List.replicate (n - i) 0
theorem part_length (xs : List S47) (n i : Nat) (h : i ≤ n) : (part xs n i).length = n := by simp [part, begsTo_length]; omega
theorem part_get (xs : List S47) (n i j : Nat) (h : j < i) : (part xs n i)[j]? = (begsTo xs i)[j]? := by
  rw [part, List.getElem?_append_left (by rw [begsTo_length]; exact h)]
theorem part_set (xs : List S47) (n i : Nat) (h : i < n) : (part xs n i).set i (beg1 (begsTo xs i) i (nd xs i).f1) = part xs n (i + 1) := by
  obtain ⟨m, hm⟩ : ∃ m, n - i = m + 1 := ⟨n - i - 1, by omega⟩
  rw [part, part, hm, List.replicate_succ, List.set_append_right _ _ (by rw [begsTo_length]; exact Nat.le_refl i), begsTo_length, Nat.sub_self, List.set_cons_zero, begsTo, List.append_assoc, show n - (i + 1) = m by omega]
  rfl
theorem part_all (xs : List S47) : part xs xs.length xs.length = begs xs := by simp [part, begs]

/-- The inner loop of script.begins: at (of the node i with N parts), after k rounds. -/
def AtI (l : List Int) (i : Nat) (N at_ k : Int) : Prop :=
  (0 < at_ ∧ at_ ≤ i ∧ 0 ≤ k ∧ k ≤ N ∧ N ≤ i ∧ ext l (N - k).toNat at_ = beg1 l i N) ∨ (at_ ≤ 0 ∧ -1 ≤ at_ ∧ at_ = beg1 l i N ∧ (at_ = 0 → 0 < i ∨ N ≤ 0))
theorem AtI.begin_neg {l : List Int} {i : Nat} {N : Int} (hl : InR l) (hlen : l.length = i) (h : N < 0 ∨ N > i) : AtI l i N (-1) 0 := by
  refine .inr ⟨by omega, by omega, ?_, by omega⟩
  unfold beg1
  split
  · rfl
  · rw [ext_many l hl _ _ (by omega) (by omega) (by omega)]
theorem AtI.begin_pos {l : List Int} {i : Nat} {N : Int} (h0 : 0 ≤ N) (h1 : N ≤ i) : AtI l i N i 0 := by
  by_cases hi : i = 0
  · subst hi
    obtain rfl : N = 0 := by simpa using Int.le_antisymm h1 h0
    exact .inr ⟨by omega, by omega, by simp [beg1, ext], by omega⟩
  · exact .inl ⟨by omega, by omega, by omega, by omega, by omega, by unfold beg1; rw [if_neg (by omega), Int.sub_zero]⟩
theorem AtI.step {l : List Int} {i : Nat} {N at_ k v : Int} (h : AtI l i N at_ k) (hl : InR l) (hlen : l.length = i) (hp : 0 < at_) (hk : k < N) (hv : l.getD (at_ - 1).toNat 0 = v) :
    (v = 0 → k < N - 1 → AtI l i N (-1) (k + 1)) ∧ (¬ (v = 0 ∧ k < N - 1) → AtI l i N v (k + 1)) ∧ v < i := by
  rcases h with ⟨_, h1, h2, h3, hNi, h4⟩ | ⟨h1, _⟩
  · obtain ⟨m, hm⟩ : ∃ m, (N - k).toNat = m + 1 := ⟨(N - k).toNat - 1, by omega⟩
    rw [hm] at h4
    simp only [ext, hv] at h4
    have hr := hl (at_ - 1).toNat (by omega)
    rw [hv] at hr
    refine ⟨fun h0 hk1 => ?_, fun hne => ?_, by omega⟩
    · subst h0
      rw [if_pos ⟨hp, Int.le_refl 0⟩] at h4
      obtain ⟨m', hm'⟩ : ∃ m', m = m' + 1 := ⟨m - 1, by omega⟩
      rw [hm'] at h4
      simp only [ext] at h4
      rw [if_neg (by omega)] at h4
      exact .inr ⟨by omega, by omega, h4, by omega⟩
    · by_cases hv0 : 0 ≤ v
      · rw [if_pos ⟨hp, hv0⟩] at h4
        by_cases hv1 : v = 0
        · obtain rfl : m = 0 := by omega
          simp only [ext] at h4
          exact .inr ⟨by omega, by omega, h4, by omega⟩
        · exact .inl ⟨by omega, by omega, by omega, by omega, by omega, by rw [show (N - (k + 1)).toNat = m by omega]; exact h4⟩
      · rw [if_neg (by omega)] at h4
        exact .inr ⟨by omega, by omega, by omega, by omega⟩
  · omega
theorem AtI.done {l : List Int} {i : Nat} {N at_ k : Int} (h : AtI l i N at_ k) (hx : ¬ (k < N ∧ 0 < at_)) : at_ = beg1 l i N ∧ (at_ = 0 → 0 < i ∨ N ≤ 0) := by
  rcases h with ⟨h0, h1, h2, h3, _, h4⟩ | ⟨h1, _, h2, h3⟩
  · obtain rfl : k = N := by omega
    rw [show (k - k).toNat = 0 by omega] at h4
    exact ⟨h4, by omega⟩
  · exact ⟨h2, h3⟩

def nodeCells (x : S47) : List Value := [.int .i64 x.f0, .int .i64 x.f1, .string x.f2, .bool x.f3, .int .u64 x.f4.f0, .int .u64 x.f4.f1, .int .u64 x.f4.f2, .int .u64 x.f4.f3, .int .i64 x.f5, .int .i64 x.f6]
theorem nodeCells_one (x : S47) : ∀ u ∈ (nodeCells x).toArray.toList, u.oneCell' = true := by
  intro u hu
  simp [nodeCells] at hu
  rcases hu with rfl | rfl | rfl | rfl | rfl | rfl | rfl | rfl | rfl | rfl <;> rfl
theorem nodeCells_k (w : World) (x : S47) : k47.K w x (nodeCells x) := k47_mk w x
theorem k47_cells {w : World} {x : S47} {cs : List Value} (h : k47.K w x cs) : cs = nodeCells x := k47_open h
/-- An element of a row of nodes that is read. -/
theorem node_at {w : World} {A : Option Addr} {xs : List S47} (h : Kd.C k47 w A xs.length xs) (k : Nat) (hk : k < xs.length) :
    ∃ ad, A = some ad ∧ w.cell? (ad.add (k * 10)) = some (.int .i64 (nd xs k).f0) ∧ w.cell? ⟨(ad.add (k * 10)).block, (ad.add (k * 10)).off + 1, none⟩ = some (.int .i64 (nd xs k).f1) ∧
      w.cell? ⟨(ad.add (k * 10)).block, (ad.add (k * 10)).off + 2, none⟩ = some (.string (nd xs k).f2) ∧ w.cell? ⟨(ad.add (k * 10)).block, (ad.add (k * 10)).off + 3, none⟩ = some (.bool (nd xs k).f3) ∧
      w.cell? ⟨(ad.add (k * 10)).block, (ad.add (k * 10)).off + 4, none⟩ = some (.int .u64 (nd xs k).f4.f0) ∧ w.cell? ⟨(ad.add (k * 10)).block, (ad.add (k * 10)).off + 5, none⟩ = some (.int .u64 (nd xs k).f4.f1) ∧
      w.cell? ⟨(ad.add (k * 10)).block, (ad.add (k * 10)).off + 6, none⟩ = some (.int .u64 (nd xs k).f4.f2) ∧ w.cell? ⟨(ad.add (k * 10)).block, (ad.add (k * 10)).off + 7, none⟩ = some (.int .u64 (nd xs k).f4.f3) ∧
      w.cell? ⟨(ad.add (k * 10)).block, (ad.add (k * 10)).off + 8, none⟩ = some (.int .i64 (nd xs k).f5) ∧ w.cell? ⟨(ad.add (k * 10)).block, (ad.add (k * 10)).off + 9, none⟩ = some (.int .i64 (nd xs k).f6) := by
  have := at_T47 h (k : Int) (by omega) (by omega)
  simpa only [Int.toNat_natCast, rd_T47, nd] using this
end Go.Proofs.Ytmikgaphknbcaaa.B
