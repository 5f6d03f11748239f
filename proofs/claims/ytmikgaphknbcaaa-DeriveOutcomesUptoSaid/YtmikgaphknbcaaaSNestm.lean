/- Nests of expressions: plain facts. -/
import Derived.Test.YtmikgaphknbcaaaMD
namespace Go.Proofs.Ytmikgaphknbcaaa.B
open Go Go.RowKit Go.X Go.Proofs.YtmikgaphknbcaaaW.PrintWords Go.Proofs.Ytmikgaphknbcaaa.F

def mostOf (d : List Int) (ps : List Int) (m : Int) : Int := ps.foldl (fun m p => max m (d.getD p.toNat 0)) m
def deepOf (xs : List S47) (d : List Int) (i : Nat) : Int := mostOf d (partsOf xs i) 0 + 1
def deepTo (xs : List S47) : Nat → List Int
  | 0 => []
  | i + 1 => deepTo xs i ++ [deepOf xs (deepTo xs i) i]
def nestOf (xs : List S47) : Int := if isTree xs then (deepTo xs xs.length).getD (xs.length - 1) 0 else 0

theorem deepTo_length (xs : List S47) (i : Nat) : (deepTo xs i).length = i := by induction i <;> simp_all [deepTo]
theorem deepTo_take (xs : List S47) : ∀ (n i : Nat), i ≤ n → (deepTo xs n).take i = deepTo xs i
  | 0, i, h => by obtain rfl : i = 0 := by omega
                  rfl
  | n + 1, i, h => by
    by_cases hi : i = n + 1
    · subst hi; rw [List.take_of_length_le (by rw [deepTo_length]; omega)]
    · rw [deepTo, List.take_append_of_le_length (by rw [deepTo_length]; omega)]
      exact deepTo_take xs n i (by omega)
theorem deep_get (xs : List S47) (m n j : Nat) (hj : j < m) (hm : m ≤ n) : (deepTo xs m).getD j 0 = (deepTo xs n).getD j 0 := by
  have := deepTo_take xs n m hm
  rw [List.getD_eq_getElem?_getD, List.getD_eq_getElem?_getD, ← this, List.getElem?_take, if_pos hj]
theorem deep_at (xs : List S47) (i : Nat) : (deepTo xs (i + 1)).getD i 0 = deepOf xs (deepTo xs i) i := by
  rw [deepTo, List.getD_eq_getElem?_getD, List.getElem?_append_right (by rw [deepTo_length]; exact Nat.le_refl i), deepTo_length]
  simp
theorem mostOf_le (d : List Int) : ∀ (ps : List Int) (m : Int), m ≤ mostOf d ps m
  | [], m => Int.le_refl m
  | p :: ps, m => Int.le_trans (by simp only [Int.le_max_left]) (mostOf_le d ps (max m (d.getD p.toNat 0)))
theorem mostOf_mem (d : List Int) : ∀ (ps : List Int) (m p : Int), p ∈ ps → d.getD p.toNat 0 ≤ mostOf d ps m
  | q :: ps, m, p, h => by
    rcases List.mem_cons.1 h with rfl | h
    · exact Int.le_trans (Int.le_max_right _ _) (mostOf_le d ps _)
    · exact mostOf_mem d ps _ p h
theorem mostOf_bound (d : List Int) (B : Int) : ∀ (ps : List Int) (m : Int), m ≤ B → (∀ p ∈ ps, d.getD p.toNat 0 ≤ B) → mostOf d ps m ≤ B
  | [], _, h, _ => h
  | p :: ps, m, h, hp => mostOf_bound d B ps _ (Int.max_le.2 ⟨h, hp p (by simp)⟩) (fun q hq => hp q (by simp [hq]))

theorem backs_mem {l : List Int} (hl : InR l) : ∀ (n : Nat) (b : Int), 0 ≤ b → b ≤ l.length → 0 ≤ ext l n b → ∀ p ∈ backs l n b, 0 ≤ p ∧ p < b ∧ 0 ≤ l.getD p.toNat 0
  | 0, _, _, _, _, p, hp => by cases hp
  | n + 1, b, h0, h1, he, p, hp => by
    obtain ⟨hb, hv, he'⟩ := ext_pos he
    have hr := hl (b - 1).toNat (by omega)
    rw [backs, List.mem_append, List.mem_singleton] at hp
    rcases hp with hp | rfl
    · have := backs_mem hl n _ hv (by omega) he' p hp
      omega
    · exact ⟨by omega, by omega, hv⟩
theorem backs_tile {l : List Int} (hl : InR l) : ∀ (n : Nat) (b j : Int), 0 ≤ b → b ≤ l.length → 0 ≤ ext l n b → ext l n b ≤ j → j < b → ∃ p ∈ backs l n b, 0 ≤ p ∧ l.getD p.toNat 0 ≤ j ∧ j ≤ p ∧ 0 ≤ l.getD p.toNat 0
  | 0, b, j, _, _, _, h2, h3 => by simp only [ext] at h2; omega
  | n + 1, b, j, h0, h1, he, h2, h3 => by
    obtain ⟨hb, hv, he'⟩ := ext_pos he
    have hr := hl (b - 1).toNat (by omega)
    have hext : ext l (n + 1) b = ext l n (l.getD (b - 1).toNat 0) := by simp only [ext]; rw [if_pos ⟨hb, hv⟩]
    by_cases hj : l.getD (b - 1).toNat 0 ≤ j
    · exact ⟨b - 1, by simp [backs], by omega, hj, by omega, hv⟩
    · obtain ⟨p, hp, h⟩ := backs_tile hl n _ j hv (by omega) he' (by rw [← hext]; exact h2) (by omega)
      exact ⟨p, List.mem_append_left _ hp, h⟩
theorem parts_mem (xs : List S47) (i : Nat) (hi : i < xs.length) : ∀ p ∈ partsOf xs i, 0 ≤ p ∧ p < i := by
  intro p hp
  unfold partsOf at hp
  split at hp
  · rename_i h
    rw [Int.toNat_natCast] at h hp
    have hb := begs_parts xs i hi h.2.2
    have := backs_mem (begs_inR xs) _ _ (by omega) (by rw [begs_length]; omega) (by rw [hb.2.2]; exact h.2.2) p hp
    omega
  · cases hp
theorem parts_tile (xs : List S47) (i j : Nat) (hi : i < xs.length) (h0 : 0 ≤ (begs xs).getD i 0) (h1 : (begs xs).getD i 0 ≤ j) (hj : j < i) :
    ∃ p : Nat, (p : Int) ∈ partsOf xs i ∧ (begs xs).getD p 0 ≤ j ∧ j ≤ p ∧ 0 ≤ (begs xs).getD p 0 := by
  have hb := begs_parts xs i hi h0
  obtain ⟨p, hp, h2, h3, h4, h5⟩ := backs_tile (begs_inR xs) (nd xs i).f1.toNat i j (by omega) (by rw [begs_length]; omega) (by rw [hb.2.2]; exact h0) (by rw [hb.2.2]; exact h1) (by omega)
  refine ⟨p.toNat, ?_, h3, by omega, h5⟩
  rw [Int.toNat_of_nonneg h2]
  unfold partsOf
  rw [if_pos ⟨by omega, by omega, by rw [Int.toNat_natCast]; exact h0⟩, Int.toNat_natCast]
  exact hp
theorem deep_range (xs : List S47) : ∀ n, n ≤ xs.length → ∀ j, j < n → 1 ≤ (deepTo xs n).getD j 0 ∧ (deepTo xs n).getD j 0 ≤ j + 1
  | 0, _, j, h => by omega
  | n + 1, hn, j, h => by
    have ih := deep_range xs n (by omega)
    by_cases hj : j < n
    · rw [← deep_get xs n (n + 1) j hj (by omega)]
      exact ih j hj
    · obtain rfl : j = n := by omega
      rw [deep_at, deepOf]
      have h1 := mostOf_le (deepTo xs j) (partsOf xs j) 0
      have h2 := mostOf_bound (deepTo xs j) j (partsOf xs j) 0 (by omega) (fun p hp => by
        have hm := parts_mem xs j (by omega) p hp
        have := ih p.toNat (by omega)
        omega)
      omega
/-- Within an extent nothing is deeper than the node that ends it. -/
theorem deep_within (xs : List S47) (i : Nat) : i < xs.length → 0 ≤ (begs xs).getD i 0 → ∀ j, (begs xs).getD i 0 ≤ (j : Nat) → j ≤ i → (deepTo xs xs.length).getD j 0 ≤ (deepTo xs xs.length).getD i 0 := by
  induction i using Nat.strongRecOn with
  | _ i ih =>
    intro hi h0 j h1 hj
    by_cases hji : j = i
    · subst hji; exact Int.le_refl _
    · obtain ⟨p, hp, h2, h3, h4⟩ := parts_tile xs i j hi h0 h1 (by omega)
      have hm := parts_mem xs i hi p hp
      have h5 := ih p (by omega) (by omega) h4 j h2 h3
      have h6 := mostOf_mem (deepTo xs i) (partsOf xs i) 0 p hp
      rw [Int.toNat_natCast, deep_get xs i xs.length p (by omega) (by omega)] at h6
      have h7 := deep_at xs i
      rw [deep_get xs (i + 1) xs.length i (by omega) (by omega), deepOf] at h7
      omega
/-- The greatest of all, as script.nest tells it. -/
def mostTo (xs : List S47) : Nat → Int
  | 0 => 0
  | i + 1 => max (mostTo xs i) ((deepTo xs xs.length).getD i 0)
theorem mostTo_tree (xs : List S47) (h : isTree xs = true) : mostTo xs xs.length = nestOf xs := by
  have ht : 0 < xs.length ∧ (begs xs).getD (xs.length - 1) 0 = 0 := by simpa [isTree] using h
  have hw := fun j hj => deep_within xs (xs.length - 1) (by omega) (by omega) j (by rw [ht.2]; omega) hj
  have hr := deep_range xs xs.length (Nat.le_refl _) (xs.length - 1) (by omega)
  unfold nestOf
  rw [if_pos h]
  obtain ⟨m, hm⟩ : ∃ m, xs.length = m + 1 := ⟨xs.length - 1, by omega⟩
  rw [hm] at hw hr ⊢
  simp only [Nat.add_sub_cancel] at hw hr ⊢
  have : ∀ i, i ≤ m → mostTo xs i ≤ (deepTo xs (m + 1)).getD m 0 := by
    intro i
    induction i with
    | zero => intro _; simp only [mostTo]; omega
    | succ i ih =>
      intro hi
      simp only [mostTo, hm]
      exact Int.max_le.2 ⟨ih (by omega), hw i (by omega)⟩
  have h1 := this m (Nat.le_refl _)
  simp only [mostTo, hm]
  exact Int.max_eq_right h1

theorem mostOf_take (d ps : List Int) (k : Nat) (hk : k < ps.length) : mostOf d (ps.take (k + 1)) 0 = max (mostOf d (ps.take k) 0) (d.getD (ps.getD k 0).toNat 0) := by
  rw [List.take_succ_eq_append_getElem hk, mostOf, List.foldl_append]
  simp [mostOf, List.getD_eq_getElem?_getD, List.getElem?_eq_getElem hk]
/-- The list that the loop fills: the nodes below i are done, i holds v. -/
def dpart (xs : List S47) (n i : Nat) : List Int := deepTo xs i ++ List.replicate (n - i) 0
theorem dpart_length (xs : List S47) (n i : Nat) (h : i ≤ n) : (dpart xs n i).length = n := by simp [dpart, deepTo_length]; omega
theorem dpart_get (xs : List S47) (n i j : Nat) (h : j < i) : (dpart xs n i)[j]? = some ((deepTo xs i).getD j 0) := by
  rw [dpart, List.getElem?_append_left (by rw [deepTo_length]; exact h), List.getD_eq_getElem?_getD, List.getElem?_eq_getElem (by rw [deepTo_length]; exact h)]
  rfl
theorem dpart_set (xs : List S47) (n i : Nat) (h : i < n) : (dpart xs n i).set i (deepOf xs (deepTo xs i) i) = dpart xs n (i + 1) := by
  obtain ⟨m, hm⟩ : ∃ m, n - i = m + 1 := ⟨n - i - 1, by omega⟩
  rw [dpart, dpart, hm, List.replicate_succ, List.set_append_right _ _ (by rw [deepTo_length]; exact Nat.le_refl i), deepTo_length, Nat.sub_self, List.set_cons_zero, deepTo, List.append_assoc, show n - (i + 1) = m by omega]
  rfl
theorem dpart_all (xs : List S47) : dpart xs xs.length xs.length = deepTo xs xs.length := by simp [dpart]
end Go.Proofs.Ytmikgaphknbcaaa.B
