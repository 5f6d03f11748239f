/- Texts joined and shortened (wip/tools/shrink.py): MPure, MCheck, Fx2, Fx5, RInv, RSlots. -/
import Derived.Test.YtmpkkphohilkoaaDoorQu5
import Derived.Test.YtmpkkphohilkoaaDoorQu7
import Derived.Test.YtmpkkphohilkoaaDoorQu4
import Derived.Test.YtmpkkphohilkoaaDoorQu2
import Derived.RegionTactic
import Derived.Deep.RegionHeld
import Derived.Laws.Tables
import Derived.Deep.MidRow
/- The printed functions of the references, in plain words: names, clean, body, Check; Size, Outcomes, Cores. -/
namespace Go.Proofs.YtmpkkphohilkoaaDoor.B
open Go Go.RowKit Go.X Go.Proofs.YtmpkkphohilkoaaDoorW.PrintWords Go.Proofs.YtmpkkphohilkoaaDoorW.PrintLast Go.Proofs.YtmpkkphohilkoaaDoorW.PrintMore Go.Proofs.YtmpkkphohilkoaaDoor.F Go.Proofs.YtmpkkphohilkoaaDoor.Nm
set_option linter.unusedSimpArgs false

theorem letterF (c : Int) : dowelref04_letter.f c = some (letterZ c) := by
  unfold dowelref04_letter.f letterZ
  by_cases h1 : 97 ≤ c <;> by_cases h2 : c ≤ 122 <;> by_cases h3 : 65 ≤ c <;> by_cases h4 : c ≤ 90 <;> by_cases h5 : c = 95 <;> simp only [ge_iff_le, h1, h2, h3, h4, h5, if_true, if_false, decide_true, decide_false, Bool.true_and, Bool.and_true, Bool.and_false, Bool.false_and, Bool.or_true, Bool.true_or, Bool.or_false, Bool.false_or] <;> first | rfl | simp [h5] | (exfalso; omega)
theorem digitF (c : Int) : dowelref04_digit.f c = some (digitZ c) := by
  unfold dowelref04_digit.f digitZ
  by_cases h1 : 48 ≤ c
  · rw [if_pos h1]
    simp [h1]
  · rw [if_neg h1]
    simp [h1]
theorem ld_letter {c : Int} (h : letterZ c = true) : ldZ c = true := by simp [ldZ, h]
theorem ld_digit {c : Int} (h : digitZ c = true) : ldZ c = true := by simp [ldZ, h]
theorem ld_none {c : Int} (h : ¬ letterZ c = true) (h' : ¬ digitZ c = true) : ¬ ldZ c = true := by simp [ldZ, h, h']
theorem not_pos {b : Bool} (h : ¬ b = true) : (!b) = true := by simp [h]
theorem not_neg {b : Bool} (h : b = true) : ¬ (!b) = true := by simp [h]
theorem bt_bl (s : ByteArray) {i : Nat} (h : i < s.size) : bt s (i : Int) = (bl s).getD i 0 := by
  rw [← bl_get s h, ← bt_at s (i : Int) (by simpa using h)]
  rfl
theorem own_l0 (s : ByteArray) (hs : s.size ≤ 1048576) : ∀ (d k i : Nat), s.size - i = d → d < k → i ≤ s.size → dowelref04_own.l0 k s i = some ((i : Int) + run ldZ ((bl s).drop i))
  | 0, k, i, hd, hk, hi => by
    obtain ⟨k, rfl⟩ : ∃ m, k = m + 1 := ⟨k - 1, by omega⟩
    rw [dowelref04_own.l0, if_neg (by omega), drop_bl_nil s (by omega), run_nil]
    simp
  | d + 1, k, i, hd, hk, hi => by
    obtain ⟨k, rfl⟩ : ∃ m, k = m + 1 := ⟨k - 1, by omega⟩
    have hw : wrap64 ((i : Int) + 1) = ((i + 1 : Nat) : Int) := by rw [IntWalk.wrap64_in _ (by omega)]; rfl
    have ih := own_l0 s hs d k (i + 1) (by omega) (by omega) (by omega)
    rw [dowelref04_own.l0, if_pos (by omega), if_pos (by omega), bt_bl s (by omega), letterF, digitF, drop_bl s (by omega), run_cons, hw, ih]
    simp only [Option.bind_some]
    by_cases h1 : letterZ ((bl s).getD i 0) = true
    · have h3 : ldZ ((bl s).getD i 0) = true := ld_letter h1
      rw [if_pos h1, if_pos h3]
      congr 1; omega
    · rw [if_neg h1]
      by_cases h2 : digitZ ((bl s).getD i 0) = true
      · have h3 : ldZ ((bl s).getD i 0) = true := ld_digit h2
        rw [if_pos h2, if_pos h3]
        congr 1; omega
      · have h3 : ¬ ldZ ((bl s).getD i 0) = true := ld_none h1 h2
        rw [if_neg h2, if_neg h3]
        simp
theorem own_f (s : ByteArray) (hs : s.size ≤ 1048576) (k i : Nat) (hk : s.size + 1 < k) (hi : i ≤ s.size) : dowelref04_own.f k s i = some ((i : Int) + ownL ((bl s).drop i)) := by
  obtain ⟨k, rfl⟩ : ∃ m, k = m + 1 := ⟨k - 1, by omega⟩
  unfold dowelref04_own.f
  by_cases h : i < s.size
  · rw [if_neg (by omega), if_pos (by omega), if_pos (by omega), bt_bl s h, letterF, Option.bind_some, dowelref04_own.j0, drop_bl s h, ownL]
    by_cases h1 : letterZ ((bl s).getD i 0) = true
    · have h3 : ldZ ((bl s).getD i 0) = true := ld_letter h1
      rw [if_neg (not_neg h1), own_l0 s hs (s.size - i) k i rfl (by omega) hi, drop_bl s h, run_cons, if_pos h3, if_pos h1]
    · rw [if_pos (not_pos h1), if_neg h1]
      simp
  · rw [if_pos (by omega), dowelref04_own.j0, if_pos rfl, drop_bl_nil s (by omega), ownL]
    simp
theorem digits_f (s : ByteArray) (hs : s.size ≤ 1048576) : ∀ (d k i : Nat), s.size - i = d → d < k → i ≤ s.size → dowelref04_digits.l0 k s i = some ((i : Int) + run digitZ ((bl s).drop i))
  | 0, k, i, hd, hk, hi => by
    obtain ⟨k, rfl⟩ : ∃ m, k = m + 1 := ⟨k - 1, by omega⟩
    rw [dowelref04_digits.l0, if_neg (by omega), drop_bl_nil s (by omega), run_nil]
    simp
  | d + 1, k, i, hd, hk, hi => by
    obtain ⟨k, rfl⟩ : ∃ m, k = m + 1 := ⟨k - 1, by omega⟩
    have hw : wrap64 ((i : Int) + 1) = ((i + 1 : Nat) : Int) := by rw [IntWalk.wrap64_in _ (by omega)]; rfl
    have ih := digits_f s hs d k (i + 1) (by omega) (by omega) (by omega)
    rw [dowelref04_digits.l0, if_pos (by omega), if_pos (by omega), bt_bl s (by omega), digitF, drop_bl s (by omega), run_cons, hw, ih, Option.bind_some]
    split
    · congr 1; omega
    · simp
theorem named_j2 (s : ByteArray) (hs : s.size ≤ 1048576) (k i : Nat) (hk : s.size + 3 < k) (hi : i ≤ s.size) (b : Bool) (hb : b = (decide (i < s.size) && decide ((bl s).getD i 0 = 126))) : dowelref04_named.j2 k s i b = some ((i : Int) + numL ((bl s).drop i)) := by
  obtain ⟨k, rfl⟩ : ∃ m, k = m + 1 := ⟨k - 1, by omega⟩
  rw [dowelref04_named.j2]
  by_cases h : i < s.size
  · have hw : wrap64 ((i : Int) + 1) = ((i + 1 : Nat) : Int) := by rw [IntWalk.wrap64_in _ (by omega)]; rfl
    have hw6 : wrap64 ((i : Int) + 6) = ((i + 6 : Nat) : Int) := by rw [IntWalk.wrap64_in _ (by omega)]; rfl
    by_cases hc : (bl s).getD i 0 = 126
    · rw [hb, if_pos (by rw [hc]; simp [h]), hw, hw6]
      have hdg : dowelref04_digits.f k s ((i + 1 : Nat) : Int) = some (((i + 1 : Nat) : Int) + run digitZ ((bl s).drop (i + 1))) := digits_f s hs (s.size - (i + 1)) k (i + 1) rfl (by omega) (by omega)
      rw [hdg, Option.bind_some, drop_bl s h, hc]
      have hle := run_le digitZ ((bl s).drop (i + 1))
      rw [List.length_drop, bl_length] at hle
      generalize hr : run digitZ ((bl s).drop (i + 1)) = r at *
      obtain ⟨e1, e2, e3⟩ := numL_of (l := 126 :: (bl s).drop (i + 1)) rfl (1 + r) (by rw [hr])
      by_cases h0 : r = 0
      · subst h0
        rw [if_neg (by omega), e1 rfl]
        simp
      · by_cases h6 : 1 + r ≤ 6
        · have hlt : i + 1 < s.size := by omega
          rw [if_pos (by omega), if_pos (by omega), if_pos (by omega), if_pos (by omega), bt_bl s hlt]
          obtain ⟨e4, e5⟩ := e3 (by omega) h6
          have hg : (126 :: (bl s).drop (i + 1)).getD 1 0 = (bl s).getD (i + 1) 0 := by
            rw [drop_bl s hlt]
            rfl
          rw [hg] at e4 e5
          by_cases h48 : (bl s).getD (i + 1) 0 = 48
          · rw [if_pos h48, e4 h48]
            simp
          · rw [if_neg h48, e5 h48]
            congr 1; omega
        · rw [if_pos (by omega), if_neg (by omega), e2 (by omega)]
          simp
    · rw [hb, if_neg (by rw [Bool.and_eq_true, decide_eq_true_iff, decide_eq_true_iff]; exact fun q => hc q.2), drop_bl s h, numL, if_neg (fun q => hc q.1)]
      simp
  · rw [hb, if_neg (by simp [h]), drop_bl_nil s (by omega), numL]
    simp
theorem named_j1 (s : ByteArray) (hs : s.size ≤ 1048576) (k i : Nat) (hk : s.size + 4 < k) (hi : i ≤ s.size) : dowelref04_named.j1 k s i = some ((i : Int) + numL ((bl s).drop i)) := by
  obtain ⟨k, rfl⟩ : ∃ m, k = m + 1 := ⟨k - 1, by omega⟩
  rw [dowelref04_named.j1]
  by_cases h : i < s.size
  · rw [if_pos (by omega), if_pos (by omega), bt_bl s h]
    refine named_j2 s hs k i (by omega) hi _ ?_
    generalize (bl s).getD i 0 = c
    rw [Bool.eq_iff_iff]
    simp [h]
  · rw [if_neg (by omega)]
    exact named_j2 s hs k i (by omega) hi _ (by simp [h])
theorem take2M {s : ByteArray} {n : Nat} (h : n + 1 < s.size) : ((bl s).drop n).take 2 = [(bl s).getD n 0, (bl s).getD (n + 1) 0] := by
  rw [drop_bl s (show n < s.size by omega), drop_bl s h]; rfl
theorem named_j0 (s : ByteArray) (hs : s.size ≤ 1048576) (k i : Nat) (hk : s.size + 5 < k) (hi : i ≤ s.size) (b : Bool) (hb : b = decide (((bl s).drop i).take 2 = [58, 58])) :
    dowelref04_named.j0 k s i b = some (((mid (bl s) i : Nat) : Int) + numL ((bl s).drop (mid (bl s) i))) := by
  obtain ⟨k, rfl⟩ : ∃ m, k = m + 1 := ⟨k - 1, by omega⟩
  rw [dowelref04_named.j0, mid]
  by_cases hc : ((bl s).drop i).take 2 = [58, 58]
  · have hlen := colons_len hc
    rw [bl_length] at hlen
    have hw : wrap64 ((i : Int) + 2) = ((i + 2 : Nat) : Int) := by rw [IntWalk.wrap64_in _ (by omega)]; rfl
    rw [if_pos (by rw [hb]; simp [hc]), hw, own_f s hs k (i + 2) (by omega) (by omega), Option.bind_some]
    have hle := ownL_le ((bl s).drop (i + 2))
    rw [List.length_drop, bl_length] at hle
    by_cases h0 : ownL ((bl s).drop (i + 2)) = 0
    · rw [if_neg (by omega), if_neg (by simp [h0])]
      exact named_j1 s hs k i (by omega) hi
    · rw [if_pos (by omega), if_pos ⟨hc, h0⟩]
      have := named_j1 s hs k (i + 2 + ownL ((bl s).drop (i + 2))) (by omega) (by omega)
      rw [← this]
      rfl
  · rw [if_neg (by rw [hb]; simp [hc]), if_neg (by simp [hc])]
    exact named_j1 s hs k i (by omega) hi
theorem named_f (s : ByteArray) (hs : s.size ≤ 1048576) (k : Nat) (hk : s.size + 6 < k) : dowelref04_named.f k s 0 = some ((namedL (bl s) : Nat) : Int) := by
  unfold dowelref04_named.f
  have ho := own_f s hs k 0 (by omega) (by omega)
  rw [List.drop_zero, show ((0 : Nat) : Int) + (ownL (bl s) : Nat) = (ownL (bl s) : Nat) by omega] at ho
  have hle := ownL_le (bl s)
  rw [bl_length] at hle
  rw [show ((0 : Nat) : Int) = 0 from rfl] at ho
  rw [ho, Option.bind_some, namedL]
  by_cases h0 : ownL (bl s) = 0
  · rw [if_pos (by omega), if_pos h0]
    rfl
  · rw [if_neg (by omega), if_neg h0]
    have hw : wrap64 ((ownL (bl s) : Int) + 1) = ((ownL (bl s) + 1 : Nat) : Int) := by rw [IntWalk.wrap64_in _ (by omega)]; rfl
    rw [hw]
    have key := fun b => named_j0 s hs k (ownL (bl s)) (by omega) hle b
    by_cases h1 : ownL (bl s) + 1 < s.size
    · have ht := take2M h1
      rw [if_pos (by omega), if_pos (by omega), if_pos (by omega), bt_bl s (by omega), bt_bl s h1]
      by_cases h2 : (bl s).getD (ownL (bl s)) 0 = 58
      · rw [if_pos h2, if_pos (by omega), key _ (by rw [ht, h2]; generalize (bl s).getD (ownL (bl s) + 1) 0 = c; rw [Bool.eq_iff_iff]; simp)]
        rfl
      · rw [if_neg h2, key _ (by rw [ht]; generalize (bl s).getD (ownL (bl s) + 1) 0 = c; symm; rw [decide_eq_false_iff_not]; intro q; injection q with q1; exact h2 q1)]
        rfl
    · rw [if_neg (by omega), key _ (by
        symm
        rw [decide_eq_false_iff_not]
        intro hc
        have := colons_len hc
        rw [bl_length] at this
        omega)]
      rfl
theorem name_f (s : ByteArray) (k : Nat) (hk : 80 < k) : dowelref04_Name.f k s = some (nameOK s) := by
  unfold dowelref04_Name.f
  have he := empty_iff s
  by_cases h0 : s.size = 0
  · have : s.toList = [] := by simpa [h0] using he
    rw [if_pos this]
    simp [nameOK, h0]
  · have : ¬ s.toList = [] := by simpa [h0] using he
    rw [if_neg this]
    by_cases h1 : s.size ≤ 64
    · rw [if_pos (by omega), named_f s (by omega) k (by omega), Option.bind_some]
      congr 1
      rw [Bool.eq_iff_iff]
      simp [nameOK, h0, h1]
      omega
    · rw [if_neg (by omega)]
      simp [nameOK, h1]
end Go.Proofs.YtmpkkphohilkoaaDoor.B
/- The references' Check and Size, in plain words: when is a core grammar right. -/
namespace Go.Proofs.YtmpkkphohilkoaaDoor.B
open Go Go.RowKit Go.X Go.Ma Go.Proofs.YtmpkkphohilkoaaDoorW.PrintWords Go.Proofs.YtmpkkphohilkoaaDoorW.PrintLast Go.Proofs.YtmpkkphohilkoaaDoorW.PrintMore Go.Proofs.YtmpkkphohilkoaaDoor.F Go.Proofs.YtmpkkphohilkoaaDoor.Nm
set_option linter.unusedSimpArgs false

/-- No : and no ~. -/
def plainS (s : ByteArray) : Bool := (bl s).all fun c => decide (c ≠ 58 ∧ c ≠ 126)
def arz (op : Int) : Nat := if op = 4 ∨ op = 5 then 2 else if op = 6 ∨ op = 7 ∨ op = 8 then 1 else 0
def nodeOK (N : Nat) (x : S47) : Bool := decide (0 ≤ x.f0 ∧ x.f0 ≤ 8 ∧ (x.f0 ≠ 1 → x.f1.f0 = 0 ∧ x.f1.f1 = 0 ∧ x.f1.f2 = 0 ∧ x.f1.f3 = 0) ∧ (x.f0 = 2 → 0 ≤ x.f2 ∧ x.f2 < N) ∧ (x.f0 ≠ 2 → x.f2 = 0)) &&
  (if x.f0 = 3 ∨ x.f0 = 8 then nameOK x.f3 && plainS x.f3 else decide (x.f3.size = 0))
/-- Is a body right? -/
def goB (N : Nat) : List S47 → Nat → Bool
  | [], n => decide (n = 1)
  | x :: r, n => nodeOK N x && decide (arz x.f0 ≤ n) && goB N r (n + 1 - arz x.f0)
def okAt (rs : List S42) (i : Nat) : Bool := nameOK (cr rs i).f0 && goB rs.length (cr rs i).f1 0 && decide (∀ k, k < i → (cr rs k).f0 ≠ (cr rs i).f0)
def sz : List S42 → Nat
  | [] => 0
  | x :: r => x.f1.length + sz r
def chk (rs : List S42) (start : Int) : Bool := decide (1 ≤ rs.length ∧ rs.length ≤ 256 ∧ 0 ≤ start ∧ start < rs.length ∧ sz rs ≤ 16384) && (List.range rs.length).all (okAt rs)
theorem nil_iff (s : ByteArray) : (s.toList == []) = decide (s.size = 0) := empty_iff s
theorem drop_cr {rs : List S42} {i : Nat} (h : i < rs.length) : rs.drop i = cr rs i :: rs.drop (i + 1) := by
  rw [List.drop_eq_getElem_cons h, cr, List.getD_eq_getElem?_getD, List.getElem?_eq_getElem h]
  rfl
theorem drop_cd {xs : List S47} {i : Nat} (h : i < xs.length) : xs.drop i = cd xs i :: xs.drop (i + 1) := by
  rw [List.drop_eq_getElem_cons h, cd, List.getD_eq_getElem?_getD, List.getElem?_eq_getElem h]
  rfl
theorem sz_mem {rs : List S42} {x : S42} (h : x ∈ rs) : x.f1.length ≤ sz rs := by
  induction rs with
  | nil => cases h
  | cons a r ih =>
    rw [sz]
    rcases List.mem_cons.1 h with rfl | h
    · omega
    · have := ih h; omega
theorem sz_le {rs : List S42} {b : Nat} (h : ∀ x ∈ rs, x.f1.length ≤ b) : sz rs ≤ rs.length * b := by
  induction rs with
  | nil => simp [sz]
  | cons a r ih =>
    have := ih fun x hx => h x (List.mem_cons_of_mem _ hx)
    have := h a List.mem_cons_self
    rw [sz, List.length_cons, Nat.succ_mul]
    omega
theorem size_l0 (rs : List S42) (st : Int) (hs : sz rs ≤ 4611686018427387904) (hl : rs.length ≤ 1048576) : ∀ (d k i : Nat) (n : Nat), rs.length - i = d → d < k → i ≤ rs.length → n + sz (rs.drop i) = sz rs → dowelref09_Size.l0 k n i rs st = some (sz rs : Int)
  | 0, k, i, n, hd, hk, hi, hn => by
    obtain ⟨k, rfl⟩ : ∃ m, k = m + 1 := ⟨k - 1, by omega⟩
    rw [List.drop_of_length_le (by omega), sz] at hn
    rw [dowelref09_Size.l0, if_neg (by omega)]
    congr 1; omega
  | d + 1, k, i, n, hd, hk, hi, hn => by
    obtain ⟨k, rfl⟩ : ∃ m, k = m + 1 := ⟨k - 1, by omega⟩
    rw [drop_cr (by omega), sz] at hn
    have hw : wrap64 ((i : Int) + 1) = ((i + 1 : Nat) : Int) := by rw [IntWalk.wrap64_in _ (by omega)]; rfl
    have hw2 : wrap64 ((n : Int) + ((cr rs i).f1.length : Int)) = ((n + (cr rs i).f1.length : Nat) : Int) := by rw [IntWalk.wrap64_in _ (by omega)]; rfl
    have e : rd_T42 rs (i : Int) = cr rs i := by rw [rd_T42, Int.toNat_natCast]; rfl
    rw [dowelref09_Size.l0, if_pos (by omega), if_pos (by omega), e, hw, hw2]
    exact size_l0 rs st hs hl d k (i + 1) _ (by omega) (by omega) (by omega) (by omega)
theorem size_f (rs : List S42) (st : Int) (hs : sz rs ≤ 4611686018427387904) (hl : rs.length ≤ 1048576) (k : Nat) (hk : rs.length < k) : dowelref09_Size.f k rs st = some (sz rs : Int) :=
  size_l0 rs st hs hl rs.length k 0 0 rfl hk (Nat.zero_le _) (by simp)
theorem csize_l0 (rs : List S42) (hs : sz rs ≤ 4611686018427387904) (hl : rs.length ≤ 1048576) : ∀ (d k i : Nat) (n : Nat), rs.length - i = d → d < k → i ≤ rs.length → n + sz (rs.drop i) = sz rs → core_Size.l0 k n rs (rs.length : Int) i = some (sz rs : Int)
  | 0, k, i, n, hd, hk, hi, hn => by
    obtain ⟨k, rfl⟩ : ∃ m, k = m + 1 := ⟨k - 1, by omega⟩
    rw [List.drop_of_length_le (by omega), sz] at hn
    rw [core_Size.l0, if_neg (by omega)]
    congr 1; omega
  | d + 1, k, i, n, hd, hk, hi, hn => by
    obtain ⟨k, rfl⟩ : ∃ m, k = m + 1 := ⟨k - 1, by omega⟩
    rw [drop_cr (by omega), sz] at hn
    have hw : wrap64 ((i : Int) + 1) = ((i + 1 : Nat) : Int) := by rw [IntWalk.wrap64_in _ (by omega)]; rfl
    have hw2 : wrap64 ((n : Int) + ((cr rs i).f1.length : Int)) = ((n + (cr rs i).f1.length : Nat) : Int) := by rw [IntWalk.wrap64_in _ (by omega)]; rfl
    have e : rd_T42 rs (i : Int) = cr rs i := by rw [rd_T42, Int.toNat_natCast]; rfl
    rw [core_Size.l0, if_pos (by omega), if_pos (by omega), if_pos (by omega), e, hw, hw2]
    exact csize_l0 rs hs hl d k (i + 1) _ (by omega) (by omega) (by omega) (by omega)
theorem csize_f (rs : List S42) (st : Int) (hs : sz rs ≤ 4611686018427387904) (hl : rs.length ≤ 1048576) (k : Nat) (hk : rs.length < k) : core_Size.f k rs st = some (sz rs : Int) :=
  csize_l0 rs hs hl rs.length k 0 0 rfl hk (Nat.zero_le _) (by simp)
theorem heavy_f (rs : List S42) (st : Int) (hb : ∀ x ∈ rs, x.f1.length ≤ 140737488355328) (k : Nat) (hk : 4096 < k) : dowellaw14_heavy.f k rs st = some (decide (4096 < rs.length ∨ 1048576 < sz rs)) := by
  unfold dowellaw14_heavy.f
  by_cases h : 4096 < rs.length
  · rw [if_pos (by omega)]
    simp [h]
  · have := sz_le hb
    have : rs.length * 140737488355328 ≤ 4096 * 140737488355328 := Nat.mul_le_mul_right _ (by omega)
    rw [if_neg (by omega), size_f rs st (by omega) (by omega) k (by omega), Option.bind_some]
    congr 1
    rw [Bool.eq_iff_iff]
    simp [h]
    omega
def cnt (op : Int) : Int := if 0 ≤ op ∧ op ≤ 8 then (arz op : Int) else -1
theorem count_f (op : Int) (k : Nat) (hk : 1 < k) : dowelref09_count.f k op = some (cnt op) := by
  obtain ⟨k, rfl⟩ : ∃ m, k = m + 2 := ⟨k - 2, by omega⟩
  unfold dowelref09_count.f cnt
  have hc : op = 0 ∨ op = 1 ∨ op = 2 ∨ op = 3 ∨ op = 4 ∨ op = 5 ∨ op = 6 ∨ op = 7 ∨ op = 8 ∨ op < 0 ∨ 8 < op := by omega
  rcases hc with rfl | rfl | rfl | rfl | rfl | rfl | rfl | rfl | rfl | h | h
  · rfl
  · rfl
  · rfl
  · rfl
  · rfl
  · rfl
  · rfl
  · rfl
  · rfl
  · rw [if_neg (by omega), if_neg (by omega), if_neg (by omega), dowelref09_count.j0, if_neg (by simp; omega), if_neg (by omega), if_neg (by omega), dowelref09_count.j1, if_neg (by simp; omega), if_neg (by omega), if_neg (by omega), if_neg (by omega)]
  · rw [if_neg (by omega), if_neg (by omega), if_neg (by omega), dowelref09_count.j0, if_neg (by simp; omega), if_neg (by omega), if_neg (by omega), dowelref09_count.j1, if_neg (by simp; omega), if_neg (by omega), if_neg (by omega), if_neg (by omega)]
theorem plain_l0 (s : ByteArray) (hs : s.size ≤ 1048576) : ∀ (d k i : Nat), s.size - i = d → d < k → i ≤ s.size → dowelbase_Own.l0 k s i = some (((bl s).drop i).all fun c => decide (c ≠ 58 ∧ c ≠ 126))
  | 0, k, i, hd, hk, hi => by
    obtain ⟨k, rfl⟩ : ∃ m, k = m + 1 := ⟨k - 1, by omega⟩
    rw [dowelbase_Own.l0, if_neg (by omega), drop_bl_nil s (by omega)]
    rfl
  | d + 1, k, i, hd, hk, hi => by
    obtain ⟨k, rfl⟩ : ∃ m, k = m + 1 := ⟨k - 1, by omega⟩
    have hw : wrap64 ((i : Int) + 1) = ((i + 1 : Nat) : Int) := by rw [IntWalk.wrap64_in _ (by omega)]; rfl
    have ih := plain_l0 s hs d k (i + 1) (by omega) (by omega) (by omega)
    rw [dowelbase_Own.l0, if_pos (by omega), if_pos (by omega), bt_bl s (by omega), hw, ih, drop_bl s (show i < s.size by omega), List.all_cons]
    generalize (bl s).getD i 0 = c
    by_cases h1 : c = 58
    · rw [if_pos h1]; simp [h1]
    · rw [if_neg h1]
      by_cases h2 : c = 126
      · rw [if_pos h2]; simp [h2]
      · rw [if_neg h2]; simp [h1, h2]
theorem plain_f (s : ByteArray) (hs : s.size ≤ 1048576) (k : Nat) (hk : s.size < k) : dowelbase_Own.f k s = some (plainS s) := by
  have := plain_l0 s hs s.size k 0 rfl hk (Nat.zero_le _)
  rw [List.drop_zero] at this
  exact this
theorem nameOK_le {s : ByteArray} (h : nameOK s = true) : s.size ≤ 64 := by
  have := of_decide_eq_true h
  exact this.2.1
theorem clean_f (N : Nat) (x : S47) (hop : 0 ≤ x.f0 ∧ x.f0 ≤ 8) (k : Nat) (hk : 100 < k) : dowelref09_clean.f k x.f0 x.f1.f0 x.f1.f1 x.f1.f2 x.f1.f3 x.f2 x.f3 N = some (nodeOK N x) := by
  obtain ⟨k, rfl⟩ : ∃ m, k = m + 3 := ⟨k - 3, by omega⟩
  have j2 : ∀ b, b = decide (x.f0 = 3 ∨ x.f0 = 8) → dowelref09_clean.j2 (k + 1) b x.f0 x.f1.f0 x.f1.f1 x.f1.f2 x.f1.f3 x.f2 x.f3 = some (if x.f0 = 3 ∨ x.f0 = 8 then nameOK x.f3 && plainS x.f3 else decide (x.f3.size = 0)) := by
    intro b hb
    rw [dowelref09_clean.j2, name_f _ _ (by omega), Option.bind_some]
    by_cases h : x.f0 = 3 ∨ x.f0 = 8
    · rw [if_pos (by rw [hb]; simp [h]), if_pos h]
      by_cases h1 : nameOK x.f3 = true
      · have := nameOK_le h1
        rw [if_pos h1, plain_f _ (by omega) _ (by omega), Option.bind_some, h1, Bool.true_and]
      · rw [if_neg h1]
        simp [h1]
    · rw [if_neg (by rw [hb]; simp [h]), if_neg h, nil_iff]
  have j2' : ∀ b, b = false → dowelref09_clean.j1 (k + 2) b x.f0 x.f1.f0 x.f1.f1 x.f1.f2 x.f1.f3 x.f2 x.f3 = some (if x.f0 = 3 ∨ x.f0 = 8 then nameOK x.f3 && plainS x.f3 else decide (x.f3.size = 0)) := by
    rintro b rfl
    rw [dowelref09_clean.j1, if_neg (by decide)]
    by_cases h3 : x.f0 = 3
    · rw [if_pos h3, j2 _ (by simp [h3])]
    · rw [if_neg h3, j2 _ (by rw [Bool.eq_iff_iff]; simp [h3])]
  have j1' : dowelref09_clean.j1 (k + 2) true x.f0 x.f1.f0 x.f1.f1 x.f1.f2 x.f1.f3 x.f2 x.f3 = some false := by
    rw [dowelref09_clean.j1, if_pos rfl]
  have j0 : dowelref09_clean.j0 (k + 3) N false x.f0 x.f1.f0 x.f1.f1 x.f1.f2 x.f1.f3 x.f2 x.f3 = some (decide ((x.f0 = 2 → 0 ≤ x.f2 ∧ x.f2 < N) ∧ (x.f0 ≠ 2 → x.f2 = 0)) && (if x.f0 = 3 ∨ x.f0 = 8 then nameOK x.f3 && plainS x.f3 else decide (x.f3.size = 0))) := by
    rw [dowelref09_clean.j0, if_neg (by decide)]
    by_cases h2 : x.f0 = 2
    · rw [if_pos h2]
      by_cases h3 : x.f2 < 0
      · rw [if_pos h3, j1']
        congr 1; symm
        rw [Bool.and_eq_false_iff]
        exact .inl (decide_eq_false fun q => by have := (q.1 h2).1; omega)
      · rw [if_neg h3]
        by_cases h4 : x.f2 ≥ N
        · rw [if_pos h4, j1']
          congr 1; symm
          rw [Bool.and_eq_false_iff]
          exact .inl (decide_eq_false fun q => by have := (q.1 h2).2; omega)
        · have hd : decide ((x.f0 = 2 → 0 ≤ x.f2 ∧ x.f2 < N) ∧ (x.f0 ≠ 2 → x.f2 = 0)) = true := decide_eq_true ⟨fun _ => ⟨by omega, by omega⟩, fun q => absurd h2 q⟩
          rw [if_neg h4, j2' _ rfl, hd, Bool.true_and]
    · rw [if_neg h2]
      by_cases h3 : x.f2 = 0
      · have hd : decide ((x.f0 = 2 → 0 ≤ x.f2 ∧ x.f2 < N) ∧ (x.f0 ≠ 2 → x.f2 = 0)) = true := decide_eq_true ⟨fun q => absurd q h2, fun _ => h3⟩
        rw [j2' _ (by simp [h3]), hd, Bool.true_and]
      · have : (x.f2 != 0) = true := by simp [h3]
        rw [this, j1']
        congr 1; symm
        rw [Bool.and_eq_false_iff]
        exact .inl (decide_eq_false fun q => h3 (q.2 h2))
  unfold dowelref09_clean.f nodeOK
  by_cases h1 : x.f0 = 1
  · rw [if_pos h1, j0]
    congr 2
    rw [Bool.eq_iff_iff]
    simp [h1]
  · rw [if_neg h1]
    by_cases hz : x.f1.f0 = 0 ∧ x.f1.f1 = 0 ∧ x.f1.f2 = 0 ∧ x.f1.f3 = 0
    · have : (!(x.f1.f0 == 0) || (!(x.f1.f1 == 0) || (!(x.f1.f2 == 0) || (!(x.f1.f3 == 0))))) = false := by simp [hz]
      rw [this, j0]
      congr 2
      rw [Bool.eq_iff_iff]
      simp only [decide_eq_true_eq]
      exact ⟨fun q => ⟨hop.1, hop.2, fun _ => hz, q.1, q.2⟩, fun q => ⟨q.2.2.2.1, q.2.2.2.2⟩⟩
    · have : (!(x.f1.f0 == 0) || (!(x.f1.f1 == 0) || (!(x.f1.f2 == 0) || (!(x.f1.f3 == 0))))) = true := by
        rw [Bool.eq_iff_iff]
        simp
        omega
      rw [this, dowelref09_clean.j0, if_pos rfl]
      congr 1; symm
      rw [Bool.and_eq_false_iff]
      exact .inl (decide_eq_false fun q => hz (q.2.2.1 h1))
theorem body_l0 (N : Nat) (xs : List S47) (hl : xs.length ≤ 1048576) : ∀ (d k i n : Nat), xs.length - i = d → d + 200 < k → i ≤ xs.length → n ≤ i → dowelref09_body.l0 k xs N n i = some (goB N (xs.drop i) n)
  | 0, k, i, n, hd, hk, hi, hn => by
    obtain ⟨k, rfl⟩ : ∃ m, k = m + 1 := ⟨k - 1, by omega⟩
    rw [dowelref09_body.l0, if_neg (by omega), List.drop_of_length_le (by omega), goB]
    congr 1
    rw [Bool.eq_iff_iff]
    simp
    omega
  | d + 1, k, i, n, hd, hk, hi, hn => by
    obtain ⟨k, rfl⟩ : ∃ m, k = m + 1 := ⟨k - 1, by omega⟩
    have e : rd_T47 xs (i : Int) = cd xs i := by rw [rd_T47, Int.toNat_natCast]; rfl
    rw [dowelref09_body.l0, if_pos (by omega), if_pos (by omega), e, drop_cd (by omega), goB]
    generalize cd xs i = x
    rw [count_f _ _ (by omega), Option.bind_some, cnt]
    by_cases hop : 0 ≤ x.f0 ∧ x.f0 ≤ 8
    · rw [if_pos hop, if_neg (by omega)]
      by_cases ha : arz x.f0 ≤ n
      · rw [if_neg (by omega), clean_f N x hop _ (by omega), Option.bind_some]
        have h2 : arz x.f0 ≤ 2 := by unfold arz; split <;> (try split) <;> omega
        have hw : wrap64 ((i : Int) + 1) = ((i + 1 : Nat) : Int) := by rw [IntWalk.wrap64_in _ (by omega)]; rfl
        have hw2 : wrap64 (wrap64 ((n : Int) - (arz x.f0 : Int)) + 1) = ((n + 1 - arz x.f0 : Nat) : Int) := by
          rw [IntWalk.wrap64_in ((n : Int) - _) (by omega), IntWalk.wrap64_in _ (by omega)]
          omega
        by_cases hc : nodeOK N x = true
        · rw [if_pos hc, hw, hw2, body_l0 N xs hl d k (i + 1) (n + 1 - arz x.f0) (by omega) (by omega) (by omega) (by omega), hc]
          simp [ha]
        · rw [if_neg hc]
          simp [hc]
      · rw [if_pos (by omega)]
        simp [ha]
    · rw [if_neg hop, if_pos (by omega)]
      have : nodeOK N x = false := by
        rw [nodeOK, Bool.and_eq_false_iff]
        exact .inl (decide_eq_false fun q => hop ⟨q.1, q.2.1⟩)
      simp [this]
theorem body_f (N : Nat) (xs : List S47) (hl : xs.length ≤ 1048576) (k : Nat) (hk : xs.length + 200 < k) : dowelref09_body.f k xs N = some (goB N xs 0) :=
  body_l0 N xs hl xs.length k 0 0 rfl hk (Nat.zero_le _) (Nat.le_refl _)
theorem str_eq {s t : ByteArray} : s.toList = t.toList ↔ s = t := ⟨fun h => by rw [ByteArray.toList_eq, ByteArray.toList_eq] at h; exact ByteArray.ext (Array.toList_inj.1 h), fun h => by rw [h]⟩
end Go.Proofs.YtmpkkphohilkoaaDoor.B
namespace Go.Proofs.YtmpkkphohilkoaaDoor.F
open Go.RowKit Go.Proofs.YtmpkkphohilkoaaDoorW.PrintWords Go.Proofs.YtmpkkphohilkoaaDoorW.PrintLast Go.Proofs.YtmpkkphohilkoaaDoorW.PrintMore
attribute [local go_sem] max2_int min2_int max_two min_two max_three min_three max_four min_four   -- for this text's walks alone
set_option linter.unusedVariables false
set_option linter.unusedSimpArgs false

theorem eqA47 (d : Nat) (w : World) (x0 y0 : Int) (x1 y1 : Int) (x2 y2 : Int) (x3 y3 : Int) (x4 y4 : Int) (x5 y5 : Int) (x6 y6 : ByteArray) :
    (Op.equalIn (d + 3) 47 (.agg #[.int .i64 x0, .int .u64 x1, .int .u64 x2, .int .u64 x3, .int .u64 x4, .int .i64 x5, .string x6]) (.agg #[.int .i64 y0, .int .u64 y1, .int .u64 y2, .int .u64 y3, .int .u64 y4, .int .i64 y5, .string y6])).run Tryd.prog w = .ok (x0 == y0 && ((x1 == y1 && (x2 == y2 && (x3 == y3 && (x4 == y4)))) && (x5 == y5 && (x6.toList == y6.toList)))) w := by
  refine eqA_of Tryd.underlying47 (by kernel_rfl) ?_
  refine eqf_cons (by rfl) (by go_simp; rfl) (by go_simp; rfl) (by go_simp) ?_
  refine eqf_cons (by rfl) (by go_simp) (by go_simp) (eqA45 (d + 0) w _ _ _ _ _ _ _ _) ?_
  refine eqf_cons (by rfl) (by go_simp; rfl) (by go_simp; rfl) (by go_simp) ?_
  exact eqf_last (by rfl) (by go_simp; rfl) (by go_simp; rfl) (by go_simp)
end Go.Proofs.YtmpkkphohilkoaaDoor.F
namespace Go.Proofs.YtmpkkphohilkoaaDoor.F
open Go.RowKit Go.Proofs.YtmpkkphohilkoaaDoorW.PrintWords Go.Proofs.YtmpkkphohilkoaaDoorW.PrintLast Go.Proofs.YtmpkkphohilkoaaDoorW.PrintMore
attribute [local go_sem] max2_int min2_int max_two min_two max_three min_three max_four min_four   -- for this text's walks alone
set_option linter.unusedVariables false
set_option linter.unusedSimpArgs false

/-! ### lexis_named: function 34 -/

/-! ### core_arity: function 35 -/
def core_arity.j0 : Nat → Int → Bool → Option (Int)
  | 0, _, _ => none
  | k + 1, x3, x4 => if x4 = true then (some 2) else (if x3 = 6 then (some 1) else (if x3 = 7 then (some 1) else (if x3 = 8 then (some 1) else (some 0))))
def core_arity.f (k : Nat) (a0 : Int) : Option (Int) := if a0 = 4 then (core_arity.j0 k a0 (a0 == 4)) else (core_arity.j0 k a0 (a0 == 5))
set_option maxHeartbeats 8000000 in
set_option maxRecDepth 100000 in
theorem core_arity.calls (k : Nat) (a0 : Int) (r : Int) (w : World) (h : core_arity.f k a0 = some r) :
    Calls Tryd.prog 35 #[.int .i64 a0] w fun e w' => e = .returned (.int .i64 r) ∧ Drawn0 w w' := by
  have H : (if a0 = 4 then (core_arity.j0 k a0 (a0 == 4)) else (core_arity.j0 k a0 (a0 == 5))) = some r := h
  clear h
  have HC2 := Aside0.mk H
  clear H
  go_enter Tryd.func35, Tryd.ntmps35
  go_upto_if 4 with (fail)
  go_cut [4] (fun v4 wc => ∃ (kq : Nat) (x4_1 : Bool), v4 = .bool x4_1 ∧ Aside0 (core_arity.j0 kq a0 x4_1 = some r) ∧ Aside0 (kq ≤ k) ∧ Drawn0 w wc)
  case first =>
    have H := HC2.out
    clear HC2
    by_cases c3 : a0 = 4
    · rw [if_pos c3] at H
      have c3b0 : (a0 == 4) = true := beq_iff_eq.mpr c3
      have c3b1 : (a0 != 4) = false := bne_eq_false_iff_eq.mpr c3
      clear c3
      (first | rw [c3b0] | (simp only [i64_w, i32_w]; rw [c3b0]) | skip)
      have H' := Aside0.mk H
      clear H
      go_wp2
      go_meet
      case rel => exact ⟨_, ((a0 == 4)), (by first | rfl | (simp; done) | (simp [*]; done)), H', ⟨by first | omega | exact Nat.le_refl _⟩, by repeat (first | exact Drawn0.refl _ | apply Drawn0.step)⟩
    · rw [if_neg c3] at H
      have c3b0 : (a0 == 4) = false := beq_eq_false_iff_ne.mpr c3
      have c3b1 : (a0 != 4) = true := bne_iff_ne.mpr c3
      (first | rw [c3b0] | (simp only [i64_w, i32_w]; rw [c3b0]) | skip)
      have H' := Aside0.mk H
      clear H
      go_wp2
      go_meet
      case rel => exact ⟨_, ((a0 == 5)), (by first | rfl | (simp; done) | (simp [*]; done)), H', ⟨by first | omega | exact Nat.le_refl _⟩, by repeat (first | exact Drawn0.refl _ | apply Drawn0.step)⟩
  case rest =>
    clear HC2
    try clear p2
    try clear c3
    try clear c3b0
    try clear c3b1
    obtain ⟨kq, x4_1, rfl, HA, HJ1, ⟨mc1, rfl⟩⟩ := hcut
    cases kq with
    | zero => exact absurd HA.out (by simp [core_arity.j0])
    | succ kj1 =>
      have H := HA.out
      clear HA
      simp only [core_arity.j0] at H
      by_cases c4 : x4_1 = true
      · subst c4
        have H1 : (some 2) = some r := by rw [if_pos rfl] at H; exact H
        clear H
        have H := H1
        clear H1
        obtain rfl := Option.some.inj H
        go_wp2
        go_ret
        exact ⟨by first | rfl | (simp; done) | (simp [*]; done), by repeat (first | exact Drawn0.refl _ | apply Drawn0.step)⟩
      · replace c4 := Bool.eq_false_iff.mpr c4
        subst c4
        have H1 : (if a0 = 6 then (some 1) else (if a0 = 7 then (some 1) else (if a0 = 8 then (some 1) else (some 0)))) = some r := by rw [if_neg (show ¬ (false = true) by decide)] at H; exact H
        clear H
        have H := H1
        clear H1
        by_cases c5 : a0 = 6
        · rw [if_pos c5] at H
          have c5b0 : (a0 == 6) = true := beq_iff_eq.mpr c5
          have c5b1 : (a0 != 6) = false := bne_eq_false_iff_eq.mpr c5
          clear c5
          obtain rfl := Option.some.inj H
          go_wp2
          go_ret
          exact ⟨by first | rfl | (simp; done) | (simp [*]; done), by repeat (first | exact Drawn0.refl _ | apply Drawn0.step)⟩
        · rw [if_neg c5] at H
          have c5b0 : (a0 == 6) = false := beq_eq_false_iff_ne.mpr c5
          have c5b1 : (a0 != 6) = true := bne_iff_ne.mpr c5
          by_cases c6 : a0 = 7
          · rw [if_pos c6] at H
            have c6b0 : (a0 == 7) = true := beq_iff_eq.mpr c6
            have c6b1 : (a0 != 7) = false := bne_eq_false_iff_eq.mpr c6
            clear c6
            obtain rfl := Option.some.inj H
            go_wp2
            go_ret
            exact ⟨by first | rfl | (simp; done) | (simp [*]; done), by repeat (first | exact Drawn0.refl _ | apply Drawn0.step)⟩
          · rw [if_neg c6] at H
            have c6b0 : (a0 == 7) = false := beq_eq_false_iff_ne.mpr c6
            have c6b1 : (a0 != 7) = true := bne_iff_ne.mpr c6
            by_cases c7 : a0 = 8
            · rw [if_pos c7] at H
              have c7b0 : (a0 == 8) = true := beq_iff_eq.mpr c7
              have c7b1 : (a0 != 8) = false := bne_eq_false_iff_eq.mpr c7
              clear c7
              obtain rfl := Option.some.inj H
              go_wp2
              go_ret
              exact ⟨by first | rfl | (simp; done) | (simp [*]; done), by repeat (first | exact Drawn0.refl _ | apply Drawn0.step)⟩
            · rw [if_neg c7] at H
              have c7b0 : (a0 == 8) = false := beq_eq_false_iff_ne.mpr c7
              have c7b1 : (a0 != 8) = true := bne_iff_ne.mpr c7
              obtain rfl := Option.some.inj H
              go_wp2
              go_ret
              exact ⟨by first | rfl | (simp; done) | (simp [*]; done), by repeat (first | exact Drawn0.refl _ | apply Drawn0.step)⟩

-- NOT PRINTED: function 60 (bytealg_IndexByteString)

-- NOT PRINTED: function 59 (stringslite_IndexByte)

-- NOT PRINTED: function 55 (strings_IndexByte)

/-! ### utf8_ValidRune: function 56 -/

/-! ### bytealg_Cutover: function 57 -/

-- NOT PRINTED: function 58 (bytealg_IndexString)

-- NOT PRINTED: function 51 (strings_IndexRune)

/-! ### strings_shouldUseASCIISet: function 52 -/

-- NOT PRINTED: function 53 (strings_makeASCIISet)

-- NOT PRINTED: function 54 (strings_asciiSet_contains)

-- NOT PRINTED: function 45 (strings_IndexAny)

end Go.Proofs.YtmpkkphohilkoaaDoor.F
/- A region that draws its order, by an invariant over what has come up: one step for each operation, whatever the order. -/
namespace Go.X
open Go
section
variable {P : Program} {ops : Array Oper} {Q : Exit → Act → World → Prop} {md : Region.Mode}

theorem count_false_set (l : List Bool) (i : Nat) (h : l[i]? = some false) : (l.set i true).count false + 1 = l.count false := by
  induction l generalizing i with
  | nil => simp at h
  | cons x l ih =>
    cases i with
    | zero => simp at h; subst h; simp
    | succ i =>
      simp at h
      have := ih i h
      simp only [List.set_cons_succ, List.count_cons]
      omega
theorem ready_false {l : Array Bool} {i : Nat} (h : i ∈ Region.ready md ops l) : l[i]? = some false := by
  have h1 := (mem_ready.1 h).1
  rcases Nat.lt_or_ge i l.size with h' | h'
  · simp [h'] at h1 ⊢; exact h1
  · simp [Array.getElem?_eq_none h'] at h1
theorem wpAny_inv {I : Array Bool → Act → World → Prop}
    (hend : ∀ l a w, l.size = ops.size → Region.ready md ops l = [] → I l a w → Q .normal a w)
    (hstep : ∀ i l a w, l.size = ops.size → i ∈ Region.ready md ops l → I l a w → wpOp P ops Q i (I (l.setIfInBounds i true)) a w) :
    ∀ (fuel : Nat) (l : Array Bool) (a : Act) (w : World), l.size = ops.size → l.toList.count false ≤ fuel → I l a w → wpAny P md ops Q fuel l a w := by
  intro fuel
  induction fuel with
  | zero =>
    intro l a w hs hc hI
    have hr : Region.ready md ops l = [] := by
      cases h : Region.ready md ops l with
      | nil => rfl
      | cons i is =>
        have hi : i ∈ Region.ready md ops l := by rw [h]; simp
        have h1 := ready_false hi
        have h2 : l.toList[i]? = some false := by simpa using h1
        have := count_false_set _ _ h2
        omega
    exact ⟨hr, hend l a w hs hr hI⟩
  | succ fuel ih =>
    intro l a w hs hc hI
    refine ⟨fun hr => hend l a w hs hr hI, fun i hi => ?_⟩
    refine wpOp_mono (fun a' w' h => ih _ a' w' (by simpa using hs) ?_ h) (hstep i l a w hs hi hI)
    have h1 := ready_false hi
    have h2 : l.toList[i]? = some false := by simpa using h1
    have := count_false_set _ _ h2
    simp only [Array.toList_setIfInBounds]
    omega

/-- Which operations have come up. -/
abbrev Bits := Nat → Bool
def Bits.put (b : Bits) (i : Nat) : Bits := fun j => if j = i then true else b j
/-- What an operation waits for. -/
def waits (md : Region.Mode) (o : Oper) : List Nat := (o.after.toList.filter (Region.binds md)).map (·.on)
/-- Each operation waits for earlier ones alone. -/
def backward (md : Region.Mode) (ops : Array Oper) : Bool := (List.range ops.size).all fun i => (((ops[i]?).map fun o => (waits md o).all fun d => decide (d < i)).getD true)
theorem ready_nil_all {l : Array Bool} (hb : backward md ops = true) (hs : l.size = ops.size) (h : Region.ready md ops l = []) : ∀ i, i < ops.size → l[i]? = some true := by
  intro i
  induction i using Nat.strongRecOn with
  | ind i ih =>
    intro hi
    have hil : i < l.size := by omega
    cases hv : l[i] with
    | true => simp [hil, hv]
    | false =>
      exfalso
      have : i ∈ Region.ready md ops l := by
        refine mem_ready.2 ⟨by simp [hil, hv], ops[i], by simp [hi], fun e he hbd => ?_⟩
        have h1 := List.all_eq_true.1 hb i (by simpa using hi)
        simp only [Array.getElem?_eq_getElem hi, Option.map_some, Option.getD_some] at h1
        have h2 : e.on ∈ waits md ops[i] := by
          unfold waits
          exact List.mem_map.2 ⟨e, List.mem_filter.2 ⟨by simpa using he, hbd⟩, rfl⟩
        have h3 := of_decide_eq_true (List.all_eq_true.1 h1 _ h2)
        have := ih e.on h3 (by omega)
        simp [this]
      rw [h] at this
      cases this

/-- Nothing has come up ahead of what it waits for. -/
def Shutd (md : Region.Mode) (ops : Array Oper) (b : Bits) : Prop := ∀ j o, ops[j]? = some o → b j = true → ∀ d ∈ waits md o, b d = true
/-- Of each operation: all that stand ahead of it. -/
def ancs (md : Region.Mode) (ops : Array Oper) : List (List Nat) := ops.toList.foldl (fun acc o => acc ++ [((waits md o) ++ (waits md o).flatMap fun e => acc.getD e []).eraseDups]) []
def ancOk (md : Region.Mode) (ops : Array Oper) (anc : List (List Nat)) : Bool :=
  (List.range ops.size).all fun i => (anc.getD i []).all fun d => ((ops[i]?).map fun o => (waits md o).any fun e => e == d || (anc.getD e []).contains d).getD false
theorem anc_true {anc : List (List Nat)} (hb : backward md ops = true) (ha : ancOk md ops anc = true) {b : Bits} (hs : Shutd md ops b) : ∀ i, i < ops.size → b i = true → ∀ d ∈ anc.getD i [], b d = true := by
  intro i
  induction i using Nat.strongRecOn with
  | ind i ih =>
    intro hi hbi d hd
    have h1 := List.all_eq_true.1 (List.all_eq_true.1 ha i (by simpa using hi)) d hd
    simp only [Array.getElem?_eq_getElem hi, Option.map_some, Option.getD_some] at h1
    obtain ⟨e, he, hed⟩ := List.any_eq_true.1 h1
    have hbe := hs i _ (Array.getElem?_eq_getElem hi) hbi e he
    have h2 := List.all_eq_true.1 hb i (by simpa using hi)
    simp only [Array.getElem?_eq_getElem hi, Option.map_some, Option.getD_some] at h2
    have h3 := of_decide_eq_true (List.all_eq_true.1 h2 _ he)
    rcases Bool.or_eq_true _ _ ▸ hed with h | h
    · rw [← eq_of_beq h]; exact hbe
    · exact ih e h3 (by omega) hbe d (by simpa using h)

/-- One step for each operation: those ahead of it have come up, it and those behind it have not. -/
def RSteps (P : Program) (ops : Array Oper) (Q : Exit → Act → World → Prop) (I : Bits → Act → World → Prop) (is : List Nat) : Prop :=
  ∀ i ∈ is, ∀ (b : Bits) (a : Act) (w : World), b i = false → (∀ d ∈ (ancs .any ops).getD i [], b d = true) → (∀ j, i ∈ (ancs .any ops).getD j [] → j < ops.size → b j = false) → I b a w → wpOp P ops Q i (I (b.put i)) a w
theorem wp_region_inv {id : Nat} {a : Act} {w : World} (I : Act → Bits → Act → World → Prop) (n : Nat) (is : List Nat) (hm : P.follows .mixedOrders = true) (hn : ops.size = n) (his : List.range n = is) (hb : backward .any ops = true) (ha : ancOk .any ops (ancs .any ops) = true)
    (h0 : I a (fun _ => false) a w.drew) (hs : RSteps P ops Q (I a) is) (hend : ∀ b a' w, (∀ i, i < n → b i = true) → I a b a' w → Q .normal a' w) :
    (Code.region id ops true).wp P Q a w := by
  have hbits : ∀ l : Array Bool, ∀ i, l[i]? = some false → l.size = ops.size → (fun j => (l.setIfInBounds i true).getD j false) = Bits.put (fun j => l.getD j false) i := by
    intro l i h1 hsz
    have hil := (Array.getElem?_eq_some_iff.1 h1).1
    funext j
    unfold Bits.put
    by_cases hij : j = i
    · subst hij; simp [hil]
    · rw [if_neg hij]; simp [Ne.symm hij]
  refine wp_region_any hm ?_
  refine wpAny_inv (I := fun l a' w => Shutd .any ops (fun j => l.getD j false) ∧ I a (fun j => l.getD j false) a' w) ?_ ?_ _ _ _ _ (by simp) (by simp) ?_
  · intro l a' w hsz hr ⟨_, hI⟩
    refine hend _ a' w (fun i hi => ?_) hI
    have := ready_nil_all hb hsz hr i (by omega)
    simp only [Array.getD_eq_getD_getElem?, this, Option.getD_some]
  · intro i l a' w hsz hi ⟨hsh, hI⟩
    have h1 := ready_false hi
    have hlt : i < ops.size := by
      have := (Array.getElem?_eq_some_iff.1 h1).1
      omega
    obtain ⟨hun, oj, hoj, hall⟩ := mem_ready.1 hi
    have hw : ∀ d ∈ waits .any oj, (fun j => l.getD j false) d = true := fun d hd => by
      unfold waits at hd
      obtain ⟨e, he, rfl⟩ := List.mem_map.1 hd
      obtain ⟨he1, he2⟩ := List.mem_filter.1 he
      exact hall e (by simpa using he1) he2
    have hsh' : Shutd .any ops (Bits.put (fun j => l.getD j false) i) := fun j o hjo hbj d hd => by
      unfold Bits.put at hbj ⊢
      split
      · rfl
      · split at hbj
        · rename_i hji
          subst hji
          rw [hjo] at hoj
          cases hoj
          exact hw d hd
        · exact hsh j o hjo hbj d hd
    have h2 := hs i (by rw [← his]; simp; omega) (fun j => l.getD j false) a' w (by simp [h1])
      (fun d hd => by
        have := anc_true hb ha hsh' i hlt (by simp [Bits.put]) d hd
        unfold Bits.put at this
        split at this
        · rename_i hdi
          subst hdi
          exfalso
          have h3 := List.all_eq_true.1 (List.all_eq_true.1 ha d (by simpa using hlt)) d hd
          clear this
          have key : ∀ k, k < ops.size → ∀ d ∈ (ancs .any ops).getD k [], d < k := by
            intro k
            induction k using Nat.strongRecOn with
            | ind k ih =>
              intro hk d hd
              have h1 := List.all_eq_true.1 (List.all_eq_true.1 ha k (by simpa using hk)) d hd
              simp only [Array.getElem?_eq_getElem hk, Option.map_some, Option.getD_some] at h1
              obtain ⟨e, he, hed⟩ := List.any_eq_true.1 h1
              have h2 := List.all_eq_true.1 hb k (by simpa using hk)
              simp only [Array.getElem?_eq_getElem hk, Option.map_some, Option.getD_some] at h2
              have h3 := of_decide_eq_true (List.all_eq_true.1 h2 _ he)
              rcases Bool.or_eq_true _ _ ▸ hed with h | h
              · rw [← eq_of_beq h]; exact h3
              · have := ih e h3 (by omega) d (by simpa using h); omega
          have := key d hlt d hd
          omega
        · exact this)
      (fun j hj hjs => by
        cases hbj : (fun j => l.getD j false) j with
        | false => exact hbj
        | true =>
          have := anc_true hb ha hsh j hjs hbj i hj
          simp [h1] at this) hI
    refine wpOp_mono (fun a'' w' h => ?_) h2
    have he := hbits l i h1 hsz
    show Shutd .any ops (fun j => (l.setIfInBounds i true).getD j false) ∧ I a (fun j => (l.setIfInBounds i true).getD j false) a'' w'
    rw [he]; exact ⟨hsh', h⟩
  · have he : (fun j => (Array.replicate ops.size false).getD j false) = fun _ => false := by
      funext j
      by_cases hj : j < ops.size <;> simp [hj]
    show Shutd .any ops (fun j => (Array.replicate ops.size false).getD j false) ∧ I a (fun j => (Array.replicate ops.size false).getD j false) a w.drew
    rw [he]
    exact ⟨fun _ _ _ h => Bool.noConfusion h, h0⟩
end
end Go.X
/- A region that draws its order, walked once: each operation over slots (a function), an invariant over what has come up. -/
namespace Go.X
open Go Go.RowKit
/-- What the slots hold. -/
abbrev Slots := Nat → Value
def Slots.eval (f : Slots) : Operand → Value
  | .tmp t => f t
  | .const v => v
  | .global g => .pointer (some ⟨g, 0, none⟩)
  | .func f => .func (.func f) #[] #[]
def Slots.put (f : Slots) (d : Option Tmp) (v : Value) : Slots :=
  match d with
  | some d => fun t => if t = d then v else f t
  | none => f
def Slots.of (a : Act) : Slots := fun t => a.tmps.getD t undef
theorem Slots.eval_of (a : Act) : (Slots.of a).eval = a.eval := funext fun x => by cases x <;> rfl
theorem Slots.of_put (a : Act) (d : Option Tmp) (v : Value) (h : ∀ t, d = some t → t < a.tmps.size) : Slots.of (a.put d v) = (Slots.of a).put d v := by
  funext t
  cases d with
  | none => rfl
  | some d =>
    have hd := h d rfl
    show (a.tmps.setIfInBounds d v).getD t undef = if t = d then v else a.tmps.getD t undef
    by_cases e : t = d
    · subst e; simp [hd]
    · rw [if_neg e]; simp [Ne.symm e]
/-- What a guard's operation told. -/
def told (ops : Array Oper) (f : Slots) (j : Nat) : Option Bool :=
  match (ops[j]?).bind (·.dst) with
  | some t => match f t with
    | .bool b => some b
    | _ => none
  | none => none
theorem told_of (ops : Array Oper) (a : Act) (j : Nat) : told ops (Slots.of a) j = yielded ops a.tmps j := by
  unfold told yielded
  cases (ops[j]?).bind (·.dst) with
  | none => rfl
  | some t =>
    simp only [Option.bind_some, Slots.of]
    rcases Nat.lt_or_ge t a.tmps.size with h | h
    · simp only [Array.getD_eq_getD_getElem?, Array.getElem?_eq_getElem h, Option.getD_some]
      cases a.tmps[t] <;> rfl
    · simp only [Array.getD_eq_getD_getElem?, Array.getElem?_eq_none h, Option.getD_none]
      rfl
/-- The slots' new contents, laid into a frame. -/
def Act.puts (a : Act) (f : Slots) : List Tmp → Act
  | [] => a
  | t :: ts => Act.puts (a.put (some t) (f t)) f ts
theorem Act.puts_defers (f : Slots) : ∀ (ts : List Tmp) (a : Act), (Act.puts a f ts).defers = a.defers
  | [], _ => rfl
  | _ :: ts, _ => (Act.puts_defers f ts _).trans rfl
theorem Act.puts_size (f : Slots) : ∀ (ts : List Tmp) (a : Act), (Act.puts a f ts).tmps.size = a.tmps.size
  | [], _ => rfl
  | _ :: ts, _ => (Act.puts_size f ts _).trans (by simp [Act.put])
theorem Act.puts_get (f : Slots) : ∀ (ts : List Tmp) (a : Act) (t : Nat), t < a.tmps.size → (Act.puts a f ts).tmps[t]? = if t ∈ ts then some (f t) else a.tmps[t]?
  | [], _, _, _ => by simp [Act.puts]
  | s :: ts, a, t, h => by
    rw [Act.puts, Act.puts_get f ts _ t (by simpa [Act.put] using h)]
    by_cases h1 : t ∈ ts
    · rw [if_pos h1, if_pos (List.mem_cons_of_mem _ h1)]
    · rw [if_neg h1]
      by_cases h2 : t = s
      · subst h2; simp [Act.put, h]
      · rw [if_neg (by simp [h1, h2])]
        simp [Act.put, Ne.symm h2]
theorem Act.eq_puts {a a' : Act} (ts : List Tmp) (h1 : a'.defers = a.defers) (h2 : a'.tmps.size = a.tmps.size) (h3 : ∀ t, t ∉ ts → Slots.of a' t = Slots.of a t) : a' = Act.puts a (Slots.of a') ts := by
  have e : a'.tmps = (Act.puts a (Slots.of a') ts).tmps := by
    apply Array.ext_getElem?
    intro t
    rcases Nat.lt_or_ge t a.tmps.size with h | h
    · rw [Act.puts_get _ _ _ _ h]
      by_cases ht : t ∈ ts
      · rw [if_pos ht]; simp [Slots.of, h, h2]
      · rw [if_neg ht]
        have := h3 t ht
        simp only [Slots.of, Array.getD_eq_getD_getElem?, Array.getElem?_eq_getElem h, Array.getElem?_eq_getElem (h2.symm ▸ h : t < a'.tmps.size), Option.getD_some] at this
        rw [Array.getElem?_eq_getElem h, Array.getElem?_eq_getElem (h2.symm ▸ h : t < a'.tmps.size), this]
    · rw [Array.getElem?_eq_none (by omega), Array.getElem?_eq_none (by rw [Act.puts_size]; omega)]
  have d : a'.defers = (Act.puts a (Slots.of a') ts).defers := by rw [h1, Act.puts_defers]
  cases a' with
  | mk x y =>
    generalize hb : Act.puts a (Slots.of ⟨x, y⟩) ts = b at *
    cases b
    simp_all

section
variable {P : Program} {ops : Array Oper} {Q : Exit → Act → World → Prop}
/-- One operation over slots: what it leaves, and the world behind it. -/
def Does (P : Program) (op : Op) (ty : TypeId) (ρ : Operand → Value) (w : World) (K : Value → World → Prop) : Prop :=
  match (execOp ρ ⟨none, op, ty, "", #[], none⟩).run P w with
  | .ok (.value v) w' => K v w'
  | .ok .skip w' => K undef w'
  | .ok (.enter f args) w' => Calls P f args w' fun e w'' => ∃ v, e = .returned v ∧ K v w''
  | _ => False
theorem Does.wp {o : Oper} {a : Act} {w : World} {K : Value → World → Prop} (h : Does P o.op o.type (Slots.of a).eval w K) : Oper.wp P o a w (fun a' w' => ∃ v, a' = a.put o.dst v ∧ K v w') Q := by
  rw [Slots.eval_of] at h
  unfold Does at h
  unfold Oper.wp
  have e : execOp a.eval o = execOp a.eval ⟨none, o.op, o.type, "", #[], none⟩ := by
    cases o with
    | mk d op ty p af g => cases op <;> rfl
  rw [e]
  revert h
  generalize (execOp a.eval ⟨none, o.op, o.type, "", #[], none⟩).run P w = r
  intro h
  cases r with
  | ok n w' =>
    cases n <;> simp only [Oper.upon] at h ⊢
    case value v => exact ⟨v, rfl, h⟩
    case skip => exact ⟨_, rfl, h⟩
    case enter f args =>
      refine Calls.mono h fun e w'' he => ?_
      obtain ⟨v, rfl, hk⟩ := he
      exact ⟨v, rfl, hk⟩
  | halt x w' => cases x <;> exact h.elim

/-- One step for each operation: those ahead of it have come up, it and those behind it have not. -/
def SSteps (P : Program) (ops : Array Oper) (I : Bits → Slots → World → Prop) (is : List Nat) : Prop :=
  ∀ i ∈ is, ∀ (o : Oper), ops[i]? = some o → ∀ (b : Bits) (f : Slots) (w : World), b i = false → (∀ d ∈ (ancs .any ops).getD i [], b d = true) → (∀ j, i ∈ (ancs .any ops).getD j [] → j < ops.size → b j = false) → I b f w →
    if Region.wanted o (told ops f) = true then Does P o.op o.type f.eval w (fun v w' => I (b.put i) (f.put o.dst v) w') else I (b.put i) (f.put o.dst undef) w
theorem SSteps.nil {I : Bits → Slots → World → Prop} : SSteps P ops I [] := fun _ h => by cases h
/-- An operation without a guard. -/
theorem SSteps.cons {I : Bits → Slots → World → Prop} {i : Nat} {op : Op} {ty : TypeId} {dst : Option Tmp} {pos : String} {af : Array Edge} {ds js is : List Nat} (ho : ops[i]? = some ⟨dst, op, ty, pos, af, none⟩) (hd : (ancs .any ops).getD i [] = ds)
    (hj : ((List.range ops.size).filter fun j => ((ancs .any ops).getD j []).contains i) = js)
    (h : ∀ (b : Bits) (f : Slots) (w : World), b i = false → (∀ d ∈ ds, b d = true) → (∀ j ∈ js, b j = false) → I b f w → Does P op ty f.eval w (fun v w' => I (b.put i) (f.put dst v) w'))
    (hs : SSteps P ops I is) : SSteps P ops I (i :: is) := fun j hj' o ho' b f w h1 h2 h3 h4 => by
  rcases List.mem_cons.1 hj' with rfl | hj'
  · rw [ho] at ho'
    cases ho'
    have hw : Region.wanted (⟨dst, op, ty, pos, af, none⟩ : Oper) (told ops f) = true := rfl
    rw [if_pos hw]
    exact h b f w h1 (fun d hd' => h2 d (by rw [hd]; exact hd')) (fun k hk => by
      rw [← hj] at hk
      obtain ⟨k1, k2⟩ := List.mem_filter.1 hk
      exact h3 k (by simpa using k2) (by simpa using k1)) h4
  · exact hs j hj' o ho' b f w h1 h2 h3 h4
def dstsIn (ops : Array Oper) (n : Nat) : Bool := ops.all fun o => match o.dst with | some t => decide (t < n) | none => true
def dsts (ops : Array Oper) : List Tmp := ops.toList.filterMap (·.dst)
theorem wp_region_slots {id : Nat} {a : Act} {w : World} (I : Bits → Slots → World → Prop) (n : Nat) (is : List Nat) (ts : List Tmp) (m : Nat) (hm : P.follows .mixedOrders = true) (hn : ops.size = n) (his : List.range n = is) (hts : dsts ops = ts)
    (hb : backward .any ops = true) (ha : ancOk .any ops (ancs .any ops) = true) (hz : a.tmps.size = m) (hdst : dstsIn ops m = true)
    (h0 : I (fun _ => false) (Slots.of a) w.drew) (hs : SSteps P ops I is)
    (hend : ∀ b f w', (∀ i, i < n → b i = true) → I b f w' → (∀ t, t ∉ ts → f t = Slots.of a t) → Q .normal (Act.puts a f ts) w') :
    (Code.region id ops true).wp P Q a w := by
  subst hz
  have hd : ∀ (i : Nat) (o : Oper), ops[i]? = some o → ∀ t, o.dst = some t → t < a.tmps.size ∧ t ∈ ts := fun i o hi t ht => by
    obtain ⟨hlt, rfl⟩ := Array.getElem?_eq_some_iff.1 hi
    have h1 := Array.all_eq_true.1 hdst i hlt
    rw [ht] at h1
    refine ⟨of_decide_eq_true h1, ?_⟩
    rw [← hts]
    exact List.mem_filterMap.2 ⟨ops[i], by simp, ht⟩
  refine wp_region_inv (I := fun a b a' w => I b (Slots.of a') w ∧ a'.defers = a.defers ∧ a'.tmps.size = a.tmps.size ∧ ∀ t, t ∉ ts → Slots.of a' t = Slots.of a t) n is hm hn his hb ha ⟨h0, rfl, rfl, fun _ _ => rfl⟩ ?_ ?_
  · intro i hi b a' w1 h1 h2 h3 ⟨h4, h5, h6, h7⟩
    have hlt : i < ops.size := by rw [← his] at hi; rw [hn]; simpa using hi
    have ho : ops[i]? = some ops[i] := Array.getElem?_eq_getElem hlt
    have hst := hs i hi _ ho b (Slots.of a') w1 h1 h2 h3 h4
    have hput : ∀ v w2, I (b.put i) ((Slots.of a').put ops[i].dst v) w2 → I (b.put i) (Slots.of (a'.put ops[i].dst v)) w2 ∧ (a'.put ops[i].dst v).defers = a.defers ∧ (a'.put ops[i].dst v).tmps.size = a.tmps.size ∧ ∀ t, t ∉ ts → Slots.of (a'.put ops[i].dst v) t = Slots.of a t := by
      intro v w2 hI
      have e := Slots.of_put a' ops[i].dst v (fun t ht => h6 ▸ (hd i _ ho t ht).1)
      refine ⟨by rw [e]; exact hI, ?_, ?_, fun t ht => ?_⟩
      · cases ops[i].dst <;> exact h5
      · cases hq : ops[i].dst <;> simp [Act.put, h6]
      · rw [e]
        cases hq : ops[i].dst with
        | none => exact h7 t ht
        | some d =>
          have : t ≠ d := fun e => ht (e ▸ (hd i _ ho d hq).2)
          simp only [Slots.put, if_neg this]
          exact h7 t ht
    refine wpOp_step ho fun K' hK => ?_
    have hw : Region.wanted ops[i] (yielded ops a'.tmps) = Region.wanted ops[i] (told ops (Slots.of a')) := by
      congr 1
      exact funext fun j => (told_of ops a' j).symm
    rw [hw]
    split
    · rename_i hwt
      rw [if_pos hwt] at hst
      refine Oper.wp_mono ?_ hst.wp
      rintro a2 w2 ⟨v, rfl, hI⟩
      exact hK _ _ (hput v w2 hI)
    · rename_i hwt
      rw [if_neg hwt] at hst
      exact hK _ _ (hput _ _ hst)
  · intro b a' w' hall ⟨h4, h5, h6, h7⟩
    have := hend b (Slots.of a') w' hall h4 h7
    rwa [← Act.eq_puts ts h5 h6 h7] at this

variable {ty : TypeId} {ρ : Operand → Value} {w : World} {K : Value → World → Prop}
theorem Does.move {x : Operand} (h : K (ρ x) w) : Does P (.move x) ty ρ w K := h
theorem Does.assign {x : Operand} (h : K (ρ x) w) : Does P (.assign x) ty ρ w K := h
theorem Does.extract {x : Operand} {i : Nat} {vs : Array Value} {v : Value} (hx : ρ x = .tuple vs) (hv : vs[i]? = some v) (h : K v w) : Does P (.extract x i) ty ρ w K := by
  simp only [Does, execOp, hx, Instr.extract, hv, Sem.run_bind, Sem.run_pure, Result.andThen_ok]
  exact h
theorem Does.build {t : TypeId} {ps : Array (Nat × Operand)} {cells : Array Value} (hb : P.built t (ps.toList.map fun p => (p.1, ρ p.2)) = some cells) (h : K (.agg cells) w) : Does P (.build t ps) ty ρ w K := by
  have := run_build (P := P) w t (ps.map fun (i, x) => (i, ρ x)) cells (by simpa using hb)
  simp only [Does, execOp, this, Sem.run_bind, Sem.run_pure, Result.andThen_ok]
  exact h
theorem Does.load {t : TypeId} {x : Operand} {v : Value} (hr : (Instr.loadAt t (ρ x)).run P w = .ok v w) (h : K v w) : Does P (.load t x) ty ρ w K := by
  simp only [Does, execOp, hr, Sem.run_bind, Sem.run_pure, Result.andThen_ok]; exact h
theorem Does.fieldAddr {s : TypeId} {x : Operand} {i : Nat} {v : Value} (hr : (Instr.fieldAt s (ρ x) i).run P w = .ok v w) (h : K v w) : Does P (.fieldAddr s x i) ty ρ w K := by
  simp only [Does, execOp, hr, Sem.run_bind, Sem.run_pure, Result.andThen_ok]; exact h
theorem Does.alloc {e : TypeId} {z : Value} (hz : (P.info? e).map (·.zero) = some (some z)) (h : ∀ w', Blk w' w.heap.size e z.cells.toList → Below w.heap.size w w' → K (.pointer (some ⟨w.heap.size, 0, none⟩)) w') : Does P (.alloc e) ty ρ w K := by
  have hr : (Instr.alloc e true (.tuple #[])).run P w = .ok (.pointer (some ⟨w.heap.size, 0, none⟩)) (w.alloc (.cells z.cells e)) := by
    have hz' : (zeroValue e).run P w = .ok z w := by
      cases hq : P.info? e with
      | none => simp [hq] at hz
      | some i => simp [hq] at hz; simp [zeroValue, typeInfo, hq, hz]
    simp [Instr.alloc, hz', newVar, newRow]
  simp only [Does, execOp, hr, Sem.run_bind, Sem.run_pure, Result.andThen_ok]
  exact h _ (Blk.alloc w _ _) ((Below.refl _ _).alloc (Nat.le_refl _) _)
theorem Does.call {f : FuncId} {xs : Array Operand} {ts : Array TypeId} {args : Array Value} (hx : xs.map ρ = args) (hf : ρ (.func f) = .func (.func f) #[] #[]) (hc : (callFunc f args).run P w = .ok (.enter f args) w)
    (h : Calls P f args w fun e w' => ∃ v, e = .returned v ∧ K v w') : Does P (.call { callee := .value (.func f), args := xs, argTypes := ts }) ty ρ w K := by
  simp only [Does, execOp, resolve, hf, hx, Deferred.ofValue, Sem.run_bind, Sem.run_pure, Result.andThen_ok, invoke]
  simp [hc]
  exact h
theorem Does.store {t : TypeId} {x y : Operand} {b off : Nat} {v : Value} {cur : List Value} {e : TypeId} (hx : ρ x = .pointer (some ⟨b, off, none⟩)) (hy : ρ y = v)
    (hg : Blk w b e cur) (hi : (P.info? t).map (·.size) = some v.cells.size) (hfit : off + v.cells.size ≤ cur.length) (h1 : ∀ u ∈ v.cells.toList, u.oneCell' = true)
    (h : ∀ w', Blk w' b e (splice cur off v.cells.toList) → w.grownBy w' (some b) → K undef w') : Does P (.store t x y) ty ρ w K := by
  have hst := run_storeCells_at P b off e v.cells.toList 0 cur.toArray w hg (by simpa using hfit) h1
  have hsp : (splice cur off v.cells.toList).toArray = (cur.take off ++ v.cells.toList ++ cur.drop (off + v.cells.toList.length)).toArray := by simp [splice]
  have hrun : (Instr.storeAt t (.pointer (some ⟨b, off, none⟩)) v).run P w = .ok () (w.setRow b (splice cur off v.cells.toList).toArray) := by
    cases hq : P.info? t with
    | none => simp [hq] at hi
    | some i =>
      have hs : i.size = v.cells.size := by simpa [hq] using hi
      simp only [Nat.add_zero] at hst
      rw [hsp]
      simp only [Instr.storeAt, Instr.sureAddr, Sem.run_bind, Sem.run_pure, Result.andThen_ok]
      simp [storeVar, sizeOf, typeInfo, hq, hs, hst]
  simp only [Does, execOp, hx, hy, hrun, Sem.run_bind, Sem.run_pure, Result.andThen_ok]
  exact h _ (setRow_heap w b _ _ e _ hg) (grown_setRow b _)
/-- 'append(v, x...)' of a row of the call's own; x: a block that is known. -/
theorem Does.append {s x : Operand} {t e : TypeId} (base : Nat) (z : Value) (size bytes : Nat) (ht : P.underlying t = some (.slice e)) (hinfo : (P.info? e).map (fun i => (i.zero, i.size, i.bytes)) = some (some z, size, bytes)) (hzs : z.cells.size = size)
    {v : Value} {n : Nat} {xs : List Value} (hs : ρ s = v) (hown : w.ownsRow base e size v n xs)
    {q m c : Nat} {news : List Value} (hx : ρ x = .slice (some ⟨q, 0, none⟩) m c) (hq : Blk w q e news) (hl : news.length = m * size) (h1 : ∀ u ∈ news, u.oneCell' = true)
    (h63 : n + m ≤ maxLen) (hbytes : (n + m) * bytes ≤ 140737488355328) (hbase : base ≤ w.heap.size)
    (h : ∀ v' w', w'.ownsRow base e size v' (n + m) (xs ++ news) → Appended w w' e size v v' n → K v' w') : Does P (.call { callee := .builtin .append, args := #[s, x], argTypes := #[t, t] }) ty ρ w K := by
  obtain ⟨i, hi, hzz⟩ := Option.map_eq_some_iff.1 hinfo
  simp only [Prod.mk.injEq] at hzz
  obtain ⟨hz0, hz1, hz2⟩ := hzz
  obtain ⟨v', w', hr, h2, h3⟩ := run_append_x (P := P) w base t ty e i z size bytes ht hi hz0 hz1 hz2 hzs v n xs hown ⟨q, 0, none⟩ m c news hl (fun j u hj => by rw [Addr.add_mid, Nat.zero_add, hq.cell]; exact hj) h1 h63 hbytes hbase
  simp only [Does, execOp, resolve, invoke, builtin, Sem.run_bind, Sem.run_pure, Result.andThen_ok, List.map_toArray, List.map_cons, List.map_nil, hs, hx, hr]
  exact h v' w' h2 h3
/-- '[]T{x}' -/
theorem Does.buildSlice1 {t e : TypeId} {x : Operand} {v : Value} {cs : Array Value} (hx : ρ x = v) (hr : (Instr.buildSlice t 1 #[(0, v)]).run P w = .ok (.slice (some ⟨w.heap.size, 0, none⟩) 1 1) (w.alloc (.cells cs e)))
    (h : ∀ w', Blk w' w.heap.size e cs.toList → Below w.heap.size w w' → K (.slice (some ⟨w.heap.size, 0, none⟩) 1 1) w') : Does P (.buildSlice t 1 #[(0, x)]) ty ρ w K := by
  simp only [Does, execOp, List.map_toArray, List.map_cons, List.map_nil, hx, hr, Sem.run_bind, Sem.run_pure, Result.andThen_ok]
  exact h _ (Blk.alloc w _ _) ((Below.refl _ _).alloc (Nat.le_refl _) _)
theorem Does.indexAddr {t : TypeId} {x i : Operand} {v : Value} (hr : (Instr.indexAt t (ρ x) (ρ i)).run P w = .ok v w) (h : K v w) : Does P (.indexAddr t x i) ty ρ w K := by
  simp only [Does, execOp, hr, Sem.run_bind, Sem.run_pure, Result.andThen_ok]; exact h
theorem Does.loadBlk {t e : TypeId} {x : Operand} {b : Nat} {cs : List Value} {d : TypeDesc} (hx : ρ x = .pointer (some ⟨b, 0, none⟩)) (hb : Blk w b e cs) (hu : P.underlying t = some d) (hd : d.isRow = true)
    (hi : (P.info? t).map (·.size) = some cs.length) (h : K (.agg cs.toArray) w) : Does P (.load t x) ty ρ w K := by
  refine Does.load ?_ h
  rw [hx]
  exact run_loadAt_mid w b 0 t cs d (fun j v hj => by rw [Nat.zero_add, hb.cell]; exact hj) hu hd hi
theorem below_grown {B : Nat} {a w w' : World} {r : Option Nat} (h : Below B a w) (g : w.grownBy w' r) (hr : ∀ k, r = some k → B ≤ k) (ha : B ≤ a.heap.size) : Below B a w' :=
  ⟨g.os.trans h.os, g.tape.trans h.tape, g.output.trans h.output, Nat.le_trans h.size g.size, fun k hk => (g.block k (Nat.lt_of_lt_of_le hk (Nat.le_trans ha h.size)) (fun e => by have := hr k e.symm; omega)).trans (h.block k hk)⟩
theorem no {x : Bool} {p : Prop} (h : x = false) (h' : x = true) : p := by rw [h] at h'; cases h'
/-- The i-th part of a tuple. -/
def tup (v : Value) (i : Nat) : Value := match v with
  | .tuple vs => vs.getD i undef
  | _ => undef
theorem Does.ext {x : Operand} {i : Nat} {vs : Array Value} (hx : ρ x = .tuple vs) (hi : i < vs.size) (h : K (tup (.tuple vs) i) w) : Does P (.extract x i) ty ρ w K := by
  refine Does.extract hx (Array.getElem?_eq_getElem hi) ?_
  have : tup (.tuple vs) i = vs[i] := by simp [tup, hi]
  rwa [this] at h
theorem splice_all {α : Type} (L cs : List α) (h : L.length = cs.length) : splice L 0 cs = cs := by simp [splice, ← h]
theorem tf {p : Prop} (h : true = false) : p := by cases h
theorem below_cell {B : Nat} {a w' : World} (h : Below B a w') {b i : Nat} {v : Value} (hb : b < B) (hc : a.cell? ⟨b, i, none⟩ = some v) : w'.cell? ⟨b, i, none⟩ = some v := by
  rw [h.cell (p := ⟨b, i, none⟩) hb]; exact hc
theorem below_at {w w' : World} (h : Below w.heap.size w w') {p : Addr} {v : Value} (hc : w.cell? p = some v) : w'.cell? p = some v := by
  rw [h.cell (p := p) (World.block_lt_of_cell? w p hc)]; exact hc
end
end Go.X
