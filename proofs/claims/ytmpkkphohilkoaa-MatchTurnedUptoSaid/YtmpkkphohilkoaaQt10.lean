/- Texts joined and shortened (wip/tools/shrink.py): MCheck, Fx2, Fx5, MBegin, Fx3, Fx12, Fx13, MFree. -/
import Derived.Test.YtmpkkphohilkoaaQt9
import Derived.Test.YtmpkkphohilkoaaQt4
import Derived.Test.YtmpkkphohilkoaaQt2
import Derived.Test.YtmpkkphohilkoaaQt8
import Derived.Test.YtmpkkphohilkoaaQt7
import Derived.Deep.AppendLies
import Derived.Outline
import Derived.WalkKit
import Derived.Lib.Hide
import Derived.Deep.LoopGhost
/- The references' Check and Size, in plain words: when is a core grammar right. -/
namespace Go.Proofs.Ytmpkkphohilkoaa.B
open Go Go.RowKit Go.X Go.Ma Go.Proofs.YtmpkkphohilkoaaW.PrintWords Go.Proofs.YtmpkkphohilkoaaW.PrintLast Go.Proofs.YtmpkkphohilkoaaW.PrintMore Go.Proofs.Ytmpkkphohilkoaa.F Go.Proofs.Ytmpkkphohilkoaa.Nm
set_option linter.unusedSimpArgs false

/-- No : and no ~. -/
def plainS (s : ByteArray) : Bool := (bl s).all fun c => decide (c ≠ 58 ∧ c ≠ 126)
def arz (op : Int) : Nat := if op = 4 ∨ op = 5 then 2 else if op = 6 ∨ op = 7 ∨ op = 8 then 1 else 0
def nodeOK (N : Nat) (x : S55) : Bool := decide (0 ≤ x.f0 ∧ x.f0 ≤ 8 ∧ (x.f0 ≠ 1 → x.f1.f0 = 0 ∧ x.f1.f1 = 0 ∧ x.f1.f2 = 0 ∧ x.f1.f3 = 0) ∧ (x.f0 = 2 → 0 ≤ x.f2 ∧ x.f2 < N) ∧ (x.f0 ≠ 2 → x.f2 = 0)) &&
  (if x.f0 = 3 ∨ x.f0 = 8 then nameOK x.f3 && plainS x.f3 else decide (x.f3.size = 0))
/-- Is a body right? -/
def goB (N : Nat) : List S55 → Nat → Bool
  | [], n => decide (n = 1)
  | x :: r, n => nodeOK N x && decide (arz x.f0 ≤ n) && goB N r (n + 1 - arz x.f0)
def okAt (rs : List S45) (i : Nat) : Bool := nameOK (cr rs i).f0 && goB rs.length (cr rs i).f1 0 && decide (∀ k, k < i → (cr rs k).f0 ≠ (cr rs i).f0)
def sz : List S45 → Nat
  | [] => 0
  | x :: r => x.f1.length + sz r
def chk (rs : List S45) (start : Int) : Bool := decide (1 ≤ rs.length ∧ rs.length ≤ 256 ∧ 0 ≤ start ∧ start < rs.length ∧ sz rs ≤ 16384) && (List.range rs.length).all (okAt rs)
theorem nil_iff (s : ByteArray) : (s.toList == []) = decide (s.size = 0) := empty_iff s
theorem drop_cr {rs : List S45} {i : Nat} (h : i < rs.length) : rs.drop i = cr rs i :: rs.drop (i + 1) := by
  rw [List.drop_eq_getElem_cons h, cr, List.getD_eq_getElem?_getD, List.getElem?_eq_getElem h]
  rfl
theorem drop_cd {xs : List S55} {i : Nat} (h : i < xs.length) : xs.drop i = cd xs i :: xs.drop (i + 1) := by
  rw [List.drop_eq_getElem_cons h, cd, List.getD_eq_getElem?_getD, List.getElem?_eq_getElem h]
  rfl
theorem sz_mem {rs : List S45} {x : S45} (h : x ∈ rs) : x.f1.length ≤ sz rs := by
  induction rs with
  | nil => cases h
  | cons a r ih =>
    rw [sz]
    rcases List.mem_cons.1 h with rfl | h
    · omega
    · have := ih h; omega
theorem sz_le {rs : List S45} {b : Nat} (h : ∀ x ∈ rs, x.f1.length ≤ b) : sz rs ≤ rs.length * b := by
  induction rs with
  | nil => simp [sz]
  | cons a r ih =>
    have := ih fun x hx => h x (List.mem_cons_of_mem _ hx)
    have := h a List.mem_cons_self
    rw [sz, List.length_cons, Nat.succ_mul]
    omega
theorem size_l0 (rs : List S45) (st : Int) (hs : sz rs ≤ 4611686018427387904) (hl : rs.length ≤ 1048576) : ∀ (d k i : Nat) (n : Nat), rs.length - i = d → d < k → i ≤ rs.length → n + sz (rs.drop i) = sz rs → dowelref09_Size.l0 k n i rs st = some (sz rs : Int)
  | 0, k, i, n, hd, hk, hi, hn => by
    obtain ⟨k, rfl⟩ : ∃ m, k = m + 1 := ⟨k - 1, by omega⟩
    rw [List.drop_of_length_le (by omega), sz] at hn
    rw [dowelref09_Size.l0, if_neg (by omega)]
    congr 1; omega
  | d + 1, k, i, n, hd, hk, hi, hn => by
    obtain ⟨k, rfl⟩ : ∃ m, k = m + 1 := ⟨k - 1, by omega⟩
    rw [drop_cr (by omega), sz] at hn
    have hw : wrap64 ((i : Int) + 1) = ((i + 1 : Nat) : Int) := by rw [IntWalk.wrap64_in _ (by omega)]; rfl
    have hw2 : wrap64 ((n : Int) + ((cr rs i).f1.length : Int)) = ((n + (cr rs i).f1.length : Nat) : Int) := by rw [IntWalk.wrap64_in _ (by omega)]; rfl
    have e : rd_T45 rs (i : Int) = cr rs i := by rw [rd_T45, Int.toNat_natCast]; rfl
    rw [dowelref09_Size.l0, if_pos (by omega), if_pos (by omega), e, hw, hw2]
    exact size_l0 rs st hs hl d k (i + 1) _ (by omega) (by omega) (by omega) (by omega)
theorem size_f (rs : List S45) (st : Int) (hs : sz rs ≤ 4611686018427387904) (hl : rs.length ≤ 1048576) (k : Nat) (hk : rs.length < k) : dowelref09_Size.f k rs st = some (sz rs : Int) :=
  size_l0 rs st hs hl rs.length k 0 0 rfl hk (Nat.zero_le _) (by simp)
theorem csize_l0 (rs : List S45) (hs : sz rs ≤ 4611686018427387904) (hl : rs.length ≤ 1048576) : ∀ (d k i : Nat) (n : Nat), rs.length - i = d → d < k → i ≤ rs.length → n + sz (rs.drop i) = sz rs → core_Size.l0 k n rs (rs.length : Int) i = some (sz rs : Int)
  | 0, k, i, n, hd, hk, hi, hn => by
    obtain ⟨k, rfl⟩ : ∃ m, k = m + 1 := ⟨k - 1, by omega⟩
    rw [List.drop_of_length_le (by omega), sz] at hn
    rw [core_Size.l0, if_neg (by omega)]
    congr 1; omega
  | d + 1, k, i, n, hd, hk, hi, hn => by
    obtain ⟨k, rfl⟩ : ∃ m, k = m + 1 := ⟨k - 1, by omega⟩
    rw [drop_cr (by omega), sz] at hn
    have hw : wrap64 ((i : Int) + 1) = ((i + 1 : Nat) : Int) := by rw [IntWalk.wrap64_in _ (by omega)]; rfl
    have hw2 : wrap64 ((n : Int) + ((cr rs i).f1.length : Int)) = ((n + (cr rs i).f1.length : Nat) : Int) := by rw [IntWalk.wrap64_in _ (by omega)]; rfl
    have e : rd_T45 rs (i : Int) = cr rs i := by rw [rd_T45, Int.toNat_natCast]; rfl
    rw [core_Size.l0, if_pos (by omega), if_pos (by omega), if_pos (by omega), e, hw, hw2]
    exact csize_l0 rs hs hl d k (i + 1) _ (by omega) (by omega) (by omega) (by omega)
theorem csize_f (rs : List S45) (st : Int) (hs : sz rs ≤ 4611686018427387904) (hl : rs.length ≤ 1048576) (k : Nat) (hk : rs.length < k) : core_Size.f k rs st = some (sz rs : Int) :=
  csize_l0 rs hs hl rs.length k 0 0 rfl hk (Nat.zero_le _) (by simp)
theorem heavy_f (rs : List S45) (st : Int) (hb : ∀ x ∈ rs, x.f1.length ≤ 140737488355328) (k : Nat) (hk : 4096 < k) : dowellaw14_heavy.f k rs st = some (decide (4096 < rs.length ∨ 1048576 < sz rs)) := by
  unfold dowellaw14_heavy.f
  by_cases h : 4096 < rs.length
  · rw [if_pos (by omega)]
    simp [h]
  · have := sz_le hb
    have : rs.length * 140737488355328 ≤ 4096 * 140737488355328 := Nat.mul_le_mul_right _ (by omega)
    rw [if_neg (by omega), size_f rs st (by omega) (by omega) k (by omega), Option.bind_some]
    congr 1
    rw [Bool.eq_iff_iff]
    simp [h]
    omega
def cnt (op : Int) : Int := if 0 ≤ op ∧ op ≤ 8 then (arz op : Int) else -1
theorem count_f (op : Int) (k : Nat) (hk : 1 < k) : dowelref09_count.f k op = some (cnt op) := by
  obtain ⟨k, rfl⟩ : ∃ m, k = m + 2 := ⟨k - 2, by omega⟩
  unfold dowelref09_count.f cnt
  have hc : op = 0 ∨ op = 1 ∨ op = 2 ∨ op = 3 ∨ op = 4 ∨ op = 5 ∨ op = 6 ∨ op = 7 ∨ op = 8 ∨ op < 0 ∨ 8 < op := by omega
  rcases hc with rfl | rfl | rfl | rfl | rfl | rfl | rfl | rfl | rfl | h | h
  · rfl
  · rfl
  · rfl
  · rfl
  · rfl
  · rfl
  · rfl
  · rfl
  · rfl
  · rw [if_neg (by omega), if_neg (by omega), if_neg (by omega), dowelref09_count.j0, if_neg (by simp; omega), if_neg (by omega), if_neg (by omega), dowelref09_count.j1, if_neg (by simp; omega), if_neg (by omega), if_neg (by omega), if_neg (by omega)]
  · rw [if_neg (by omega), if_neg (by omega), if_neg (by omega), dowelref09_count.j0, if_neg (by simp; omega), if_neg (by omega), if_neg (by omega), dowelref09_count.j1, if_neg (by simp; omega), if_neg (by omega), if_neg (by omega), if_neg (by omega)]
theorem plain_l0 (s : ByteArray) (hs : s.size ≤ 1048576) : ∀ (d k i : Nat), s.size - i = d → d < k → i ≤ s.size → dowelbase_Own.l0 k s i = some (((bl s).drop i).all fun c => decide (c ≠ 58 ∧ c ≠ 126))
  | 0, k, i, hd, hk, hi => by
    obtain ⟨k, rfl⟩ : ∃ m, k = m + 1 := ⟨k - 1, by omega⟩
    rw [dowelbase_Own.l0, if_neg (by omega), drop_bl_nil s (by omega)]
    rfl
  | d + 1, k, i, hd, hk, hi => by
    obtain ⟨k, rfl⟩ : ∃ m, k = m + 1 := ⟨k - 1, by omega⟩
    have hw : wrap64 ((i : Int) + 1) = ((i + 1 : Nat) : Int) := by rw [IntWalk.wrap64_in _ (by omega)]; rfl
    have ih := plain_l0 s hs d k (i + 1) (by omega) (by omega) (by omega)
    rw [dowelbase_Own.l0, if_pos (by omega), if_pos (by omega), bt_bl s (by omega), hw, ih, drop_bl s (show i < s.size by omega), List.all_cons]
    generalize (bl s).getD i 0 = c
    by_cases h1 : c = 58
    · rw [if_pos h1]; simp [h1]
    · rw [if_neg h1]
      by_cases h2 : c = 126
      · rw [if_pos h2]; simp [h2]
      · rw [if_neg h2]; simp [h1, h2]
theorem plain_f (s : ByteArray) (hs : s.size ≤ 1048576) (k : Nat) (hk : s.size < k) : dowelbase_Own.f k s = some (plainS s) := by
  have := plain_l0 s hs s.size k 0 rfl hk (Nat.zero_le _)
  rw [List.drop_zero] at this
  exact this
theorem nameOK_le {s : ByteArray} (h : nameOK s = true) : s.size ≤ 64 := by
  have := of_decide_eq_true h
  exact this.2.1
theorem clean_f (N : Nat) (x : S55) (hop : 0 ≤ x.f0 ∧ x.f0 ≤ 8) (k : Nat) (hk : 100 < k) : dowelref09_clean.f k x.f0 x.f1.f0 x.f1.f1 x.f1.f2 x.f1.f3 x.f2 x.f3 N = some (nodeOK N x) := by
  obtain ⟨k, rfl⟩ : ∃ m, k = m + 3 := ⟨k - 3, by omega⟩
  have j2 : ∀ b, b = decide (x.f0 = 3 ∨ x.f0 = 8) → dowelref09_clean.j2 (k + 1) b x.f0 x.f1.f0 x.f1.f1 x.f1.f2 x.f1.f3 x.f2 x.f3 = some (if x.f0 = 3 ∨ x.f0 = 8 then nameOK x.f3 && plainS x.f3 else decide (x.f3.size = 0)) := by
    intro b hb
    rw [dowelref09_clean.j2, name_f _ _ (by omega), Option.bind_some]
    by_cases h : x.f0 = 3 ∨ x.f0 = 8
    · rw [if_pos (by rw [hb]; simp [h]), if_pos h]
      by_cases h1 : nameOK x.f3 = true
      · have := nameOK_le h1
        rw [if_pos h1, plain_f _ (by omega) _ (by omega), Option.bind_some, h1, Bool.true_and]
      · rw [if_neg h1]
        simp [h1]
    · rw [if_neg (by rw [hb]; simp [h]), if_neg h, nil_iff]
  have j2' : ∀ b, b = false → dowelref09_clean.j1 (k + 2) b x.f0 x.f1.f0 x.f1.f1 x.f1.f2 x.f1.f3 x.f2 x.f3 = some (if x.f0 = 3 ∨ x.f0 = 8 then nameOK x.f3 && plainS x.f3 else decide (x.f3.size = 0)) := by
    rintro b rfl
    rw [dowelref09_clean.j1, if_neg (by decide)]
    by_cases h3 : x.f0 = 3
    · rw [if_pos h3, j2 _ (by simp [h3])]
    · rw [if_neg h3, j2 _ (by rw [Bool.eq_iff_iff]; simp [h3])]
  have j1' : dowelref09_clean.j1 (k + 2) true x.f0 x.f1.f0 x.f1.f1 x.f1.f2 x.f1.f3 x.f2 x.f3 = some false := by
    rw [dowelref09_clean.j1, if_pos rfl]
  have j0 : dowelref09_clean.j0 (k + 3) N false x.f0 x.f1.f0 x.f1.f1 x.f1.f2 x.f1.f3 x.f2 x.f3 = some (decide ((x.f0 = 2 → 0 ≤ x.f2 ∧ x.f2 < N) ∧ (x.f0 ≠ 2 → x.f2 = 0)) && (if x.f0 = 3 ∨ x.f0 = 8 then nameOK x.f3 && plainS x.f3 else decide (x.f3.size = 0))) := by
    rw [dowelref09_clean.j0, if_neg (by decide)]
    by_cases h2 : x.f0 = 2
    · rw [if_pos h2]
      by_cases h3 : x.f2 < 0
      · rw [if_pos h3, j1']
        congr 1; symm
        rw [Bool.and_eq_false_iff]
        exact .inl (decide_eq_false fun q => by have := (q.1 h2).1; omega)
      · rw [if_neg h3]
        by_cases h4 : x.f2 ≥ N
        · rw [if_pos h4, j1']
          congr 1; symm
          rw [Bool.and_eq_false_iff]
          exact .inl (decide_eq_false fun q => by have := (q.1 h2).2; omega)
        · have hd : decide ((x.f0 = 2 → 0 ≤ x.f2 ∧ x.f2 < N) ∧ (x.f0 ≠ 2 → x.f2 = 0)) = true := decide_eq_true ⟨fun _ => ⟨by omega, by omega⟩, fun q => absurd h2 q⟩
          rw [if_neg h4, j2' _ rfl, hd, Bool.true_and]
    · rw [if_neg h2]
      by_cases h3 : x.f2 = 0
      · have hd : decide ((x.f0 = 2 → 0 ≤ x.f2 ∧ x.f2 < N) ∧ (x.f0 ≠ 2 → x.f2 = 0)) = true := decide_eq_true ⟨fun q => absurd q h2, fun _ => h3⟩
        rw [j2' _ (by simp [h3]), hd, Bool.true_and]
      · have : (x.f2 != 0) = true := by simp [h3]
        rw [this, j1']
        congr 1; symm
        rw [Bool.and_eq_false_iff]
        exact .inl (decide_eq_false fun q => h3 (q.2 h2))
  unfold dowelref09_clean.f nodeOK
  by_cases h1 : x.f0 = 1
  · rw [if_pos h1, j0]
    congr 2
    rw [Bool.eq_iff_iff]
    simp [h1]
  · rw [if_neg h1]
    by_cases hz : x.f1.f0 = 0 ∧ x.f1.f1 = 0 ∧ x.f1.f2 = 0 ∧ x.f1.f3 = 0
    · have : (!(x.f1.f0 == 0) || (!(x.f1.f1 == 0) || (!(x.f1.f2 == 0) || (!(x.f1.f3 == 0))))) = false := by simp [hz]
      rw [this, j0]
      congr 2
      rw [Bool.eq_iff_iff]
      simp only [decide_eq_true_eq]
      exact ⟨fun q => ⟨hop.1, hop.2, fun _ => hz, q.1, q.2⟩, fun q => ⟨q.2.2.2.1, q.2.2.2.2⟩⟩
    · have : (!(x.f1.f0 == 0) || (!(x.f1.f1 == 0) || (!(x.f1.f2 == 0) || (!(x.f1.f3 == 0))))) = true := by
        rw [Bool.eq_iff_iff]
        simp
        omega
      rw [this, dowelref09_clean.j0, if_pos rfl]
      congr 1; symm
      rw [Bool.and_eq_false_iff]
      exact .inl (decide_eq_false fun q => hz (q.2.2.1 h1))
theorem body_l0 (N : Nat) (xs : List S55) (hl : xs.length ≤ 1048576) : ∀ (d k i n : Nat), xs.length - i = d → d + 200 < k → i ≤ xs.length → n ≤ i → dowelref09_body.l0 k xs N n i = some (goB N (xs.drop i) n)
  | 0, k, i, n, hd, hk, hi, hn => by
    obtain ⟨k, rfl⟩ : ∃ m, k = m + 1 := ⟨k - 1, by omega⟩
    rw [dowelref09_body.l0, if_neg (by omega), List.drop_of_length_le (by omega), goB]
    congr 1
    rw [Bool.eq_iff_iff]
    simp
    omega
  | d + 1, k, i, n, hd, hk, hi, hn => by
    obtain ⟨k, rfl⟩ : ∃ m, k = m + 1 := ⟨k - 1, by omega⟩
    have e : rd_T55 xs (i : Int) = cd xs i := by rw [rd_T55, Int.toNat_natCast]; rfl
    rw [dowelref09_body.l0, if_pos (by omega), if_pos (by omega), e, drop_cd (by omega), goB]
    generalize cd xs i = x
    rw [count_f _ _ (by omega), Option.bind_some, cnt]
    by_cases hop : 0 ≤ x.f0 ∧ x.f0 ≤ 8
    · rw [if_pos hop, if_neg (by omega)]
      by_cases ha : arz x.f0 ≤ n
      · rw [if_neg (by omega), clean_f N x hop _ (by omega), Option.bind_some]
        have h2 : arz x.f0 ≤ 2 := by unfold arz; split <;> (try split) <;> omega
        have hw : wrap64 ((i : Int) + 1) = ((i + 1 : Nat) : Int) := by rw [IntWalk.wrap64_in _ (by omega)]; rfl
        have hw2 : wrap64 (wrap64 ((n : Int) - (arz x.f0 : Int)) + 1) = ((n + 1 - arz x.f0 : Nat) : Int) := by
          rw [IntWalk.wrap64_in ((n : Int) - _) (by omega), IntWalk.wrap64_in _ (by omega)]
          omega
        by_cases hc : nodeOK N x = true
        · rw [if_pos hc, hw, hw2, body_l0 N xs hl d k (i + 1) (n + 1 - arz x.f0) (by omega) (by omega) (by omega) (by omega), hc]
          simp [ha]
        · rw [if_neg hc]
          simp [hc]
      · rw [if_pos (by omega)]
        simp [ha]
    · rw [if_neg hop, if_pos (by omega)]
      have : nodeOK N x = false := by
        rw [nodeOK, Bool.and_eq_false_iff]
        exact .inl (decide_eq_false fun q => hop ⟨q.1, q.2.1⟩)
      simp [this]
theorem body_f (N : Nat) (xs : List S55) (hl : xs.length ≤ 1048576) (k : Nat) (hk : xs.length + 200 < k) : dowelref09_body.f k xs N = some (goB N xs 0) :=
  body_l0 N xs hl xs.length k 0 0 rfl hk (Nat.zero_le _) (Nat.le_refl _)
theorem str_eq {s t : ByteArray} : s.toList = t.toList ↔ s = t := ⟨fun h => by rw [ByteArray.toList_eq, ByteArray.toList_eq] at h; exact ByteArray.ext (Array.toList_inj.1 h), fun h => by rw [h]⟩
end Go.Proofs.Ytmpkkphohilkoaa.B
namespace Go.Proofs.Ytmpkkphohilkoaa.F
open Go.RowKit Go.Proofs.YtmpkkphohilkoaaW.PrintWords Go.Proofs.YtmpkkphohilkoaaW.PrintLast Go.Proofs.YtmpkkphohilkoaaW.PrintMore
attribute [local go_sem] max2_int min2_int max_two min_two max_three min_three max_four min_four   -- for this text's walks alone
set_option linter.unusedVariables false
set_option linter.unusedSimpArgs false

theorem eqA55 (d : Nat) (w : World) (x0 y0 : Int) (x1 y1 : Int) (x2 y2 : Int) (x3 y3 : Int) (x4 y4 : Int) (x5 y5 : Int) (x6 y6 : ByteArray) :
    (Op.equalIn (d + 3) 55 (.agg #[.int .i64 x0, .int .u64 x1, .int .u64 x2, .int .u64 x3, .int .u64 x4, .int .i64 x5, .string x6]) (.agg #[.int .i64 y0, .int .u64 y1, .int .u64 y2, .int .u64 y3, .int .u64 y4, .int .i64 y5, .string y6])).run Try.prog w = .ok (x0 == y0 && ((x1 == y1 && (x2 == y2 && (x3 == y3 && (x4 == y4)))) && (x5 == y5 && (x6.toList == y6.toList)))) w := by
  refine eqA_of Try.underlying55 (by kernel_rfl) ?_
  refine eqf_cons (by rfl) (by go_simp; rfl) (by go_simp; rfl) (by go_simp) ?_
  refine eqf_cons (by rfl) (by go_simp) (by go_simp) (eqA53 (d + 0) w _ _ _ _ _ _ _ _) ?_
  refine eqf_cons (by rfl) (by go_simp; rfl) (by go_simp; rfl) (by go_simp) ?_
  exact eqf_last (by rfl) (by go_simp; rfl) (by go_simp; rfl) (by go_simp)
end Go.Proofs.Ytmpkkphohilkoaa.F
namespace Go.Proofs.Ytmpkkphohilkoaa.F
open Go.RowKit Go.Proofs.YtmpkkphohilkoaaW.PrintWords Go.Proofs.YtmpkkphohilkoaaW.PrintLast Go.Proofs.YtmpkkphohilkoaaW.PrintMore
attribute [local go_sem] max2_int min2_int max_two min_two max_three min_three max_four min_four   -- for this text's walks alone
set_option linter.unusedVariables false
set_option linter.unusedSimpArgs false

/-! ### lexis_numbered: function 49 -/
mutual
def lexis_numbered.j0 : Nat → ByteArray → Bool → Option (Int)
  | 0, _, _ => none
  | k + 1, x0, x10 => if x10 = true then (some 0) else (lexis_numbered.l0 k x0 1)
def lexis_numbered.l0 : Nat → ByteArray → Int → Option (Int)
  | 0, _, _ => none
  | k + 1, x0, x3 => if x3 < (x0.size : Int) then (if 0 ≤ x3 then ((lexis_digit.f (bt x0 x3)).bind fun t121 => (if t121 = true then (lexis_numbered.l0 k x0 (wrap64 (x3 + 1))) else (if x3 = 1 then (some 0) else (if x3 > 6 then (some 0) else (if 1 < (x0.size : Int) then (if (bt x0 1) = 48 then (some 0) else (some x3)) else (none)))))) else (none)) else (if x3 = 1 then (some 0) else (if x3 > 6 then (some 0) else (if 1 < (x0.size : Int) then (if (bt x0 1) = 48 then (some 0) else (some x3)) else (none))))
end
def lexis_numbered.f (k : Nat) (a0 : ByteArray) : Option (Int) := if a0.toList = ([] : List UInt8) then (lexis_numbered.j0 k a0 true) else (if 0 < (a0.size : Int) then (lexis_numbered.j0 k a0 ((bt a0 0) != 126)) else (none))
set_option maxHeartbeats 8000000 in
set_option maxRecDepth 100000 in
theorem lexis_numbered.calls (k : Nat) (a0 : ByteArray) (r : Int) (w : World) (h : lexis_numbered.f k a0 = some r) :
    Calls Try.prog 49 #[.string a0] w fun e w' => e = .returned (.int .i64 r) ∧ Drawn0 w w' := by
  have H : (if a0.toList = ([] : List UInt8) then (lexis_numbered.j0 k a0 true) else (if 0 < (a0.size : Int) then (lexis_numbered.j0 k a0 ((bt a0 0) != 126)) else (none))) = some r := h
  clear h
  have HC2 := Aside0.mk H
  clear H
  go_enter Try.func49, Try.ntmps49
  go_upto_region 1 with (fail)
  go_cut [10] (fun v10 wc => ∃ (kq : Nat) (x10_1 : Bool), v10 = .bool x10_1 ∧ Aside0 (lexis_numbered.j0 kq a0 x10_1 = some r) ∧ Aside0 (kq ≤ k) ∧ Drawn0 w wc)
  case first =>
    have H := HC2.out
    clear HC2
    by_cases c3 : a0.toList = ([] : List UInt8)
    · rw [if_pos c3] at H
      have c3b0 : (a0.toList == ([] : List UInt8)) = true := beq_iff_eq.mpr c3
      have c3b1 : (a0.toList != ([] : List UInt8)) = false := bne_eq_false_iff_eq.mpr c3
      clear c3
      (first | rw [c3b0] | (simp only [i64_w, i32_w]; rw [c3b0]) | skip)
      have H' := Aside0.mk H
      clear H
      go_wp2
      go_meet
      case rel => exact ⟨_, (true), (by first | rfl | (simp; done) | (simp [*]; done)), H', ⟨by first | omega | exact Nat.le_refl _⟩, by repeat (first | exact Drawn0.refl _ | apply Drawn0.step)⟩
    · rw [if_neg c3] at H
      have c3b0 : (a0.toList == ([] : List UInt8)) = false := beq_eq_false_iff_ne.mpr c3
      have c3b1 : (a0.toList != ([] : List UInt8)) = true := bne_iff_ne.mpr c3
      (first | rw [c3b0] | (simp only [i64_w, i32_w]; rw [c3b0]) | skip)
      by_cases c4 : 0 < (a0.size : Int)
      · rw [if_pos c4] at H
        have c4b0 : decide (0 < (a0.size : Int)) = true := decide_eq_true c4
        have c4b1 : decide (0 < a0.size) = true := decide_eq_true (by omega)
        clear c4
        have H' := Aside0.mk H
        clear H
        have p5 : 0 ≤ (0 : Int) := (by omega)
        have q5 : 0 < a0.size := (by have : (0 : Int) < (a0.size : Int) := of_decide_eq_true (by first | (with_reducible assumption) | assumption); omega)
        have hx5 : ∀ h : 0 < a0.size, ((a0[0]'h).toNat : Int) = bt a0 0 := bt_at a0 0
        clear p5
        have qi5 : (0 < (a0.size : Int)) = True := eq_true (of_decide_eq_true (by first | (with_reducible assumption) | assumption))
        replace q5 := eq_true q5
        go_wp2
        go_meet
        case rel => exact ⟨_, (((bt a0 0) != 126)), (by first | rfl | (simp; done) | (simp [*]; done)), H', ⟨by first | omega | exact Nat.le_refl _⟩, by repeat (first | exact Drawn0.refl _ | apply Drawn0.step)⟩
      · rw [if_neg c4] at H
        exact absurd H (by simp)
  case rest =>
    clear HC2
    try clear p2
    try clear c3
    try clear c3b0
    try clear c3b1
    try clear c4
    try clear c4b0
    try clear c4b1
    try clear p5
    try clear q5
    try clear hx5
    try clear qi5
    try clear p5
    try clear q5
    obtain ⟨kq, x10_1, rfl, HA, HJ1, ⟨mc1, rfl⟩⟩ := hcut
    cases kq with
    | zero => exact absurd HA.out (by simp [lexis_numbered.j0])
    | succ kj1 =>
      have H := HA.out
      clear HA
      simp only [lexis_numbered.j0] at H
      by_cases c6 : x10_1 = true
      · subst c6
        have H1 : (some 0) = some r := by rw [if_pos rfl] at H; exact H
        clear H
        have H := H1
        clear H1
        obtain rfl := Option.some.inj H
        go_wp2
        go_ret
        exact ⟨by first | rfl | (simp; done) | (simp [*]; done), by repeat (first | exact Drawn0.refl _ | apply Drawn0.step)⟩
      · replace c6 := Bool.eq_false_iff.mpr c6
        subst c6
        have H1 : (lexis_numbered.l0 kj1 a0 1) = some r := by rw [if_neg (show ¬ (false = true) by decide)] at H; exact H
        clear H
        have H := H1
        clear H1
        have H' := Aside0.mk H
        clear H
        go_wp2
        go_loopg [3] kj1 (fun kq v3 w' => ∃ (x3_2 : Int), v3 = .int .i64 x3_2 ∧ Aside0 (lexis_numbered.l0 kq a0 x3_2 = some r) ∧ Aside0 (kq ≤ kj1) ∧ Drawn0 w w')
        case atStart => exact ⟨(1), (by first | rfl | (simp; done) | (simp [*]; done)), H', ⟨Nat.le_refl _⟩, by repeat (first | exact Drawn0.refl _ | apply Drawn0.step)⟩
        case round =>
          clear H'
          try clear c1
          try clear p2
          try clear c3
          try clear c3b0
          try clear c3b1
          try clear c4
          try clear c4b0
          try clear c4b1
          try clear p5
          try clear q5
          try clear hx5
          try clear qi5
          try clear c6
          try clear p2
          try clear p5
          try clear q5
          obtain ⟨x3_2, rfl, HA, HK2, ⟨m2, rfl⟩⟩ := hrel
          cases gk with
          | zero => exact absurd HA.out (by simp [lexis_numbered.l0])
          | succ k2 =>
            have H := HA.out
            clear HA
            simp only [lexis_numbered.l0] at H
            by_cases c7 : x3_2 < (a0.size : Int)
            · rw [if_pos c7] at H
              have c7b0 : decide (x3_2 < (a0.size : Int)) = true := decide_eq_true c7
              clear c7
              by_cases c8 : 0 ≤ x3_2
              · rw [if_pos c8] at H
                have c8b0 : decide (0 ≤ x3_2) = true := decide_eq_true c8
                clear c8
                replace H := Option.bind_eq_some_iff.mp H
                obtain ⟨t121, A100, H⟩ := H
                replace H : (if t121 = true then (lexis_numbered.l0 k2 a0 (wrap64 (x3_2 + 1))) else (if x3_2 = 1 then (some 0) else (if x3_2 > 6 then (some 0) else (if 1 < (a0.size : Int) then (if (bt a0 1) = 48 then (some 0) else (some x3_2)) else (none))))) = some r := H
                have A10 := Aside0.mk A100
                clear A100
                by_cases c11 : t121 = true
                · subst c11
                  have H1 : (lexis_numbered.l0 k2 a0 (wrap64 (x3_2 + 1))) = some r := by rw [if_pos rfl] at H; exact H
                  clear H
                  have H := H1
                  clear H1
                  have H' := Aside0.mk H
                  clear H
                  have p9 : 0 ≤ (x3_2 : Int) := of_decide_eq_true (by first | (with_reducible assumption) | assumption)
                  have q9 : x3_2 < (a0.size : Int) := of_decide_eq_true (by first | (with_reducible assumption) | assumption)
                  have hx9 := bt_at a0 x3_2
                  replace p9 := eq_true p9
                  replace q9 := eq_true q9
                  go_wp2_with (first | (go_at_call 55; (with_reducible refine (lexis_digit.calls (bt a0 x3_2) true _ A10.out).mono ?_); rintro e w' ⟨rfl, ⟨nd, rfl⟩⟩))
                  go_roundg k2
                  case measure => have := HJ1.out; have := HK2.out; omega
                  case rel => exact ⟨(wrap64 (x3_2 + 1)), (by first | rfl | (simp; done) | (simp [*]; done)), H', ⟨by have := HJ1.out; have := HK2.out; omega⟩, by repeat (first | exact Drawn0.refl _ | apply Drawn0.step)⟩
                · replace c11 := Bool.eq_false_iff.mpr c11
                  subst c11
                  have H1 : (if x3_2 = 1 then (some 0) else (if x3_2 > 6 then (some 0) else (if 1 < (a0.size : Int) then (if (bt a0 1) = 48 then (some 0) else (some x3_2)) else (none)))) = some r := by rw [if_neg (show ¬ (false = true) by decide)] at H; exact H
                  clear H
                  have H := H1
                  clear H1
                  by_cases c12 : x3_2 = 1
                  · rw [if_pos c12] at H
                    have c12b0 : (x3_2 == 1) = true := beq_iff_eq.mpr c12
                    have c12b1 : (x3_2 != 1) = false := bne_eq_false_iff_eq.mpr c12
                    clear c12
                    obtain rfl := Option.some.inj H
                    have p9 : 0 ≤ (x3_2 : Int) := of_decide_eq_true (by first | (with_reducible assumption) | assumption)
                    have q9 : x3_2 < (a0.size : Int) := of_decide_eq_true (by first | (with_reducible assumption) | assumption)
                    have hx9 := bt_at a0 x3_2
                    replace p9 := eq_true p9
                    replace q9 := eq_true q9
                    go_wp2_with (first | (go_at_call 55; (with_reducible refine (lexis_digit.calls (bt a0 x3_2) false _ A10.out).mono ?_); rintro e w' ⟨rfl, ⟨nd, rfl⟩⟩))
                    go_ret
                    exact ⟨by first | rfl | (simp; done) | (simp [*]; done), by repeat (first | exact Drawn0.refl _ | apply Drawn0.step)⟩
                  · rw [if_neg c12] at H
                    have c12b0 : (x3_2 == 1) = false := beq_eq_false_iff_ne.mpr c12
                    have c12b1 : (x3_2 != 1) = true := bne_iff_ne.mpr c12
                    by_cases c13 : x3_2 > 6
                    · rw [if_pos c13] at H
                      have c13b0 : decide (6 < x3_2) = true := decide_eq_true c13
                      clear c13
                      obtain rfl := Option.some.inj H
                      have p9 : 0 ≤ (x3_2 : Int) := of_decide_eq_true (by first | (with_reducible assumption) | assumption)
                      have q9 : x3_2 < (a0.size : Int) := of_decide_eq_true (by first | (with_reducible assumption) | assumption)
                      have hx9 := bt_at a0 x3_2
                      replace p9 := eq_true p9
                      replace q9 := eq_true q9
                      go_wp2_with (first | (go_at_call 55; (with_reducible refine (lexis_digit.calls (bt a0 x3_2) false _ A10.out).mono ?_); rintro e w' ⟨rfl, ⟨nd, rfl⟩⟩))
                      go_ret
                      exact ⟨by first | rfl | (simp; done) | (simp [*]; done), by repeat (first | exact Drawn0.refl _ | apply Drawn0.step)⟩
                    · rw [if_neg c13] at H
                      have c13b0 : decide (6 < x3_2) = false := decide_eq_false c13
                      clear c13
                      by_cases c14 : 1 < (a0.size : Int)
                      · rw [if_pos c14] at H
                        have c14b0 : decide (1 < (a0.size : Int)) = true := decide_eq_true c14
                        have c14b1 : decide (1 < a0.size) = true := decide_eq_true (by omega)
                        clear c14
                        by_cases c16 : (bt a0 1) = 48
                        · rw [if_pos c16] at H
                          have c16b0 : ((bt a0 1) == 48) = true := beq_iff_eq.mpr c16
                          have c16b1 : ((bt a0 1) != 48) = false := bne_eq_false_iff_eq.mpr c16
                          clear c16
                          obtain rfl := Option.some.inj H
                          have p9 : 0 ≤ (x3_2 : Int) := of_decide_eq_true (by first | (with_reducible assumption) | assumption)
                          have q9 : x3_2 < (a0.size : Int) := of_decide_eq_true (by first | (with_reducible assumption) | assumption)
                          have hx9 := bt_at a0 x3_2
                          replace p9 := eq_true p9
                          replace q9 := eq_true q9
                          go_wp2_with (first | (go_at_call 55; (with_reducible refine (lexis_digit.calls (bt a0 x3_2) false _ A10.out).mono ?_); rintro e w' ⟨rfl, ⟨nd, rfl⟩⟩; have p15 : 0 ≤ (1 : Int) := (by omega); have q15 : 1 < a0.size := (by have : (1 : Int) < (a0.size : Int) := of_decide_eq_true (by first | (with_reducible assumption) | assumption); omega); have hx15 : ∀ h : 1 < a0.size, ((a0[1]'h).toNat : Int) = bt a0 1 := bt_at a0 1; clear p15; have qi15 : (1 < (a0.size : Int)) = True := eq_true (of_decide_eq_true (by first | (with_reducible assumption) | assumption)); replace q15 := eq_true q15))
                          go_ret
                          exact ⟨by first | rfl | (simp; done) | (simp [*]; done), by repeat (first | exact Drawn0.refl _ | apply Drawn0.step)⟩
                        · rw [if_neg c16] at H
                          have c16b0 : ((bt a0 1) == 48) = false := beq_eq_false_iff_ne.mpr c16
                          have c16b1 : ((bt a0 1) != 48) = true := bne_iff_ne.mpr c16
                          obtain rfl := Option.some.inj H
                          have p9 : 0 ≤ (x3_2 : Int) := of_decide_eq_true (by first | (with_reducible assumption) | assumption)
                          have q9 : x3_2 < (a0.size : Int) := of_decide_eq_true (by first | (with_reducible assumption) | assumption)
                          have hx9 := bt_at a0 x3_2
                          replace p9 := eq_true p9
                          replace q9 := eq_true q9
                          go_wp2_with (first | (go_at_call 55; (with_reducible refine (lexis_digit.calls (bt a0 x3_2) false _ A10.out).mono ?_); rintro e w' ⟨rfl, ⟨nd, rfl⟩⟩; have p15 : 0 ≤ (1 : Int) := (by omega); have q15 : 1 < a0.size := (by have : (1 : Int) < (a0.size : Int) := of_decide_eq_true (by first | (with_reducible assumption) | assumption); omega); have hx15 : ∀ h : 1 < a0.size, ((a0[1]'h).toNat : Int) = bt a0 1 := bt_at a0 1; clear p15; have qi15 : (1 < (a0.size : Int)) = True := eq_true (of_decide_eq_true (by first | (with_reducible assumption) | assumption)); replace q15 := eq_true q15))
                          go_ret
                          exact ⟨by first | rfl | (simp; done) | (simp [*]; done), by repeat (first | exact Drawn0.refl _ | apply Drawn0.step)⟩
                      · rw [if_neg c14] at H
                        exact absurd H (by simp)
              · rw [if_neg c8] at H
                exact absurd H (by simp)
            · rw [if_neg c7] at H
              have c7b0 : decide (x3_2 < (a0.size : Int)) = false := decide_eq_false c7
              clear c7
              by_cases c17 : x3_2 = 1
              · rw [if_pos c17] at H
                have c17b0 : (x3_2 == 1) = true := beq_iff_eq.mpr c17
                have c17b1 : (x3_2 != 1) = false := bne_eq_false_iff_eq.mpr c17
                clear c17
                obtain rfl := Option.some.inj H
                go_wp2
                go_ret
                exact ⟨by first | rfl | (simp; done) | (simp [*]; done), by repeat (first | exact Drawn0.refl _ | apply Drawn0.step)⟩
              · rw [if_neg c17] at H
                have c17b0 : (x3_2 == 1) = false := beq_eq_false_iff_ne.mpr c17
                have c17b1 : (x3_2 != 1) = true := bne_iff_ne.mpr c17
                by_cases c18 : x3_2 > 6
                · rw [if_pos c18] at H
                  have c18b0 : decide (6 < x3_2) = true := decide_eq_true c18
                  clear c18
                  obtain rfl := Option.some.inj H
                  go_wp2
                  go_ret
                  exact ⟨by first | rfl | (simp; done) | (simp [*]; done), by repeat (first | exact Drawn0.refl _ | apply Drawn0.step)⟩
                · rw [if_neg c18] at H
                  have c18b0 : decide (6 < x3_2) = false := decide_eq_false c18
                  clear c18
                  by_cases c19 : 1 < (a0.size : Int)
                  · rw [if_pos c19] at H
                    have c19b0 : decide (1 < (a0.size : Int)) = true := decide_eq_true c19
                    have c19b1 : decide (1 < a0.size) = true := decide_eq_true (by omega)
                    clear c19
                    by_cases c21 : (bt a0 1) = 48
                    · rw [if_pos c21] at H
                      have c21b0 : ((bt a0 1) == 48) = true := beq_iff_eq.mpr c21
                      have c21b1 : ((bt a0 1) != 48) = false := bne_eq_false_iff_eq.mpr c21
                      clear c21
                      obtain rfl := Option.some.inj H
                      have p20 : 0 ≤ (1 : Int) := (by omega)
                      have q20 : 1 < a0.size := (by have : (1 : Int) < (a0.size : Int) := of_decide_eq_true (by first | (with_reducible assumption) | assumption); omega)
                      have hx20 : ∀ h : 1 < a0.size, ((a0[1]'h).toNat : Int) = bt a0 1 := bt_at a0 1
                      clear p20
                      have qi20 : (1 < (a0.size : Int)) = True := eq_true (of_decide_eq_true (by first | (with_reducible assumption) | assumption))
                      replace q20 := eq_true q20
                      go_wp2
                      go_ret
                      exact ⟨by first | rfl | (simp; done) | (simp [*]; done), by repeat (first | exact Drawn0.refl _ | apply Drawn0.step)⟩
                    · rw [if_neg c21] at H
                      have c21b0 : ((bt a0 1) == 48) = false := beq_eq_false_iff_ne.mpr c21
                      have c21b1 : ((bt a0 1) != 48) = true := bne_iff_ne.mpr c21
                      obtain rfl := Option.some.inj H
                      have p20 : 0 ≤ (1 : Int) := (by omega)
                      have q20 : 1 < a0.size := (by have : (1 : Int) < (a0.size : Int) := of_decide_eq_true (by first | (with_reducible assumption) | assumption); omega)
                      have hx20 : ∀ h : 1 < a0.size, ((a0[1]'h).toNat : Int) = bt a0 1 := bt_at a0 1
                      clear p20
                      have qi20 : (1 < (a0.size : Int)) = True := eq_true (of_decide_eq_true (by first | (with_reducible assumption) | assumption))
                      replace q20 := eq_true q20
                      go_wp2
                      go_ret
                      exact ⟨by first | rfl | (simp; done) | (simp [*]; done), by repeat (first | exact Drawn0.refl _ | apply Drawn0.step)⟩
                  · rw [if_neg c19] at H
                    exact absurd H (by simp)

/-! ### lexis_named: function 38 -/

/-! ### core_arity: function 39 -/
def core_arity.j0 : Nat → Int → Bool → Option (Int)
  | 0, _, _ => none
  | k + 1, x3, x4 => if x4 = true then (some 2) else (if x3 = 6 then (some 1) else (if x3 = 7 then (some 1) else (if x3 = 8 then (some 1) else (some 0))))
def core_arity.f (k : Nat) (a0 : Int) : Option (Int) := if a0 = 4 then (core_arity.j0 k a0 (a0 == 4)) else (core_arity.j0 k a0 (a0 == 5))
set_option maxHeartbeats 8000000 in
set_option maxRecDepth 100000 in
theorem core_arity.calls (k : Nat) (a0 : Int) (r : Int) (w : World) (h : core_arity.f k a0 = some r) :
    Calls Try.prog 39 #[.int .i64 a0] w fun e w' => e = .returned (.int .i64 r) ∧ Drawn0 w w' := by
  have H : (if a0 = 4 then (core_arity.j0 k a0 (a0 == 4)) else (core_arity.j0 k a0 (a0 == 5))) = some r := h
  clear h
  have HC2 := Aside0.mk H
  clear H
  go_enter Try.func39, Try.ntmps39
  go_upto_if 4 with (fail)
  go_cut [4] (fun v4 wc => ∃ (kq : Nat) (x4_1 : Bool), v4 = .bool x4_1 ∧ Aside0 (core_arity.j0 kq a0 x4_1 = some r) ∧ Aside0 (kq ≤ k) ∧ Drawn0 w wc)
  case first =>
    have H := HC2.out
    clear HC2
    by_cases c3 : a0 = 4
    · rw [if_pos c3] at H
      have c3b0 : (a0 == 4) = true := beq_iff_eq.mpr c3
      have c3b1 : (a0 != 4) = false := bne_eq_false_iff_eq.mpr c3
      clear c3
      (first | rw [c3b0] | (simp only [i64_w, i32_w]; rw [c3b0]) | skip)
      have H' := Aside0.mk H
      clear H
      go_wp2
      go_meet
      case rel => exact ⟨_, ((a0 == 4)), (by first | rfl | (simp; done) | (simp [*]; done)), H', ⟨by first | omega | exact Nat.le_refl _⟩, by repeat (first | exact Drawn0.refl _ | apply Drawn0.step)⟩
    · rw [if_neg c3] at H
      have c3b0 : (a0 == 4) = false := beq_eq_false_iff_ne.mpr c3
      have c3b1 : (a0 != 4) = true := bne_iff_ne.mpr c3
      (first | rw [c3b0] | (simp only [i64_w, i32_w]; rw [c3b0]) | skip)
      have H' := Aside0.mk H
      clear H
      go_wp2
      go_meet
      case rel => exact ⟨_, ((a0 == 5)), (by first | rfl | (simp; done) | (simp [*]; done)), H', ⟨by first | omega | exact Nat.le_refl _⟩, by repeat (first | exact Drawn0.refl _ | apply Drawn0.step)⟩
  case rest =>
    clear HC2
    try clear p2
    try clear c3
    try clear c3b0
    try clear c3b1
    obtain ⟨kq, x4_1, rfl, HA, HJ1, ⟨mc1, rfl⟩⟩ := hcut
    cases kq with
    | zero => exact absurd HA.out (by simp [core_arity.j0])
    | succ kj1 =>
      have H := HA.out
      clear HA
      simp only [core_arity.j0] at H
      by_cases c4 : x4_1 = true
      · subst c4
        have H1 : (some 2) = some r := by rw [if_pos rfl] at H; exact H
        clear H
        have H := H1
        clear H1
        obtain rfl := Option.some.inj H
        go_wp2
        go_ret
        exact ⟨by first | rfl | (simp; done) | (simp [*]; done), by repeat (first | exact Drawn0.refl _ | apply Drawn0.step)⟩
      · replace c4 := Bool.eq_false_iff.mpr c4
        subst c4
        have H1 : (if a0 = 6 then (some 1) else (if a0 = 7 then (some 1) else (if a0 = 8 then (some 1) else (some 0)))) = some r := by rw [if_neg (show ¬ (false = true) by decide)] at H; exact H
        clear H
        have H := H1
        clear H1
        by_cases c5 : a0 = 6
        · rw [if_pos c5] at H
          have c5b0 : (a0 == 6) = true := beq_iff_eq.mpr c5
          have c5b1 : (a0 != 6) = false := bne_eq_false_iff_eq.mpr c5
          clear c5
          obtain rfl := Option.some.inj H
          go_wp2
          go_ret
          exact ⟨by first | rfl | (simp; done) | (simp [*]; done), by repeat (first | exact Drawn0.refl _ | apply Drawn0.step)⟩
        · rw [if_neg c5] at H
          have c5b0 : (a0 == 6) = false := beq_eq_false_iff_ne.mpr c5
          have c5b1 : (a0 != 6) = true := bne_iff_ne.mpr c5
          by_cases c6 : a0 = 7
          · rw [if_pos c6] at H
            have c6b0 : (a0 == 7) = true := beq_iff_eq.mpr c6
            have c6b1 : (a0 != 7) = false := bne_eq_false_iff_eq.mpr c6
            clear c6
            obtain rfl := Option.some.inj H
            go_wp2
            go_ret
            exact ⟨by first | rfl | (simp; done) | (simp [*]; done), by repeat (first | exact Drawn0.refl _ | apply Drawn0.step)⟩
          · rw [if_neg c6] at H
            have c6b0 : (a0 == 7) = false := beq_eq_false_iff_ne.mpr c6
            have c6b1 : (a0 != 7) = true := bne_iff_ne.mpr c6
            by_cases c7 : a0 = 8
            · rw [if_pos c7] at H
              have c7b0 : (a0 == 8) = true := beq_iff_eq.mpr c7
              have c7b1 : (a0 != 8) = false := bne_eq_false_iff_eq.mpr c7
              clear c7
              obtain rfl := Option.some.inj H
              go_wp2
              go_ret
              exact ⟨by first | rfl | (simp; done) | (simp [*]; done), by repeat (first | exact Drawn0.refl _ | apply Drawn0.step)⟩
            · rw [if_neg c7] at H
              have c7b0 : (a0 == 8) = false := beq_eq_false_iff_ne.mpr c7
              have c7b1 : (a0 != 8) = true := bne_iff_ne.mpr c7
              obtain rfl := Option.some.inj H
              go_wp2
              go_ret
              exact ⟨by first | rfl | (simp; done) | (simp [*]; done), by repeat (first | exact Drawn0.refl _ | apply Drawn0.step)⟩

-- NOT PRINTED: function 68 (bytealg_IndexByteString)

-- NOT PRINTED: function 67 (stringslite_IndexByte)

-- NOT PRINTED: function 63 (strings_IndexByte)

/-! ### utf8_ValidRune: function 64 -/

/-! ### bytealg_Cutover: function 65 -/

-- NOT PRINTED: function 66 (bytealg_IndexString)

-- NOT PRINTED: function 57 (strings_IndexRune)

/-! ### strings_shouldUseASCIISet: function 58 -/

-- NOT PRINTED: function 59 (strings_makeASCIISet)

-- NOT PRINTED: function 60 (strings_asciiSet_contains)

-- NOT PRINTED: function 50 (strings_IndexAny)

end Go.Proofs.Ytmpkkphohilkoaa.F
/- dowelref14.begin, walked: the record, and the parts of each body. -/
namespace Go.Proofs.Ytmpkkphohilkoaa.B
open Go Go.RowKit Go.X Go.Ma Go.Proofs.YtmpkkphohilkoaaW.PrintWords Go.Proofs.Ytmpkkphohilkoaa.F

/-- A body's parts, told in a block of their own. -/
def PO (wr : World) (rb base : Nat) (rs : List S45) (n : Nat) (v : Value) : Prop :=
  ∃ q lc, v = .slice (some ⟨q, 0, none⟩) (cr rs n).f1.length (cr rs n).f1.length ∧ q ≠ rb ∧ base ≤ q ∧ Blk wr q 84 lc ∧ ∀ j, j < (cr rs n).f1.length → lc[j * 2]? = some (.int .i64 (pa (bod rs n) j)) ∧ lc[j * 2 + 1]? = some (.int .i64 (pb (bod rs n) j))
theorem PO.kept {wr w' : World} {rb base n : Nat} {rs : List S45} {v : Value} {r : Option Nat} (h : PO wr rb base rs n v) (hg : wr.grownBy w' r) (hr : ∀ q lc, Blk wr q 84 lc → q ≠ rb → some q ≠ r) : PO w' rb base rs n v := by
  obtain ⟨q, lc, h1, h2, h3, h4, h5⟩ := h
  exact ⟨q, lc, h1, h2, h3, h4.grown hg (hr q lc h4 h2), h5⟩
def bvCells (A0 : Option Addr) (N cr : Nat) (start : Int) (vv : Value) (inp : ByteArray) (l : Lim) : List Value := [.slice A0 N cr, .int .i64 start, vv, .string inp, .int .i64 (l.depth : Nat), .int .i64 (l.steps : Nat), .int .i64 0, .int .i64 0, .int .i64 0]
theorem info82 : (Try.prog.info? 82).map (fun i => (i.zero, i.size, i.bytes)) = some (some (.slice none 0 0), 1, 24) := by kernel_rfl
/-- Within begin. -/
structure BV (w wr : World) (A0 : Option Addr) (N cr : Nat) (start : Int) (rb : Nat) (inp : ByteArray) (vv : Value) (l : Lim) (rs : List S45) (vs : List Value) : Prop where
  bel : Below w.heap.size w wr
  b5 : Blk wr w.heap.size 24 [.slice A0 N cr, .int .i64 start]
  rec_ : Blk wr rb 81 (bvCells A0 N cr start vv inp l)
  own : wr.ownsRow w.heap.size 82 1 vv vs.length vs
  lt : w.heap.size + 1 < rb
  po : ∀ n v, vs[n]? = some v → PO wr rb w.heap.size rs n v
theorem BV.more {w wr w' : World} {A0 : Option Addr} {N cr : Nat} {start : Int} {rb : Nat} {inp : ByteArray} {vv : Value} {l : Lim} {rs : List S45} {vs : List Value} (h : BV w wr A0 N cr start rb inp vv l rs vs) (hg : wr.grownBy w' none) : BV w w' A0 N cr start rb inp vv l rs vs :=
  ⟨h.bel.grown hg h.bel.size (fun k hk => by cases hk), h.b5.grown hg (by simp), h.rec_.grown hg (by simp), h.own.kept hg (by cases hv : vv.ownBlock <;> simp), h.lt, fun n v hn => (h.po n v hn).kept hg (by simp)⟩
theorem BV.push {w wr w5 : World} {A0 : Option Addr} {N cr : Nat} {start : Int} {rb : Nat} {inp : ByteArray} {vv v' x : Value} {l : Lim} {rs : List S45} {vs : List Value} (h : BV w wr A0 N cr start rb inp vv l rs vs)
    (hown : w5.ownsRow w.heap.size 82 1 v' (vs.length + 1) (vs ++ [x])) (hg : (wr.alloc (.cells #[x] 82)).grownBy w5 vv.ownBlock) (hx : PO wr rb w.heap.size rs vs.length x) :
    BV w (w5.setCell ⟨rb, 2, none⟩ v') A0 N cr start rb inp v' l rs (vs ++ [x]) ∧ w5.cell? ⟨rb, 2, none⟩ = some vv ∧ w5.frozen? ⟨rb, 2, none⟩ = false := by
  have g0 := World.grownBy_alloc wr (.cells #[x] 82) none
  have h1 := h.more g0
  have k : ∀ {b : Nat} {t : TypeId} {cs : List Value}, Blk (wr.alloc (.cells #[x] 82)) b t cs → t ≠ 82 → Blk w5 b t cs := fun hb ht => hb.grown hg (fun e => own_other h1.own hb ht e.symm)
  have r5 := k h1.rec_ (by decide)
  have gs := grown_setCell w5 ⟨rb, 2, none⟩ v'
  have k2 : ∀ {b : Nat} {t : TypeId} {cs : List Value}, Blk w5 b t cs → b ≠ rb → Blk (w5.setCell ⟨rb, 2, none⟩ v') b t cs := fun hb hne => hb.grown gs (by intro e; injection e with e; exact hne e)
  have hlt := h.lt
  have bb := h1.bel.grown hg h1.bel.size (fun q hq => (h1.own.lt q hq).1)
  refine ⟨⟨bb.setCell (by simp only; omega) _, k2 (k h1.b5 (by decide)) (by omega), r5.setCell 2 _, by
    rw [List.length_append, List.length_singleton]
    exact hown.kept gs (.inr (own_other hown r5 (by decide))), h.lt, fun n v hn => ?_⟩, r5.cell 2, r5.frozen 2⟩
  have hp : ∀ {n v}, PO (wr.alloc (.cells #[x] 82)) rb w.heap.size rs n v → PO (w5.setCell ⟨rb, 2, none⟩ v') rb w.heap.size rs n v := fun hp =>
    (hp.kept hg (fun q lc hb _ e => own_other h1.own hb (by decide) e.symm)).kept gs (fun q lc _ hne e => by injection e with e; exact hne e)
  rcases Nat.lt_or_ge n vs.length with hlt | hge
  · rw [List.getElem?_append_left hlt] at hn
    exact hp (h1.po n v hn)
  · rw [List.getElem?_append_right hge] at hn
    have h0 : n - vs.length = 0 := by
      have := (List.getElem?_eq_some_iff.1 hn).1
      simpa using this
    rw [h0] at hn
    obtain rfl : x = v := by simpa using hn
    obtain rfl : n = vs.length := by omega
    exact hp (hx.kept g0 (by simp))
def BegP (inp : ByteArray) (A : Option Addr) (cR : Nat) (st : Int) (l : Lim) (rs : List S45) (w : World) (e : Ending) (w' : World) : Prop :=
  ∃ rb g cP, e = .returned (.pointer (some ⟨rb, 0, none⟩)) ∧ Rm ⟨inp, A, cR, st, ⟨g, 0, none⟩, cP, rb, l, rs, w⟩ st0 w'
theorem BV.rm {w wr : World} {A0 : Option Addr} {cr : Nat} {start : Int} {rb : Nat} {inp : ByteArray} {g cP : Nat} {l : Lim} {rs : List S45} {vs : List Value} (h : BV w wr A0 rs.length cr start rb inp (.slice (some ⟨g, 0, none⟩) rs.length cP) l rs vs) (hl : vs.length = rs.length) :
    Rm ⟨inp, A0, cr, start, ⟨g, 0, none⟩, cP, rb, l, rs, w⟩ st0 wr := by
  have ho := h.own
  rw [hl] at ho
  refine ⟨h.rec_, h.bel, by have := h.lt; simp only; omega, ?_, fun n hn => ?_⟩
  · have h1 := own_other ho h.rec_ (by decide)
    simp only [Value.ownBlock] at h1
    exact fun e => h1 (congrArg some e)
  · have hn' : n < vs.length := by rw [hl]; exact hn
    obtain ⟨q, lc, h1, h2, h3, h4, h5⟩ := h.po n _ (List.getElem?_eq_getElem hn')
    refine ⟨q, h2, ?_, fun j hj => ?_⟩
    · have := ho.cells rfl n _ (List.getElem?_eq_getElem hn')
      rw [h1] at this
      exact this
    · obtain ⟨a, b⟩ := h5 j hj
      exact ⟨(h4.cell _).trans a, (h4.cell _).trans b⟩
set_option maxRecDepth 100000 in
set_option maxHeartbeats 4000000 in
theorem begin14.calls (Ar : Option Addr) (c : Nat) (start : Int) (rs : List S45) (inp : ByteArray) (D S : Int) (w : World) (hr : Kd.C k45 w Ar rs.length rs) (hg : Good rs) :
    Calls Try.prog 19 #[.agg #[.slice Ar rs.length c, .int .i64 start], .string inp, .agg #[.int .i64 D, .int .i64 S]] w (BegP inp Ar c start (clamp D S) rs w) := by
  have HR := Lib.hid hr; clear hr
  have HG := Lib.hid hg; clear hg
  have HW : ∀ wa : World, wa = (w.alloc (.cells #[.slice Ar rs.length c, .int .i64 start] 24)).alloc (.cells #[.int .i64 D, .int .i64 S] 26) →
      Hid (Below w.heap.size w wa ∧ Blk wa w.heap.size 24 [.slice Ar rs.length c, .int .i64 start] ∧ Blk wa (w.heap.size + 1) 26 [.int .i64 D, .int .i64 S]) := by
    rintro wa rfl
    generalize hw1 : w.alloc (.cells #[.slice Ar rs.length c, .int .i64 start] 24) = w1
    have z1 : w1.heap.size = w.heap.size + 1 := by rw [← hw1]; simp
    have g1 : Below w.heap.size w w1 ∧ Blk w1 w.heap.size 24 [.slice Ar rs.length c, .int .i64 start] := by rw [← hw1]; exact ⟨(Below.refl _ w).alloc (Nat.le_refl _) _, Blk.alloc w _ _⟩
    have g2 := World.grownBy_alloc w1 (.cells #[.int .i64 D, .int .i64 S] 26) none
    have k2 := Blk.alloc w1 #[.int .i64 D, .int .i64 S] 26
    rw [z1] at k2
    exact ⟨g1.1.grown g2 g1.1.size (fun k hk => by cases hk), g1.2.grown g2 (by simp), k2⟩
  go_enter Try.func19, Try.ntmps19
  go_upto_region 1 with (fail)
  generalize hwa : (w.alloc (.cells #[.slice Ar rs.length c, .int .i64 start] 24)).alloc (.cells #[.int .i64 D, .int .i64 S] 26) = wa
  have HA := HW wa hwa.symm
  clear HW hwa
  have a0 : wa.cell? ⟨w.heap.size, 0, none⟩ = some (.slice Ar rs.length c) := HA.out.2.1.cell 0
  have a1 : wa.cell? ⟨w.heap.size, 1, none⟩ = some (.int .i64 start) := HA.out.2.1.cell 1
  have d0 : wa.cell? ⟨w.heap.size + 1, 0, none⟩ = some (.int .i64 D) := HA.out.2.2.cell 0
  have d1 : wa.cell? ⟨w.heap.size + 1, 1, none⟩ = some (.int .i64 S) := HA.out.2.2.cell 1
  have HB : Hid (∀ w1, wa.drew.grownBy w1 none → (w1.cell? ⟨w.heap.size, 0, none⟩ = some (.slice Ar rs.length c) ∧ w1.cell? ⟨w.heap.size, 1, none⟩ = some (.int .i64 start) ∧ w1.cell? ⟨w.heap.size + 1, 0, none⟩ = some (.int .i64 D) ∧ w1.cell? ⟨w.heap.size + 1, 1, none⟩ = some (.int .i64 S))) := by
    intro w1 hg
    have g := Go.X.grown_of_below (Below.drewQ (w := wa) ⟨1, rfl⟩) none
    have k1 := (HA.out.2.1.grown g (by simp)).grown hg (by simp)
    have k2 := (HA.out.2.2.grown g (by simp)).grown hg (by simp)
    exact ⟨k1.cell 0, k1.cell 1, k2.cell 0, k2.cell 1⟩
  go_region_held3 (fun w' => w'.cell? ⟨w.heap.size, 0, none⟩ = some (.slice Ar rs.length c) ∧ w'.cell? ⟨w.heap.size, 1, none⟩ = some (.int .i64 start) ∧ w'.cell? ⟨w.heap.size + 1, 0, none⟩ = some (.int .i64 D) ∧ w'.cell? ⟨w.heap.size + 1, 1, none⟩ = some (.int .i64 S))
    (first
      | with_reducible exact ⟨k0, k1, k2, k3⟩
      | go_keep)
    (first
      | (go_at_call 32; refine (clampR.calls D S _).mono ?_; rintro e w1 ⟨rfl, hg⟩
         obtain ⟨k0, k1, k2, k3⟩ := HB.out w1 hg
         have HGG := Lib.hid hg
         clear hg
         dsimp only))
  rename_i hHeld
  clear hHeld k0 k1 k2 k3 a0 a1 d0 d1 HB
  have HC' : ∀ wb : World, wb = w1.alloc (.cells #[.slice Ar rs.length c, .int .i64 start, .slice none 0 0, .string inp, .int .i64 ((clamp D S).depth : Nat), .int .i64 ((clamp D S).steps : Nat), .int .i64 0, .int .i64 0, .int .i64 0] 81) →
      Hid (BV w wb Ar rs.length c start w1.heap.size inp (.slice none 0 0) (clamp D S) rs []) := by
    rintro wb rfl
    obtain ⟨h1, h2, h3⟩ := HA.out
    have g0 := Go.X.grown_of_below (Below.drewQ (w := wa) ⟨1, rfl⟩) none
    have g := Fr4.grown2 (Fr4.grown2 g0 HGG.out) (World.grownBy_alloc w1 (.cells #[.slice Ar rs.length c, .int .i64 start, .slice none 0 0, .string inp, .int .i64 ((clamp D S).depth : Nat), .int .i64 ((clamp D S).steps : Nat), .int .i64 0, .int .i64 0, .int .i64 0] 81) none)
    exact ⟨h1.grown g h1.size (fun k hk => by cases hk), h2.grown g (by simp), Blk.alloc w1 _ _, World.ownsRow_nil _ _ _ _, Nat.lt_of_lt_of_le h3.lt (Fr4.grown2 g0 HGG.out).size, fun n v hn => by simp at hn⟩
  go_wp2
  generalize hwb : w1.alloc (.cells #[.slice Ar rs.length c, .int .i64 start, .slice none 0 0, .string inp, .int .i64 ((clamp D S).depth : Nat), .int .i64 ((clamp D S).steps : Nat), .int .i64 0, .int .i64 0, .int .i64 0] 81) = wb
  have HC := HC' wb hwb.symm
  clear HC' hwb HA HGG
  generalize w1.heap.size = rb at *
  go_loopg [8] rs.length (fun q v8 wr => ∃ (i : Nat) (vv : Value) (vs : List Value), Hid (q + i = rs.length ∧ vs.length = i) ∧ v8 = .int .i64 (i : Nat) ∧ Hid (BV w wr Ar rs.length c start rb inp vv (clamp D S) rs vs))
  case atStart => exact ⟨0, _, [], ⟨rfl, rfl⟩, rfl, HC.out⟩
  case round =>
    clear HC
    obtain ⟨i, vv, vs, HI, rfl, HE⟩ := hrel
    have a0 : wr.cell? ⟨w.heap.size, 0, none⟩ = some (.slice Ar rs.length c) := HE.out.b5.cell 0
    by_cases hlt : i < rs.length
    · obtain ⟨ad, A1, c1, eA, e0, e1, hl1, hc1⟩ := cr_at (Kd.C_below HR.out HE.out.bel) i hlt
      subst eA
      have HC1 := Lib.hid hc1; clear hc1 hl1 e0
      have HGI := Lib.hid (And.intro (HG.out.len i hlt) (And.intro (HG.out.fits i hlt) (HG.out.op i hlt)))
      have HIN : Hid (i < rs.length ∧ rs.length ≤ 1048576) := ⟨hlt, HG.out.few.2⟩
      obtain ⟨av, cv, hvv⟩ := Go.X.own_slice HE.out.own
      subst hvv
      rw [HI.out.2] at HE
      obtain ⟨i82, hi82⟩ : ∃ i82, Try.prog.info? 82 = some i82 ∧ i82.zero = some (.slice none 0 0) ∧ i82.size = 1 ∧ i82.bytes = 24 := by
        obtain ⟨j, h1, h2⟩ := Option.map_eq_some_iff.1 info82
        simp only [Prod.mk.injEq] at h2
        exact ⟨j, h1, h2.1, h2.2.1, h2.2.2⟩
      have H82 := Lib.hid hi82; clear hi82
      have HD : Hid (BV w wr.drew (some ad) rs.length c start rb inp (.slice av i cv) (clamp D S) rs vs ∧ Kd.C k55 wr.drew A1 (cr rs i).f1.length (cr rs i).f1) :=
        ⟨HE.out.more (Go.X.grown_of_below (Below.drewQ ⟨1, rfl⟩) none), Kd.C_below HC1.out (Below.drewQ ⟨1, rfl⟩)⟩
      have p0 : wr.cell? ⟨rb, 2, none⟩ = some (.slice av i cv) := HE.out.rec_.cell 2
      have hi0 : (0 : Int) ≤ (i : Int) := Int.natCast_nonneg _
      have hi1 : (i : Int) < (rs.length : Int) := Int.ofNat_lt.2 hlt
      go_wp2
      go_region_law (first
        | (refine step_append_lies (w4.alloc (.cells #[.slice (some ⟨lb, 0, none⟩) (cr rs i).f1.length (cr rs i).f1.length] 82)) rfl (.tmp 26) (.tmp 34) 79 rfl w.heap.size 82 i82 (.slice none 0 0) 1 24 Try.underlying79 H82.out.1 H82.out.2.1 H82.out.2.2.1 H82.out.2.2.2 rfl (by decide) (.slice av i cv) i vs (by simp [Act.eval]) HO4.out ⟨w4.heap.size, 0, none⟩ 1 1 [.slice (some ⟨lb, 0, none⟩) (cr rs i).f1.length (cr rs i).f1.length] (by simp [Act.eval]) rfl HNW.out (by intro u hu; simp at hu; subst hu; rfl) (by decide) (by have := HIN.out; simp only [maxLen]; omega) (by have := HIN.out; omega) HB4.out _ rfl ?_; intro g cap w5 hown hgr _ _
           obtain ⟨hE5, q1, q2⟩ := HE4.out.push (x := .slice (some ⟨lb, 0, none⟩) (cr rs i).f1.length (cr rs i).f1.length) (by rw [HI.out.2]; exact hown) hgr HPO.out
           have HE5 := Lib.hid hE5
           clear hE5 hown hgr)
        | (go_simp; go_at_call 33; refine (Parts.calls A1 c1 (cr rs i).f1 _ HD.out.2 HGI.out.1 HGI.out.2.1 HGI.out.2.2).mono ?_; rintro e w4 ⟨lb, bb, rfl, hpt⟩
           have HE4 : Hid (BV w w4 (some ad) rs.length c start rb inp (.slice av i cv) (clamp D S) rs vs) := HD.out.1.more (Go.X.grown_of_below hpt.bel none)
           have HPO : Hid (PO w4 rb w.heap.size rs vs.length (.slice (some ⟨lb, 0, none⟩) (cr rs i).f1.length (cr rs i).f1.length)) := by
             obtain ⟨lc, bc, k1, k2, k3, k4, k5⟩ := hpt.both
             have h1 := HD.out.1.rec_.lt
             have h2 := HD.out.1.bel.size
             have h3 := hpt.l0
             rw [HI.out.2]
             exact ⟨lb, lc, rfl, by omega, by omega, k1, fun j hj => ⟨(k5 j hj).1, (k5 j hj).2.1⟩⟩
           clear hpt
           have HO4 : Hid ((w4.alloc (.cells #[.slice (some ⟨lb, 0, none⟩) (cr rs i).f1.length (cr rs i).f1.length] 82)).ownsRow w.heap.size 82 1 (.slice av i cv) i vs) := by have := HE4.out.own.alloc (.cells #[.slice (some ⟨lb, 0, none⟩) (cr rs i).f1.length (cr rs i).f1.length] 82); rw [HI.out.2] at this; exact this
           have HNW : Hid (∀ j u, [Value.slice (some ⟨lb, 0, none⟩) (cr rs i).f1.length (cr rs i).f1.length][j]? = some u → (w4.alloc (.cells #[.slice (some ⟨lb, 0, none⟩) (cr rs i).f1.length (cr rs i).f1.length] 82)).cell? ((⟨w4.heap.size, 0, none⟩ : Addr).add j) = some u) := World.news_of_block (heap_alloc_new w4 (.cells #[.slice (some ⟨lb, 0, none⟩) (cr rs i).f1.length (cr rs i).f1.length] 82))
           have HB4 : Hid (w.heap.size ≤ (w4.alloc (.cells #[.slice (some ⟨lb, 0, none⟩) (cr rs i).f1.length (cr rs i).f1.length] 82)).heap.size) := (HE4.out.bel.alloc HE4.out.bel.size _).size
           have p4 : w4.cell? ⟨rb, 2, none⟩ = some (.slice av i cv) := HE4.out.rec_.cell 2
           have p5 : (w4.alloc (.cells #[.slice (some ⟨lb, 0, none⟩) (cr rs i).f1.length (cr rs i).f1.length] 82)).cell? ⟨rb, 2, none⟩ = some (.slice av i cv) := (HE4.out.more (World.grownBy_alloc w4 _ none)).rec_.cell 2))
      all_goals
        clear HE4 HO4 HNW HB4 HPO p4 p5 p0 q1 q2 HD a0 HC1 H82 e1
        have hiw : wrap64 ((i : Int) + 1) = ((i + 1 : Nat) : Int) := by have := HIN.out; rw [IntWalk.wrap64_in _ (by omega)]; rfl
        go_wp2
        go_roundg (rs.length - (i + 1))
        case measure => clear hiw; have := HI.out.1; omega
        case rel => exact ⟨i + 1, _, _, ⟨by clear hiw; omega, by rw [List.length_append, HI.out.2]; rfl⟩, by first | rfl | rw [hiw], HE5.out⟩
    · have hie : i = rs.length := by have := HI.out.1; omega
      obtain ⟨av, cv, hvv⟩ := Go.X.own_slice HE.out.own
      subst hvv
      rw [HI.out.2, hie] at HE
      have HIL : Hid (vs.length = rs.length) := HI.out.2.trans hie
      obtain ⟨g, ha⟩ : ∃ A, av = some ⟨A, 0, none⟩ := by
        rcases HE.out.own.2 with ⟨_, h0⟩ | ⟨g, cap, cur, hv, _⟩
        · have := HG.out.few.1; rw [HIL.out] at h0; omega
        · simp at hv; exact ⟨g, hv.1⟩
      subst ha
      go_wp2
      go_ret
      exact ⟨rb, g, cv, rfl, HE.out.rm HIL.out⟩
end Go.Proofs.Ytmpkkphohilkoaa.B
namespace Go.Proofs.Ytmpkkphohilkoaa.F
open Go.RowKit Go.Proofs.YtmpkkphohilkoaaW.PrintWords Go.Proofs.YtmpkkphohilkoaaW.PrintLast Go.Proofs.YtmpkkphohilkoaaW.PrintMore
attribute [local go_sem] max2_int min2_int max_two min_two max_three min_three max_four min_four   -- for this text's walks alone
set_option linter.unusedVariables false
set_option linter.unusedSimpArgs false

theorem eqA63 (d : Nat) (w : World) (x0 y0 : ByteArray) (x1 y1 : Int) (x2 y2 : Int) (x3 y3 : Int) :
    (Op.equalIn (d + 2) 63 (.agg #[.string x0, .int .i64 x1, .int .i64 x2, .int .i64 x3]) (.agg #[.string y0, .int .i64 y1, .int .i64 y2, .int .i64 y3])).run Try.prog w = .ok (x0.toList == y0.toList && (x1 == y1 && (x2 == y2 && (x3 == y3)))) w := by
  refine eqA_of Try.underlying63 (by kernel_rfl) ?_
  refine eqf_cons (by rfl) (by go_simp; rfl) (by go_simp; rfl) (by go_simp) ?_
  refine eqf_cons (by rfl) (by go_simp; rfl) (by go_simp; rfl) (by go_simp) ?_
  refine eqf_cons (by rfl) (by go_simp; rfl) (by go_simp; rfl) (by go_simp) ?_
  exact eqf_last (by rfl) (by go_simp; rfl) (by go_simp; rfl) (by go_simp)
end Go.Proofs.Ytmpkkphohilkoaa.F
namespace Go.Proofs.Ytmpkkphohilkoaa.F
open Go.RowKit Go.Proofs.YtmpkkphohilkoaaW.PrintWords Go.Proofs.YtmpkkphohilkoaaW.PrintLast Go.Proofs.YtmpkkphohilkoaaW.PrintMore
attribute [local go_sem] max2_int min2_int max_two min_two max_three min_three max_four min_four   -- for this text's walks alone
set_option linter.unusedVariables false
set_option linter.unusedSimpArgs false

attribute [local go_sem high] eqA55 eqA63
/-! ### dowelref14_Clamp: function 32 -/

-- NOT PRINTED: function 33 (dowelref10_Parts)

-- NOT PRINTED: function 19 (dowelref14_begin)

-- NOT PRINTED: function 20 (dowelref14_Eval_told)

-- NOT PRINTED: function 34 (dowelref03_Has)

-- NOT PRINTED: function 35 (dowelref14_Eval_star)

/-! ### dowelref14_Roots: function 46 -/
def dowelref14_Roots.l0 : Nat → List (S63) → Int → Int → Int → Option (Int)
  | 0, _, _, _, _ => none
  | k + 1, x0, x3, x4, x5 => if x5 < (x0.length : Int) then (if x4 = 0 then (if 0 ≤ x5 then (dowelref14_Roots.l0 k x0 (wrap64 (x3 + 1)) (wrap64 (x4 + ((rd_T63 x0 x5).f3))) (wrap64 (x5 + 1))) else (none)) else (if 0 ≤ x5 then (dowelref14_Roots.l0 k x0 x3 (wrap64 ((wrap64 (x4 - 1)) + ((rd_T63 x0 x5).f3))) (wrap64 (x5 + 1))) else (none))) else (some x3)
def dowelref14_Roots.f (k : Nat) (l0 : List (S63)) : Option (Int) := dowelref14_Roots.l0 k l0 0 0 0
set_option maxHeartbeats 8000000 in
set_option maxRecDepth 100000 in
theorem dowelref14_Roots.calls (k : Nat) (A0 : Option Addr) (c0 : Nat) (l0 : List (S63)) (r : Int) (w : World) (hr0 : Kd.C k63 w A0 l0.length l0) (hc0 : l0.length ≤ c0) (h : dowelref14_Roots.f k l0 = some r) :
    Calls Try.prog 46 #[.slice A0 l0.length c0] w fun e w' => e = .returned (.int .i64 r) ∧ Drawn0 w w' := by
  have HR0 := Aside0.mk hr0
  have HC0 := Aside0.mk hc0
  clear hr0 hc0
  have H : (dowelref14_Roots.l0 k l0 0 0 0) = some r := h
  clear h
  have H' := Aside0.mk H
  clear H
  go_enter Try.func46, Try.ntmps46
  go_wp2
  go_loopg [3, 4, 5] k (fun kq v3 v4 v5 w' => ∃ (x3_1 : Int) (x4_1 : Int) (x5_1 : Int), v3 = .int .i64 x3_1 ∧ v4 = .int .i64 x4_1 ∧ v5 = .int .i64 x5_1 ∧ Aside0 (dowelref14_Roots.l0 kq l0 x3_1 x4_1 x5_1 = some r) ∧ Aside0 (kq ≤ k) ∧ Drawn0 w w')
  case atStart => exact ⟨(0), (0), (0), (by first | rfl | (simp; done) | (simp [*]; done)), (by first | rfl | (simp; done) | (simp [*]; done)), (by first | rfl | (simp; done) | (simp [*]; done)), H', ⟨Nat.le_refl _⟩, by repeat (first | exact Drawn0.refl _ | apply Drawn0.step)⟩
  case round =>
    clear H'
    obtain ⟨x3_1, x4_1, x5_1, rfl, rfl, rfl, HA, HK1, ⟨m1, rfl⟩⟩ := hrel
    cases gk with
    | zero => exact absurd HA.out (by simp [dowelref14_Roots.l0])
    | succ k1 =>
      have H := HA.out
      clear HA
      simp only [dowelref14_Roots.l0] at H
      by_cases c2 : x5_1 < (l0.length : Int)
      · rw [if_pos c2] at H
        have c2b0 : decide (x5_1 < (l0.length : Int)) = true := decide_eq_true c2
        clear c2
        by_cases c3 : x4_1 = 0
        · rw [if_pos c3] at H
          have c3b0 : (x4_1 == 0) = true := beq_iff_eq.mpr c3
          have c3b1 : (x4_1 != 0) = false := bne_eq_false_iff_eq.mpr c3
          clear c3
          by_cases c4 : 0 ≤ x5_1
          · rw [if_pos c4] at H
            have c4b0 : decide (0 ≤ x5_1) = true := decide_eq_true c4
            clear c4
            have H' := Aside0.mk H
            clear H
            have p195 : 0 ≤ (x5_1 : Int) := of_decide_eq_true (by first | (with_reducible assumption) | assumption)
            have q195 : x5_1 < (l0.length : Int) := of_decide_eq_true (by first | (with_reducible assumption) | assumption)
            obtain ⟨ad195, e195, hx195_0, hx195_1, hx195_2, hx195_3⟩ := at_T63 HR0.out x5_1 p195 q195
            cases e195
            replace p195 := eq_true p195
            replace q195 := eq_true q195
            go_wp2
            go_roundg k1
            case measure => have := HK1.out; omega
            case rel => exact ⟨(wrap64 (x3_1 + 1)), (wrap64 (x4_1 + ((rd_T63 l0 x5_1).f3))), (wrap64 (x5_1 + 1)), (by first | rfl | (simp; done) | (simp [*]; done)), (by first | rfl | (simp; done) | (simp [*]; done)), (by first | rfl | (simp; done) | (simp [*]; done)), H', ⟨by have := HK1.out; omega⟩, by repeat (first | exact Drawn0.refl _ | apply Drawn0.step)⟩
          · rw [if_neg c4] at H
            exact absurd H (by simp)
        · rw [if_neg c3] at H
          have c3b0 : (x4_1 == 0) = false := beq_eq_false_iff_ne.mpr c3
          have c3b1 : (x4_1 != 0) = true := bne_iff_ne.mpr c3
          by_cases c5 : 0 ≤ x5_1
          · rw [if_pos c5] at H
            have c5b0 : decide (0 ≤ x5_1) = true := decide_eq_true c5
            clear c5
            have H' := Aside0.mk H
            clear H
            have p196 : 0 ≤ (x5_1 : Int) := of_decide_eq_true (by first | (with_reducible assumption) | assumption)
            have q196 : x5_1 < (l0.length : Int) := of_decide_eq_true (by first | (with_reducible assumption) | assumption)
            obtain ⟨ad196, e196, hx196_0, hx196_1, hx196_2, hx196_3⟩ := at_T63 HR0.out x5_1 p196 q196
            cases e196
            replace p196 := eq_true p196
            replace q196 := eq_true q196
            go_wp2
            go_roundg k1
            case measure => have := HK1.out; omega
            case rel => exact ⟨(x3_1), (wrap64 ((wrap64 (x4_1 - 1)) + ((rd_T63 l0 x5_1).f3))), (wrap64 (x5_1 + 1)), (by first | rfl | (simp; done) | (simp [*]; done)), (by first | rfl | (simp; done) | (simp [*]; done)), (by first | rfl | (simp; done) | (simp [*]; done)), H', ⟨by have := HK1.out; omega⟩, by repeat (first | exact Drawn0.refl _ | apply Drawn0.step)⟩
          · rw [if_neg c5] at H
            exact absurd H (by simp)
      · rw [if_neg c2] at H
        have c2b0 : decide (x5_1 < (l0.length : Int)) = false := decide_eq_false c2
        clear c2
        obtain rfl := Option.some.inj H
        go_wp2
        go_ret
        exact ⟨by first | rfl | (simp; done) | (simp [*]; done), by repeat (first | exact Drawn0.refl _ | apply Drawn0.step)⟩

/-! ### dowelref14_Wrapped: function 36 -/

-- NOT PRINTED: function 21 (dowelref14_Eval_node)

-- NOT PRINTED: function 9 (dowelref14_Run)

/-! ### dowelbook_Captures: function 22 -/
def dowelbook_Captures.l0 : Nat → List (S63) → List (S63) → Int → Option (Bool)
  | 0, _, _, _ => none
  | k + 1, x0, x1, x5 => if x5 < (x0.length : Int) then (if 0 ≤ x5 then (if x5 < (x1.length : Int) then (if (!((((rd_T63 x0 x5).f0).toList) == (((rd_T63 x1 x5).f0).toList)) || (!(((rd_T63 x0 x5).f1) == ((rd_T63 x1 x5).f1)) || (!(((rd_T63 x0 x5).f2) == ((rd_T63 x1 x5).f2)) || (!(((rd_T63 x0 x5).f3) == ((rd_T63 x1 x5).f3)))))) = true then (some false) else (dowelbook_Captures.l0 k x0 x1 (wrap64 (x5 + 1)))) else (none)) else (none)) else (some true)
def dowelbook_Captures.f (k : Nat) (l0 : List (S63)) (l1 : List (S63)) : Option (Bool) := if (l0.length : Int) = (l1.length : Int) then (dowelbook_Captures.l0 k l0 l1 0) else (some false)
set_option maxHeartbeats 8000000 in
set_option maxRecDepth 100000 in
theorem dowelbook_Captures.calls (k : Nat) (A0 : Option Addr) (c0 : Nat) (l0 : List (S63)) (A1 : Option Addr) (c1 : Nat) (l1 : List (S63)) (r : Bool) (w : World) (hr0 : Kd.C k63 w A0 l0.length l0) (hc0 : l0.length ≤ c0) (hr1 : Kd.C k63 w A1 l1.length l1) (hc1 : l1.length ≤ c1) (h : dowelbook_Captures.f k l0 l1 = some r) :
    Calls Try.prog 22 #[.slice A0 l0.length c0, .slice A1 l1.length c1] w fun e w' => e = .returned (.bool r) ∧ Drawn0 w w' := by
  have hu63 := Try.underlying63
  have HR0 := Aside0.mk hr0
  have HC0 := Aside0.mk hc0
  clear hr0 hc0
  have HR1 := Aside0.mk hr1
  have HC1 := Aside0.mk hc1
  clear hr1 hc1
  have H : (if (l0.length : Int) = (l1.length : Int) then (dowelbook_Captures.l0 k l0 l1 0) else (some false)) = some r := h
  clear h
  by_cases c3 : (l0.length : Int) = (l1.length : Int)
  · rw [if_pos c3] at H
    have c3b0 : ((l0.length : Int) == (l1.length : Int)) = true := beq_iff_eq.mpr c3
    have c3b1 : ((l0.length : Int) != (l1.length : Int)) = false := bne_eq_false_iff_eq.mpr c3
    have c3b2 : (l0.length == l1.length) = true := by first | simpa using c3 | (simp at c3 ⊢; omega)
    clear c3
    have H' := Aside0.mk H
    clear H
    go_enter Try.func22, Try.ntmps22
    go_wp2
    repeat (go_quiet (fail); try go_wp2)
    go_loopg [5] k (fun kq v5 w' => ∃ (x5_1 : Int), v5 = .int .i64 x5_1 ∧ Aside0 (dowelbook_Captures.l0 kq l0 l1 x5_1 = some r) ∧ Aside0 (kq ≤ k) ∧ Drawn0 w w')
    case atStart => exact ⟨(0), (by first | rfl | (simp; done) | (simp [*]; done)), H', ⟨Nat.le_refl _⟩, by repeat (first | exact Drawn0.refl _ | apply Drawn0.step)⟩
    case round =>
      clear H'
      try clear c1
      try clear c2
      try clear p2
      try clear c3
      try clear c3b0
      try clear c3b1
      try clear c3b2
      obtain ⟨x5_1, rfl, HA, HK1, ⟨m1, rfl⟩⟩ := hrel
      cases gk with
      | zero => exact absurd HA.out (by simp [dowelbook_Captures.l0])
      | succ k1 =>
        have H := HA.out
        clear HA
        simp only [dowelbook_Captures.l0] at H
        by_cases c4 : x5_1 < (l0.length : Int)
        · rw [if_pos c4] at H
          have c4b0 : decide (x5_1 < (l0.length : Int)) = true := decide_eq_true c4
          clear c4
          by_cases c5 : 0 ≤ x5_1
          · rw [if_pos c5] at H
            have c5b0 : decide (0 ≤ x5_1) = true := decide_eq_true c5
            clear c5
            by_cases c6 : x5_1 < (l1.length : Int)
            · rw [if_pos c6] at H
              have c6b0 : decide (x5_1 < (l1.length : Int)) = true := decide_eq_true c6
              clear c6
              by_cases c7 : (!((((rd_T63 l0 x5_1).f0).toList) == (((rd_T63 l1 x5_1).f0).toList)) || (!(((rd_T63 l0 x5_1).f1) == ((rd_T63 l1 x5_1).f1)) || (!(((rd_T63 l0 x5_1).f2) == ((rd_T63 l1 x5_1).f2)) || (!(((rd_T63 l0 x5_1).f3) == ((rd_T63 l1 x5_1).f3)))))) = true
              · rw [if_pos c7] at H
                have c7b0 : (!((((rd_T63 l0 x5_1).f0).toList) == (((rd_T63 l1 x5_1).f0).toList)) || (!(((rd_T63 l0 x5_1).f1) == ((rd_T63 l1 x5_1).f1)) || (!(((rd_T63 l0 x5_1).f2) == ((rd_T63 l1 x5_1).f2)) || (!(((rd_T63 l0 x5_1).f3) == ((rd_T63 l1 x5_1).f3)))))) = true := c7
                clear c7
                obtain rfl := Option.some.inj H
                have p215 : 0 ≤ (x5_1 : Int) := of_decide_eq_true (by first | (with_reducible assumption) | assumption)
                have q215 : x5_1 < (l0.length : Int) := of_decide_eq_true (by first | (with_reducible assumption) | assumption)
                obtain ⟨ad215, e215, hx215_0, hx215_1, hx215_2, hx215_3⟩ := at_T63 HR0.out x5_1 p215 q215
                cases e215
                replace p215 := eq_true p215
                replace q215 := eq_true q215
                have p216 : 0 ≤ (x5_1 : Int) := of_decide_eq_true (by first | (with_reducible assumption) | assumption)
                have q216 : x5_1 < (l1.length : Int) := of_decide_eq_true (by first | (with_reducible assumption) | assumption)
                obtain ⟨ad216, e216, hx216_0, hx216_1, hx216_2, hx216_3⟩ := at_T63 HR1.out x5_1 p216 q216
                cases e216
                replace p216 := eq_true p216
                replace q216 := eq_true q216
                go_wp2
                repeat (go_quiet (fail); try go_wp2)
                go_ret
                exact ⟨by first | rfl | (simp; done) | (simp [*]; done), by repeat (first | exact Drawn0.refl _ | apply Drawn0.step)⟩
              · rw [if_neg c7] at H
                have c7b0 : (!((((rd_T63 l0 x5_1).f0).toList) == (((rd_T63 l1 x5_1).f0).toList)) || (!(((rd_T63 l0 x5_1).f1) == ((rd_T63 l1 x5_1).f1)) || (!(((rd_T63 l0 x5_1).f2) == ((rd_T63 l1 x5_1).f2)) || (!(((rd_T63 l0 x5_1).f3) == ((rd_T63 l1 x5_1).f3)))))) = false := by simpa using c7
                clear c7
                have H' := Aside0.mk H
                clear H
                have p215 : 0 ≤ (x5_1 : Int) := of_decide_eq_true (by first | (with_reducible assumption) | assumption)
                have q215 : x5_1 < (l0.length : Int) := of_decide_eq_true (by first | (with_reducible assumption) | assumption)
                obtain ⟨ad215, e215, hx215_0, hx215_1, hx215_2, hx215_3⟩ := at_T63 HR0.out x5_1 p215 q215
                cases e215
                replace p215 := eq_true p215
                replace q215 := eq_true q215
                have p216 : 0 ≤ (x5_1 : Int) := of_decide_eq_true (by first | (with_reducible assumption) | assumption)
                have q216 : x5_1 < (l1.length : Int) := of_decide_eq_true (by first | (with_reducible assumption) | assumption)
                obtain ⟨ad216, e216, hx216_0, hx216_1, hx216_2, hx216_3⟩ := at_T63 HR1.out x5_1 p216 q216
                cases e216
                replace p216 := eq_true p216
                replace q216 := eq_true q216
                go_wp2
                repeat (go_quiet (fail); try go_wp2)
                go_roundg k1
                case measure => have := HK1.out; omega
                case rel => exact ⟨(wrap64 (x5_1 + 1)), (by first | rfl | (simp; done) | (simp [*]; done)), H', ⟨by have := HK1.out; omega⟩, by repeat (first | exact Drawn0.refl _ | apply Drawn0.step)⟩
            · rw [if_neg c6] at H
              exact absurd H (by simp)
          · rw [if_neg c5] at H
            exact absurd H (by simp)
        · rw [if_neg c4] at H
          have c4b0 : decide (x5_1 < (l0.length : Int)) = false := decide_eq_false c4
          clear c4
          obtain rfl := Option.some.inj H
          go_wp2
          repeat (go_quiet (fail); try go_wp2)
          go_ret
          exact ⟨by first | rfl | (simp; done) | (simp [*]; done), by repeat (first | exact Drawn0.refl _ | apply Drawn0.step)⟩
  · rw [if_neg c3] at H
    have c3b0 : ((l0.length : Int) == (l1.length : Int)) = false := beq_eq_false_iff_ne.mpr c3
    have c3b1 : ((l0.length : Int) != (l1.length : Int)) = true := bne_iff_ne.mpr c3
    have c3b2 : (l0.length == l1.length) = false := by first | simpa using c3 | (simp at c3 ⊢; omega)
    obtain rfl := Option.some.inj H
    go_enter Try.func22, Try.ntmps22
    go_wp2
    repeat (go_quiet (fail); try go_wp2)
    go_ret
    exact ⟨by first | rfl | (simp; done) | (simp [*]; done), by repeat (first | exact Drawn0.refl _ | apply Drawn0.step)⟩

/-! ### dowelbook_Outcomes: function 10 -/
def dowelbook_Outcomes.f (k : Nat) (a0_0 : Int) (a0_1 : Int) (a0_2 : ByteArray) (l0_3 : List (S63)) (a1_0 : Int) (a1_1 : Int) (a1_2 : ByteArray) (l1_3 : List (S63)) : Option (Bool) := if a0_0 = a1_0 then (if a0_1 = a1_1 then (if a0_2.toList = a1_2.toList then ((dowelbook_Captures.f k l0_3 l1_3).bind fun t219 => (some t219)) else (some false)) else (some false)) else (some false)
set_option maxHeartbeats 8000000 in
set_option maxRecDepth 100000 in
theorem dowelbook_Outcomes.calls (k : Nat) (a0_0 : Int) (a0_1 : Int) (a0_2 : ByteArray) (A0_3 : Option Addr) (c0_3 : Nat) (l0_3 : List (S63)) (a1_0 : Int) (a1_1 : Int) (a1_2 : ByteArray) (A1_3 : Option Addr) (c1_3 : Nat) (l1_3 : List (S63)) (r : Bool) (w : World) (hr0_3 : Kd.C k63 w A0_3 l0_3.length l0_3) (hc0_3 : l0_3.length ≤ c0_3) (hr1_3 : Kd.C k63 w A1_3 l1_3.length l1_3) (hc1_3 : l1_3.length ≤ c1_3) (h : dowelbook_Outcomes.f k a0_0 a0_1 a0_2 l0_3 a1_0 a1_1 a1_2 l1_3 = some r) :
    Calls Try.prog 10 #[.agg #[.int .i64 a0_0, .int .i64 a0_1, .string a0_2, .slice A0_3 l0_3.length c0_3], .agg #[.int .i64 a1_0, .int .i64 a1_1, .string a1_2, .slice A1_3 l1_3.length c1_3]] w fun e w' => e = .returned (.bool r) ∧ Below w.heap.size w w' := by
  have hu31 := Try.underlying31
  have HR0_3 := Aside0.mk hr0_3
  have HC0_3 := Aside0.mk hc0_3
  clear hr0_3 hc0_3
  have HR1_3 := Aside0.mk hr1_3
  have HC1_3 := Aside0.mk hc1_3
  clear hr1_3 hc1_3
  have HB := Aside0.mk (Below.refl w.heap.size w)
  have H : (if a0_0 = a1_0 then (if a0_1 = a1_1 then (if a0_2.toList = a1_2.toList then ((dowelbook_Captures.f k l0_3 l1_3).bind fun t219 => (some t219)) else (some false)) else (some false)) else (some false)) = some r := h
  clear h
  by_cases c3 : a0_0 = a1_0
  · rw [if_pos c3] at H
    have c3b0 : (a0_0 == a1_0) = true := beq_iff_eq.mpr c3
    have c3b1 : (a0_0 != a1_0) = false := bne_eq_false_iff_eq.mpr c3
    clear c3
    by_cases c4 : a0_1 = a1_1
    · rw [if_pos c4] at H
      have c4b0 : (a0_1 == a1_1) = true := beq_iff_eq.mpr c4
      have c4b1 : (a0_1 != a1_1) = false := bne_eq_false_iff_eq.mpr c4
      clear c4
      by_cases c5 : a0_2.toList = a1_2.toList
      · rw [if_pos c5] at H
        have c5b0 : (a0_2.toList == a1_2.toList) = true := beq_iff_eq.mpr c5
        have c5b1 : (a0_2.toList != a1_2.toList) = false := bne_eq_false_iff_eq.mpr c5
        clear c5
        replace H := Option.bind_eq_some_iff.mp H
        obtain ⟨t219, A60, H⟩ := H
        replace H : (some t219) = some r := H
        have A6 := Aside0.mk A60
        clear A60
        obtain rfl := Option.some.inj H
        go_enter Try.func10, Try.ntmps10
        go_wp2_with (first | ((with_reducible refine gate_dst (N := 2) rfl ?_); refine box_event ?hg (N := 2) ?hd (cs := #[.int .i64 a0_0, .int .i64 a0_1, .string a0_2, .slice A0_3 l0_3.length c0_3]) (t := 31) ?hr ?_; (case hd => rfl); (case hg => rfl); (case hr => first | (go_simp; done) | (go_simp; rfl)); intro gb217 hg w7 hbox hb; have n0_ := Aside0.mk (below_step (by repeat (first | (with_reducible first | exact HB.out | apply below_alloc | apply pw_below_drewN | apply below_drew1) | exact HB.out)) hb); have n1_ := Aside0.mk (hbox); have n2_ := Aside0.mk ((by rw [hg]; exact (below_size (by repeat (first | (with_reducible first | exact HB.out | apply below_alloc | apply pw_below_drewN | apply below_drew1) | exact HB.out))) : w.heap.size ≤ gb217)); have n3_ := Aside0.mk ((by rw [hg]; exact (below_size (by repeat (first | (with_reducible first | exact HB.out | apply below_alloc | apply pw_below_drewN | apply below_drew1) | exact HB.out))) : w.heap.size ≤ gb217)); clear HB; have HB := n0_; have BK217 := n1_; have GW217 := n2_; have GE217 := n3_; clear n0_ n1_ n2_ n3_; clear hb hbox hg) | ((with_reducible refine gate_dst (N := 3) rfl ?_); refine box_event ?hg (N := 3) ?hd (cs := #[.int .i64 a1_0, .int .i64 a1_1, .string a1_2, .slice A1_3 l1_3.length c1_3]) (t := 31) ?hr ?_; (case hd => rfl); (case hg => rfl); (case hr => first | (go_simp; done) | (go_simp; rfl)); intro gb218 hg w8 hbox hb; have n0_ := Aside0.mk (blk_below (g := gb217) (o := .cells #[.int .i64 a0_0, .int .i64 a0_1, .string a0_2, .slice A0_3 l0_3.length c0_3] 31 (0, 0)) (by (with_reducible repeat (first | refine blk_drewN ?_ _ | refine blk_drew ?_ | refine blk_alloc ?_ _)); exact BK217.out) hb); have n1_ := Aside0.mk (below_step (by repeat (first | (with_reducible first | exact HB.out | apply below_alloc | apply pw_below_drewN | apply below_drew1 | refine below_set ?_ GE217.out) | exact HB.out)) hb); have n2_ := Aside0.mk (hbox); have n3_ := Aside0.mk ((by rw [hg]; exact (below_size (by repeat (first | (with_reducible first | exact HB.out | apply below_alloc | apply pw_below_drewN | apply below_drew1 | refine below_set ?_ GE217.out) | exact HB.out))) : w.heap.size ≤ gb218)); have n4_ := Aside0.mk ((by rw [hg]; exact (below_size (by repeat (first | (with_reducible first | exact HB.out | apply below_alloc | apply pw_below_drewN | apply below_drew1 | refine below_set ?_ GE217.out) | exact HB.out))) : w.heap.size ≤ gb218)); have n5_ := Aside0.mk ((by rw [hg]; exact Nat.ne_of_lt (blk_lt (g := gb217) (o := .cells #[.int .i64 a0_0, .int .i64 a0_1, .string a0_2, .slice A0_3 l0_3.length c0_3] 31 (0, 0)) (by (with_reducible repeat (first | refine blk_drewN ?_ _ | refine blk_drew ?_ | refine blk_alloc ?_ _)); exact BK217.out)) : gb217 ≠ gb218)); have n6_ := Aside0.mk ((by rw [hg]; exact Nat.ne_of_gt (blk_lt (g := gb217) (o := .cells #[.int .i64 a0_0, .int .i64 a0_1, .string a0_2, .slice A0_3 l0_3.length c0_3] 31 (0, 0)) (by (with_reducible repeat (first | refine blk_drewN ?_ _ | refine blk_drew ?_ | refine blk_alloc ?_ _)); exact BK217.out)) : gb218 ≠ gb217)); clear BK217; clear HB; have BK217 := n0_; have HB := n1_; have BK218 := n2_; have GW218 := n3_; have GE218 := n4_; have NB217_218 := n5_; have NB218_217 := n6_; clear n0_ n1_ n2_ n3_ n4_ n5_ n6_; clear hb hbox hg; have hnb9 := NB217_218.out; have hnc9 := NB218_217.out; have hcz10_0 : w8.cell? ⟨gb217, 0, none⟩ = some (.int .i64 a0_0) := (blk_cell BK217.out 0).trans rfl; have hcz10_1 : w8.cell? ⟨gb217, 1, none⟩ = some (.int .i64 a0_1) := (blk_cell BK217.out 1).trans rfl; have hcz10_2 : w8.cell? ⟨gb217, 2, none⟩ = some (.string a0_2) := (blk_cell BK217.out 2).trans rfl; have hcz10_3 : w8.cell? ⟨gb217, 3, none⟩ = some (.slice A0_3 l0_3.length c0_3) := (blk_cell BK217.out 3).trans rfl; have hfz10_0 := blk_frozen BK217.out 0; have hfz10_1 := blk_frozen BK217.out 1; have hfz10_2 := blk_frozen BK217.out 2; have hfz10_3 := blk_frozen BK217.out 3; have hcz11_0 : w8.cell? ⟨gb218, 0, none⟩ = some (.int .i64 a1_0) := (blk_cell BK218.out 0).trans rfl; have hcz11_1 : w8.cell? ⟨gb218, 1, none⟩ = some (.int .i64 a1_1) := (blk_cell BK218.out 1).trans rfl; have hcz11_2 : w8.cell? ⟨gb218, 2, none⟩ = some (.string a1_2) := (blk_cell BK218.out 2).trans rfl; have hcz11_3 : w8.cell? ⟨gb218, 3, none⟩ = some (.slice A1_3 l1_3.length c1_3) := (blk_cell BK218.out 3).trans rfl; have hfz11_0 := blk_frozen BK218.out 0; have hfz11_1 := blk_frozen BK218.out 1; have hfz11_2 := blk_frozen BK218.out 2; have hfz11_3 := blk_frozen BK218.out 3) | (go_at_call 22; (with_reducible refine (dowelbook_Captures.calls k _ _ l0_3 _ _ l1_3 t219 _ ?side1 ?side2 ?side3 ?side4 A6.out).mono ?_); (case side1 => repeat (first | exact (Kd.C_below HR0_3.out HB.out) | (with_reducible refine Kd.C_alloc ?_ _) | (with_reducible refine Kd.C_drewN ?_ _) | (with_reducible refine Kd.C_drew ?_))); (case side2 => exact HC0_3.out); (case side3 => repeat (first | exact (Kd.C_below HR1_3.out HB.out) | (with_reducible refine Kd.C_alloc ?_ _) | (with_reducible refine Kd.C_drewN ?_ _) | (with_reducible refine Kd.C_drew ?_))); (case side4 => exact HC1_3.out); rintro e w' ⟨rfl, ⟨nd, rfl⟩⟩))
        go_ret
        exact ⟨by first | rfl | (simp [errW_none, errW_some] <;> rfl) | (simp [*, errW_none, errW_some] <;> rfl), by repeat (first | (with_reducible first | exact HB.out | apply below_alloc | apply pw_below_drewN | apply below_drew1 | refine below_set ?_ GE217.out | refine below_set ?_ GE218.out) | exact HB.out)⟩
      · rw [if_neg c5] at H
        have c5b0 : (a0_2.toList == a1_2.toList) = false := beq_eq_false_iff_ne.mpr c5
        have c5b1 : (a0_2.toList != a1_2.toList) = true := bne_iff_ne.mpr c5
        obtain rfl := Option.some.inj H
        go_enter Try.func10, Try.ntmps10
        go_wp2_with (first | ((with_reducible refine gate_dst (N := 2) rfl ?_); refine box_event ?hg (N := 2) ?hd (cs := #[.int .i64 a0_0, .int .i64 a0_1, .string a0_2, .slice A0_3 l0_3.length c0_3]) (t := 31) ?hr ?_; (case hd => rfl); (case hg => rfl); (case hr => first | (go_simp; done) | (go_simp; rfl)); intro gb217 hg w12 hbox hb; have n0_ := Aside0.mk (below_step (by repeat (first | (with_reducible first | exact HB.out | apply below_alloc | apply pw_below_drewN | apply below_drew1) | exact HB.out)) hb); have n1_ := Aside0.mk (hbox); have n2_ := Aside0.mk ((by rw [hg]; exact (below_size (by repeat (first | (with_reducible first | exact HB.out | apply below_alloc | apply pw_below_drewN | apply below_drew1) | exact HB.out))) : w.heap.size ≤ gb217)); have n3_ := Aside0.mk ((by rw [hg]; exact (below_size (by repeat (first | (with_reducible first | exact HB.out | apply below_alloc | apply pw_below_drewN | apply below_drew1) | exact HB.out))) : w.heap.size ≤ gb217)); clear HB; have HB := n0_; have BK217 := n1_; have GW217 := n2_; have GE217 := n3_; clear n0_ n1_ n2_ n3_; clear hb hbox hg) | ((with_reducible refine gate_dst (N := 3) rfl ?_); refine box_event ?hg (N := 3) ?hd (cs := #[.int .i64 a1_0, .int .i64 a1_1, .string a1_2, .slice A1_3 l1_3.length c1_3]) (t := 31) ?hr ?_; (case hd => rfl); (case hg => rfl); (case hr => first | (go_simp; done) | (go_simp; rfl)); intro gb218 hg w13 hbox hb; have n0_ := Aside0.mk (blk_below (g := gb217) (o := .cells #[.int .i64 a0_0, .int .i64 a0_1, .string a0_2, .slice A0_3 l0_3.length c0_3] 31 (0, 0)) (by (with_reducible repeat (first | refine blk_drewN ?_ _ | refine blk_drew ?_ | refine blk_alloc ?_ _)); exact BK217.out) hb); have n1_ := Aside0.mk (below_step (by repeat (first | (with_reducible first | exact HB.out | apply below_alloc | apply pw_below_drewN | apply below_drew1 | refine below_set ?_ GE217.out) | exact HB.out)) hb); have n2_ := Aside0.mk (hbox); have n3_ := Aside0.mk ((by rw [hg]; exact (below_size (by repeat (first | (with_reducible first | exact HB.out | apply below_alloc | apply pw_below_drewN | apply below_drew1 | refine below_set ?_ GE217.out) | exact HB.out))) : w.heap.size ≤ gb218)); have n4_ := Aside0.mk ((by rw [hg]; exact (below_size (by repeat (first | (with_reducible first | exact HB.out | apply below_alloc | apply pw_below_drewN | apply below_drew1 | refine below_set ?_ GE217.out) | exact HB.out))) : w.heap.size ≤ gb218)); have n5_ := Aside0.mk ((by rw [hg]; exact Nat.ne_of_lt (blk_lt (g := gb217) (o := .cells #[.int .i64 a0_0, .int .i64 a0_1, .string a0_2, .slice A0_3 l0_3.length c0_3] 31 (0, 0)) (by (with_reducible repeat (first | refine blk_drewN ?_ _ | refine blk_drew ?_ | refine blk_alloc ?_ _)); exact BK217.out)) : gb217 ≠ gb218)); have n6_ := Aside0.mk ((by rw [hg]; exact Nat.ne_of_gt (blk_lt (g := gb217) (o := .cells #[.int .i64 a0_0, .int .i64 a0_1, .string a0_2, .slice A0_3 l0_3.length c0_3] 31 (0, 0)) (by (with_reducible repeat (first | refine blk_drewN ?_ _ | refine blk_drew ?_ | refine blk_alloc ?_ _)); exact BK217.out)) : gb218 ≠ gb217)); clear BK217; clear HB; have BK217 := n0_; have HB := n1_; have BK218 := n2_; have GW218 := n3_; have GE218 := n4_; have NB217_218 := n5_; have NB218_217 := n6_; clear n0_ n1_ n2_ n3_ n4_ n5_ n6_; clear hb hbox hg; have hnb14 := NB217_218.out; have hnc14 := NB218_217.out; have hcz15_0 : w13.cell? ⟨gb217, 0, none⟩ = some (.int .i64 a0_0) := (blk_cell BK217.out 0).trans rfl; have hcz15_1 : w13.cell? ⟨gb217, 1, none⟩ = some (.int .i64 a0_1) := (blk_cell BK217.out 1).trans rfl; have hcz15_2 : w13.cell? ⟨gb217, 2, none⟩ = some (.string a0_2) := (blk_cell BK217.out 2).trans rfl; have hcz15_3 : w13.cell? ⟨gb217, 3, none⟩ = some (.slice A0_3 l0_3.length c0_3) := (blk_cell BK217.out 3).trans rfl; have hfz15_0 := blk_frozen BK217.out 0; have hfz15_1 := blk_frozen BK217.out 1; have hfz15_2 := blk_frozen BK217.out 2; have hfz15_3 := blk_frozen BK217.out 3; have hcz16_0 : w13.cell? ⟨gb218, 0, none⟩ = some (.int .i64 a1_0) := (blk_cell BK218.out 0).trans rfl; have hcz16_1 : w13.cell? ⟨gb218, 1, none⟩ = some (.int .i64 a1_1) := (blk_cell BK218.out 1).trans rfl; have hcz16_2 : w13.cell? ⟨gb218, 2, none⟩ = some (.string a1_2) := (blk_cell BK218.out 2).trans rfl; have hcz16_3 : w13.cell? ⟨gb218, 3, none⟩ = some (.slice A1_3 l1_3.length c1_3) := (blk_cell BK218.out 3).trans rfl; have hfz16_0 := blk_frozen BK218.out 0; have hfz16_1 := blk_frozen BK218.out 1; have hfz16_2 := blk_frozen BK218.out 2; have hfz16_3 := blk_frozen BK218.out 3))
        go_ret
        exact ⟨by first | rfl | (simp [errW_none, errW_some] <;> rfl) | (simp [*, errW_none, errW_some] <;> rfl), by repeat (first | (with_reducible first | exact HB.out | apply below_alloc | apply pw_below_drewN | apply below_drew1 | refine below_set ?_ GE217.out | refine below_set ?_ GE218.out) | exact HB.out)⟩
    · rw [if_neg c4] at H
      have c4b0 : (a0_1 == a1_1) = false := beq_eq_false_iff_ne.mpr c4
      have c4b1 : (a0_1 != a1_1) = true := bne_iff_ne.mpr c4
      obtain rfl := Option.some.inj H
      go_enter Try.func10, Try.ntmps10
      go_wp2_with (first | ((with_reducible refine gate_dst (N := 2) rfl ?_); refine box_event ?hg (N := 2) ?hd (cs := #[.int .i64 a0_0, .int .i64 a0_1, .string a0_2, .slice A0_3 l0_3.length c0_3]) (t := 31) ?hr ?_; (case hd => rfl); (case hg => rfl); (case hr => first | (go_simp; done) | (go_simp; rfl)); intro gb217 hg w17 hbox hb; have n0_ := Aside0.mk (below_step (by repeat (first | (with_reducible first | exact HB.out | apply below_alloc | apply pw_below_drewN | apply below_drew1) | exact HB.out)) hb); have n1_ := Aside0.mk (hbox); have n2_ := Aside0.mk ((by rw [hg]; exact (below_size (by repeat (first | (with_reducible first | exact HB.out | apply below_alloc | apply pw_below_drewN | apply below_drew1) | exact HB.out))) : w.heap.size ≤ gb217)); have n3_ := Aside0.mk ((by rw [hg]; exact (below_size (by repeat (first | (with_reducible first | exact HB.out | apply below_alloc | apply pw_below_drewN | apply below_drew1) | exact HB.out))) : w.heap.size ≤ gb217)); clear HB; have HB := n0_; have BK217 := n1_; have GW217 := n2_; have GE217 := n3_; clear n0_ n1_ n2_ n3_; clear hb hbox hg) | ((with_reducible refine gate_dst (N := 3) rfl ?_); refine box_event ?hg (N := 3) ?hd (cs := #[.int .i64 a1_0, .int .i64 a1_1, .string a1_2, .slice A1_3 l1_3.length c1_3]) (t := 31) ?hr ?_; (case hd => rfl); (case hg => rfl); (case hr => first | (go_simp; done) | (go_simp; rfl)); intro gb218 hg w18 hbox hb; have n0_ := Aside0.mk (blk_below (g := gb217) (o := .cells #[.int .i64 a0_0, .int .i64 a0_1, .string a0_2, .slice A0_3 l0_3.length c0_3] 31 (0, 0)) (by (with_reducible repeat (first | refine blk_drewN ?_ _ | refine blk_drew ?_ | refine blk_alloc ?_ _)); exact BK217.out) hb); have n1_ := Aside0.mk (below_step (by repeat (first | (with_reducible first | exact HB.out | apply below_alloc | apply pw_below_drewN | apply below_drew1 | refine below_set ?_ GE217.out) | exact HB.out)) hb); have n2_ := Aside0.mk (hbox); have n3_ := Aside0.mk ((by rw [hg]; exact (below_size (by repeat (first | (with_reducible first | exact HB.out | apply below_alloc | apply pw_below_drewN | apply below_drew1 | refine below_set ?_ GE217.out) | exact HB.out))) : w.heap.size ≤ gb218)); have n4_ := Aside0.mk ((by rw [hg]; exact (below_size (by repeat (first | (with_reducible first | exact HB.out | apply below_alloc | apply pw_below_drewN | apply below_drew1 | refine below_set ?_ GE217.out) | exact HB.out))) : w.heap.size ≤ gb218)); have n5_ := Aside0.mk ((by rw [hg]; exact Nat.ne_of_lt (blk_lt (g := gb217) (o := .cells #[.int .i64 a0_0, .int .i64 a0_1, .string a0_2, .slice A0_3 l0_3.length c0_3] 31 (0, 0)) (by (with_reducible repeat (first | refine blk_drewN ?_ _ | refine blk_drew ?_ | refine blk_alloc ?_ _)); exact BK217.out)) : gb217 ≠ gb218)); have n6_ := Aside0.mk ((by rw [hg]; exact Nat.ne_of_gt (blk_lt (g := gb217) (o := .cells #[.int .i64 a0_0, .int .i64 a0_1, .string a0_2, .slice A0_3 l0_3.length c0_3] 31 (0, 0)) (by (with_reducible repeat (first | refine blk_drewN ?_ _ | refine blk_drew ?_ | refine blk_alloc ?_ _)); exact BK217.out)) : gb218 ≠ gb217)); clear BK217; clear HB; have BK217 := n0_; have HB := n1_; have BK218 := n2_; have GW218 := n3_; have GE218 := n4_; have NB217_218 := n5_; have NB218_217 := n6_; clear n0_ n1_ n2_ n3_ n4_ n5_ n6_; clear hb hbox hg; have hnb19 := NB217_218.out; have hnc19 := NB218_217.out; have hcz20_0 : w18.cell? ⟨gb217, 0, none⟩ = some (.int .i64 a0_0) := (blk_cell BK217.out 0).trans rfl; have hcz20_1 : w18.cell? ⟨gb217, 1, none⟩ = some (.int .i64 a0_1) := (blk_cell BK217.out 1).trans rfl; have hcz20_2 : w18.cell? ⟨gb217, 2, none⟩ = some (.string a0_2) := (blk_cell BK217.out 2).trans rfl; have hcz20_3 : w18.cell? ⟨gb217, 3, none⟩ = some (.slice A0_3 l0_3.length c0_3) := (blk_cell BK217.out 3).trans rfl; have hfz20_0 := blk_frozen BK217.out 0; have hfz20_1 := blk_frozen BK217.out 1; have hfz20_2 := blk_frozen BK217.out 2; have hfz20_3 := blk_frozen BK217.out 3; have hcz21_0 : w18.cell? ⟨gb218, 0, none⟩ = some (.int .i64 a1_0) := (blk_cell BK218.out 0).trans rfl; have hcz21_1 : w18.cell? ⟨gb218, 1, none⟩ = some (.int .i64 a1_1) := (blk_cell BK218.out 1).trans rfl; have hcz21_2 : w18.cell? ⟨gb218, 2, none⟩ = some (.string a1_2) := (blk_cell BK218.out 2).trans rfl; have hcz21_3 : w18.cell? ⟨gb218, 3, none⟩ = some (.slice A1_3 l1_3.length c1_3) := (blk_cell BK218.out 3).trans rfl; have hfz21_0 := blk_frozen BK218.out 0; have hfz21_1 := blk_frozen BK218.out 1; have hfz21_2 := blk_frozen BK218.out 2; have hfz21_3 := blk_frozen BK218.out 3))
      go_ret
      exact ⟨by first | rfl | (simp [errW_none, errW_some] <;> rfl) | (simp [*, errW_none, errW_some] <;> rfl), by repeat (first | (with_reducible first | exact HB.out | apply below_alloc | apply pw_below_drewN | apply below_drew1 | refine below_set ?_ GE217.out | refine below_set ?_ GE218.out) | exact HB.out)⟩
  · rw [if_neg c3] at H
    have c3b0 : (a0_0 == a1_0) = false := beq_eq_false_iff_ne.mpr c3
    have c3b1 : (a0_0 != a1_0) = true := bne_iff_ne.mpr c3
    obtain rfl := Option.some.inj H
    go_enter Try.func10, Try.ntmps10
    go_wp2_with (first | ((with_reducible refine gate_dst (N := 2) rfl ?_); refine box_event ?hg (N := 2) ?hd (cs := #[.int .i64 a0_0, .int .i64 a0_1, .string a0_2, .slice A0_3 l0_3.length c0_3]) (t := 31) ?hr ?_; (case hd => rfl); (case hg => rfl); (case hr => first | (go_simp; done) | (go_simp; rfl)); intro gb217 hg w22 hbox hb; have n0_ := Aside0.mk (below_step (by repeat (first | (with_reducible first | exact HB.out | apply below_alloc | apply pw_below_drewN | apply below_drew1) | exact HB.out)) hb); have n1_ := Aside0.mk (hbox); have n2_ := Aside0.mk ((by rw [hg]; exact (below_size (by repeat (first | (with_reducible first | exact HB.out | apply below_alloc | apply pw_below_drewN | apply below_drew1) | exact HB.out))) : w.heap.size ≤ gb217)); have n3_ := Aside0.mk ((by rw [hg]; exact (below_size (by repeat (first | (with_reducible first | exact HB.out | apply below_alloc | apply pw_below_drewN | apply below_drew1) | exact HB.out))) : w.heap.size ≤ gb217)); clear HB; have HB := n0_; have BK217 := n1_; have GW217 := n2_; have GE217 := n3_; clear n0_ n1_ n2_ n3_; clear hb hbox hg) | ((with_reducible refine gate_dst (N := 3) rfl ?_); refine box_event ?hg (N := 3) ?hd (cs := #[.int .i64 a1_0, .int .i64 a1_1, .string a1_2, .slice A1_3 l1_3.length c1_3]) (t := 31) ?hr ?_; (case hd => rfl); (case hg => rfl); (case hr => first | (go_simp; done) | (go_simp; rfl)); intro gb218 hg w23 hbox hb; have n0_ := Aside0.mk (blk_below (g := gb217) (o := .cells #[.int .i64 a0_0, .int .i64 a0_1, .string a0_2, .slice A0_3 l0_3.length c0_3] 31 (0, 0)) (by (with_reducible repeat (first | refine blk_drewN ?_ _ | refine blk_drew ?_ | refine blk_alloc ?_ _)); exact BK217.out) hb); have n1_ := Aside0.mk (below_step (by repeat (first | (with_reducible first | exact HB.out | apply below_alloc | apply pw_below_drewN | apply below_drew1 | refine below_set ?_ GE217.out) | exact HB.out)) hb); have n2_ := Aside0.mk (hbox); have n3_ := Aside0.mk ((by rw [hg]; exact (below_size (by repeat (first | (with_reducible first | exact HB.out | apply below_alloc | apply pw_below_drewN | apply below_drew1 | refine below_set ?_ GE217.out) | exact HB.out))) : w.heap.size ≤ gb218)); have n4_ := Aside0.mk ((by rw [hg]; exact (below_size (by repeat (first | (with_reducible first | exact HB.out | apply below_alloc | apply pw_below_drewN | apply below_drew1 | refine below_set ?_ GE217.out) | exact HB.out))) : w.heap.size ≤ gb218)); have n5_ := Aside0.mk ((by rw [hg]; exact Nat.ne_of_lt (blk_lt (g := gb217) (o := .cells #[.int .i64 a0_0, .int .i64 a0_1, .string a0_2, .slice A0_3 l0_3.length c0_3] 31 (0, 0)) (by (with_reducible repeat (first | refine blk_drewN ?_ _ | refine blk_drew ?_ | refine blk_alloc ?_ _)); exact BK217.out)) : gb217 ≠ gb218)); have n6_ := Aside0.mk ((by rw [hg]; exact Nat.ne_of_gt (blk_lt (g := gb217) (o := .cells #[.int .i64 a0_0, .int .i64 a0_1, .string a0_2, .slice A0_3 l0_3.length c0_3] 31 (0, 0)) (by (with_reducible repeat (first | refine blk_drewN ?_ _ | refine blk_drew ?_ | refine blk_alloc ?_ _)); exact BK217.out)) : gb218 ≠ gb217)); clear BK217; clear HB; have BK217 := n0_; have HB := n1_; have BK218 := n2_; have GW218 := n3_; have GE218 := n4_; have NB217_218 := n5_; have NB218_217 := n6_; clear n0_ n1_ n2_ n3_ n4_ n5_ n6_; clear hb hbox hg; have hnb24 := NB217_218.out; have hnc24 := NB218_217.out; have hcz25_0 : w23.cell? ⟨gb217, 0, none⟩ = some (.int .i64 a0_0) := (blk_cell BK217.out 0).trans rfl; have hcz25_1 : w23.cell? ⟨gb217, 1, none⟩ = some (.int .i64 a0_1) := (blk_cell BK217.out 1).trans rfl; have hcz25_2 : w23.cell? ⟨gb217, 2, none⟩ = some (.string a0_2) := (blk_cell BK217.out 2).trans rfl; have hcz25_3 : w23.cell? ⟨gb217, 3, none⟩ = some (.slice A0_3 l0_3.length c0_3) := (blk_cell BK217.out 3).trans rfl; have hfz25_0 := blk_frozen BK217.out 0; have hfz25_1 := blk_frozen BK217.out 1; have hfz25_2 := blk_frozen BK217.out 2; have hfz25_3 := blk_frozen BK217.out 3; have hcz26_0 : w23.cell? ⟨gb218, 0, none⟩ = some (.int .i64 a1_0) := (blk_cell BK218.out 0).trans rfl; have hcz26_1 : w23.cell? ⟨gb218, 1, none⟩ = some (.int .i64 a1_1) := (blk_cell BK218.out 1).trans rfl; have hcz26_2 : w23.cell? ⟨gb218, 2, none⟩ = some (.string a1_2) := (blk_cell BK218.out 2).trans rfl; have hcz26_3 : w23.cell? ⟨gb218, 3, none⟩ = some (.slice A1_3 l1_3.length c1_3) := (blk_cell BK218.out 3).trans rfl; have hfz26_0 := blk_frozen BK218.out 0; have hfz26_1 := blk_frozen BK218.out 1; have hfz26_2 := blk_frozen BK218.out 2; have hfz26_3 := blk_frozen BK218.out 3))
    go_ret
    exact ⟨by first | rfl | (simp [errW_none, errW_some] <;> rfl) | (simp [*, errW_none, errW_some] <;> rfl), by repeat (first | (with_reducible first | exact HB.out | apply below_alloc | apply pw_below_drewN | apply below_drew1 | refine below_set ?_ GE217.out | refine below_set ?_ GE218.out) | exact HB.out)⟩

/-! ### dowelbook_CoreBodies: function 37 -/

end Go.Proofs.Ytmpkkphohilkoaa.F
namespace Go.Proofs.Ytmpkkphohilkoaa.F
open Go.RowKit Go.Proofs.YtmpkkphohilkoaaW.PrintWords Go.Proofs.YtmpkkphohilkoaaW.PrintLast Go.Proofs.YtmpkkphohilkoaaW.PrintMore
attribute [local go_sem] max2_int min2_int max_two min_two max_three min_three max_four min_four   -- for this text's walks alone
set_option linter.unusedVariables false
set_option linter.unusedSimpArgs false

/-! ### dowelbook_Cores: function 23 -/

end Go.Proofs.Ytmpkkphohilkoaa.F
/- dowelbook.FreeForests: lists of the call's own, no two in one block, share no memory. -/
namespace Go.Proofs.Ytmpkkphohilkoaa.B
open Go Go.RowKit Go.X Go.X.Fr4 Go.Proofs.YtmpkkphohilkoaaW.PrintWords Go.Proofs.Ytmpkkphohilkoaa.F
open Go.X.Fr (slen slen_slice Pre own_form')



end Go.Proofs.Ytmpkkphohilkoaa.B
