/- Texts joined and shortened (wip/tools/shrink.py): MCheck2, MCheck3, MCoreCheck, MRunP. -/
import Derived.Test.YtmpkkphohilkoaaQp10
import Derived.Test.YtmpkkphohilkoaaQp13
import Derived.Maps.OwnOps
import Derived.Maps.OwnSet
import Derived.Deep.RegionHeld3
import Derived.Outline
import Derived.Test.YtmpkkphohilkoaaQp4
import Derived.Test.YtmpkkphohilkoaaQp7
/- core.right and dowelref09.Check in plain words; what Check lets pass. -/
namespace Go.Proofs.Ytmpkkphohilkoaa.B
open Go Go.RowKit Go.X Go.Ma Go.Proofs.YtmpkkphohilkoaaW.PrintWords Go.Proofs.YtmpkkphohilkoaaW.PrintLast Go.Proofs.YtmpkkphohilkoaaW.PrintMore Go.Proofs.Ytmpkkphohilkoaa.F Go.Proofs.Ytmpkkphohilkoaa.Nm
set_option linter.unusedSimpArgs false

theorem arity_f (op : Int) (k : Nat) (hk : 0 < k) : core_arity.f k op = some (arz op : Int) := by
  obtain ⟨k, rfl⟩ : ∃ m, k = m + 1 := ⟨k - 1, by omega⟩
  unfold core_arity.f arz
  by_cases h4 : op = 4
  · subst h4; rfl
  · rw [if_neg h4, core_arity.j0]
    by_cases h5 : op = 5
    · subst h5; rfl
    · by_cases h6 : op = 6
      · subst h6; rfl
      · by_cases h7 : op = 7
        · subst h7; rfl
        · by_cases h8 : op = 8
          · subst h8; rfl
          · simp [h4, h5, h6, h7, h8]
theorem nilB (s : ByteArray) : (s.toList == (⟨#[]⟩ : ByteArray).toList) = decide (s.size = 0) := by
  rw [show (⟨#[]⟩ : ByteArray).toList = [] by rw [ByteArray.toList_eq]]
  exact nil_iff s
/- A name's bytes are all of ASCII. -/
theorem run_take (p : Int → Bool) : ∀ l : List Int, ∀ c ∈ l.take (run p l), p c = true
  | [], c, h => by simp at h
  | x :: r, c, h => by
    rw [run_cons] at h
    split at h
    · rename_i hp
      rw [Nat.add_comm, List.take_succ_cons, List.mem_cons] at h
      rcases h with rfl | h
      · exact hp
      · exact run_take p r c h
    · simp at h
theorem ld_low {c : Int} (h : ldZ c = true) : c < 128 := by
  simp only [ldZ, letterZ, digitZ, Bool.or_eq_true, Bool.and_eq_true, decide_eq_true_eq] at h
  omega
theorem ownL_low : ∀ l : List Int, ∀ c ∈ l.take (ownL l), c < 128
  | [], c, h => by simp at h
  | x :: r, c, h => by
    rw [ownL] at h
    split at h
    · rename_i hp
      rw [Nat.add_comm, List.take_succ_cons, List.mem_cons] at h
      rcases h with rfl | h
      · exact ld_low (ld_letter hp)
      · exact ld_low (run_take ldZ r c h)
    · simp at h
theorem numL_low : ∀ l : List Int, ∀ c ∈ l.take (numL l), c < 128
  | [], c, h => by simp at h
  | x :: r, c, h => by
    rw [numL] at h
    split at h
    · rename_i hp
      rw [Nat.add_comm, List.take_succ_cons, List.mem_cons] at h
      rcases h with rfl | h
      · omega
      · exact ld_low (ld_digit (run_take digitZ r c h))
    · simp at h
theorem mid_low {l : List Int} {n : Nat} (hl : ∀ c ∈ l.take n, c < 128) : ∀ c ∈ l.take (mid l n), c < 128 := by
  intro c h
  rw [mid] at h
  split at h
  · rename_i hp
    rw [List.take_add, List.take_add, hp.1] at h
    simp only [List.mem_append, List.mem_cons, List.not_mem_nil, or_false] at h
    rcases h with (h | h | h) | h
    · exact hl c h
    · omega
    · omega
    · exact ownL_low _ c h
  · exact hl c h
theorem named_low (l : List Int) : ∀ c ∈ l.take (namedL l), c < 128 := by
  intro c h
  rw [namedL] at h
  split at h
  · simp at h
  · rw [List.take_add, List.mem_append] at h
    rcases h with h | h
    · exact mid_low (ownL_low l) c h
    · exact numL_low _ c h
theorem nameOK_asc {s : ByteArray} (h : nameOK s = true) : asc s = true := by
  have h3 := of_decide_eq_true h
  have hl := named_low (bl s)
  rw [h3.2.2, ← bl_length, List.take_length] at hl
  rw [asc, List.all_eq_true]
  intro b hb
  have := hl (b.toNat : Int) (List.mem_map.2 ⟨b, hb, rfl⟩)
  simp only [decide_eq_true_eq]
  omega
theorem indexAny_iff (chars : List UInt8) : ∀ l : List UInt8, 0 ≤ Lib.indexAny l chars ↔ ∃ b ∈ l, chars.contains b = true
  | [] => by simp [Lib.indexAny]
  | b :: l => by
    have ih := indexAny_iff chars l
    have hg := Lib.indexAny_ge chars l
    rw [Lib.indexAny]
    by_cases h : chars.contains b = true
    · rw [if_pos h]
      simp only [Int.le_refl, true_iff]
      exact ⟨b, List.mem_cons_self, h⟩
    · rw [if_neg h]
      have e : (∃ b' ∈ b :: l, chars.contains b' = true) ↔ ∃ b ∈ l, chars.contains b = true := by
        constructor
        · rintro ⟨x, hx, hc⟩
          rcases List.mem_cons.1 hx with rfl | hx
          · exact absurd hc h
          · exact ⟨x, hx, hc⟩
        · rintro ⟨x, hx, hc⟩
          exact ⟨x, List.mem_cons_of_mem _ hx, hc⟩
      rw [e, ← ih]
      split
      · rename_i h1
        have := eq_of_beq h1
        omega
      · rename_i h1
        have : ¬ Lib.indexAny l chars = -1 := fun q => h1 (by rw [q]; rfl)
        omega
theorem plain_any (s : ByteArray) : Lib.containsAny s.data.toList [58, 126] = !plainS s := by
  have key : Lib.containsAny s.data.toList [58, 126] = true ↔ plainS s = false := by
    rw [Lib.containsAny, decide_eq_true_iff, indexAny_iff, plainS, List.all_eq_false]
    constructor
    · rintro ⟨b, hb, hc⟩
      refine ⟨(b.toNat : Int), List.mem_map.2 ⟨b, hb, rfl⟩, ?_⟩
      have : b = 58 ∨ b = 126 := by simpa using hc
      rcases this with rfl | rfl <;> decide
    · rintro ⟨c, hc, hn⟩
      obtain ⟨b, hb, rfl⟩ := List.mem_map.1 hc
      refine ⟨b, hb, ?_⟩
      have hn' : (b.toNat : Int) = 58 ∨ (b.toNat : Int) = 126 := by
        simp only [decide_eq_true_eq] at hn
        omega
      have h58 : b.toNat = 58 → b = 58 := fun e => UInt8.toNat_inj.1 e
      have h126 : b.toNat = 126 → b = 126 := fun e => UInt8.toNat_inj.1 e
      rcases hn' with e | e
      · rw [h58 (by omega)]; decide
      · rw [h126 (by omega)]; decide
  cases h : plainS s
  · rw [key.2 h]; rfl
  · rw [Bool.not_true]
    rw [← Bool.not_eq_true, key, h]
    decide
theorem any_f (s : ByteArray) (h : nameOK s = true) : strings_ContainsAny.f s ⟨#[58, 126]⟩ = some (!plainS s) := by
  have := nameOK_le h
  rw [strings_ContainsAny.f, if_pos ⟨nameOK_asc h, rfl, by omega, by decide⟩]
  congr 1
  exact plain_any s
/- core.right -/
section
variable (N n len i F k : Nat) (xs : List S55) (x : S55) (R : Bool)
theorem right_j2 (b : Bool) (m : Nat) (t : Int) (hb : b = true → 0 ≤ x.f0 ∧ x.f0 ≤ 8) (h12 : x.f0 ≠ 1 ∧ x.f0 ≠ 2)
    (H : ∀ k, F < k → core_right.l0 k N (wrap64 ((n : Int) + wrap64 (1 - t))) xs len (wrap64 ((i : Int) + 1)) = some R) (hk : F < m) (z : Bool) (hz : z = decide (x.f0 = 3 ∨ x.f0 = 8)) :
    core_right.j2 (m + 1) N n t b xs len i z x.f0 x.f1.f0 x.f1.f1 x.f1.f2 x.f1.f3 x.f2 x.f3 x.f0 0 0 0 0 0 (⟨#[]⟩ : ByteArray) = some (b && nodeOK N x && R) := by
  rw [core_right.j2]
  cases b with
  | false =>
    split
    · rfl
    · rfl
  | true =>
    have hop := hb rfl
    simp only [if_true, Bool.true_and]
    by_cases h38 : x.f0 = 3 ∨ x.f0 = 8
    · rw [if_pos (by rw [hz]; simp [h38])]
      have hlex : lexis_Name.f x.f3 = some (nameOK x.f3) := rfl
      rw [hlex, Option.bind_some]
      by_cases hn : nameOK x.f3 = true
      · rw [if_pos hn, any_f _ hn, Option.bind_some]
        by_cases hp : plainS x.f3 = true
        · rw [if_neg (by simp [hp])]
          by_cases hc : x.f1.f0 = 0 ∧ x.f1.f1 = 0 ∧ x.f1.f2 = 0 ∧ x.f1.f3 = 0 ∧ x.f2 = 0
          · rw [if_neg (by simp [hc]), H m hk]
            have : nodeOK N x = true := by
              rw [nodeOK, if_pos h38, hn, hp, Bool.and_true, Bool.and_true]
              exact decide_eq_true ⟨hop.1, hop.2, fun _ => ⟨hc.1, hc.2.1, hc.2.2.1, hc.2.2.2.1⟩, fun q => absurd q h12.2, fun _ => hc.2.2.2.2⟩
            rw [this, Bool.true_and]
          · rw [if_pos (by simp; omega)]
            have : nodeOK N x = false := by
              rw [nodeOK, Bool.and_eq_false_iff]
              refine .inl (decide_eq_false fun q => hc ?_)
              have := q.2.2.1 h12.1
              exact ⟨this.1, this.2.1, this.2.2.1, this.2.2.2, q.2.2.2.2 h12.2⟩
            rw [this, Bool.false_and]
        · rw [if_pos (by simp [hp])]
          have : nodeOK N x = false := by
            rw [nodeOK, if_pos h38, Bool.and_eq_false_iff, Bool.and_eq_false_iff]
            exact .inr (.inr (by simpa using hp))
          rw [this, Bool.false_and]
      · rw [if_neg hn]
        have : nodeOK N x = false := by
          rw [nodeOK, if_pos h38, Bool.and_eq_false_iff, Bool.and_eq_false_iff]
          exact .inr (.inl (by simpa using hn))
        rw [this, Bool.false_and]
    · rw [if_neg (by rw [hz]; simp [h38])]
      have hnil := nilB x.f3
      by_cases hc : x.f1.f0 = 0 ∧ x.f1.f1 = 0 ∧ x.f1.f2 = 0 ∧ x.f1.f3 = 0 ∧ x.f2 = 0 ∧ x.f3.size = 0
      · have he : (x.f3.toList == (⟨#[]⟩ : ByteArray).toList) = true := hnil.trans (by simp [hc])
        rw [if_neg (by rw [he]; simp [hc]), H m hk]
        have : nodeOK N x = true := by
          rw [nodeOK, if_neg h38, Bool.and_eq_true]
          exact ⟨decide_eq_true ⟨hop.1, hop.2, fun _ => ⟨hc.1, hc.2.1, hc.2.2.1, hc.2.2.2.1⟩, fun q => absurd q h12.2, fun _ => hc.2.2.2.2.1⟩, decide_eq_true hc.2.2.2.2.2⟩
        rw [this, Bool.true_and]
      · have he : (x.f3.toList == (⟨#[]⟩ : ByteArray).toList) = decide (x.f3.size = 0) := hnil
        rw [if_pos (by rw [he]; clear he hnil; generalize x.f3.size = z at *; simp; omega)]
        have : nodeOK N x = false := by
          rw [nodeOK, if_neg h38]
          apply Bool.eq_false_iff.2
          intro q
          rw [Bool.and_eq_true, decide_eq_true_iff, decide_eq_true_iff] at q
          obtain ⟨⟨_, _, q1, _, q2⟩, q3⟩ := q
          have := q1 h12.1
          exact hc ⟨this.1, this.2.1, this.2.2.1, this.2.2.2, q2 h12.2, q3⟩
        rw [this, Bool.false_and]
theorem right_j1 (b : Bool) (m : Nat) (t : Int) (hb : b = true → 0 ≤ x.f0 ∧ x.f0 ≤ 8)
    (H : ∀ k, F < k → core_right.l0 k N (wrap64 ((n : Int) + wrap64 (1 - t))) xs len (wrap64 ((i : Int) + 1)) = some R) (hk : F < m) :
    core_right.j1 (m + 2) N n t b xs len i x.f0 x.f1.f0 x.f1.f1 x.f1.f2 x.f1.f3 x.f2 x.f3 x.f0 0 0 0 0 0 (⟨#[]⟩ : ByteArray) = some (b && nodeOK N x && R) := by
  rw [core_right.j1]
  have hnil := nilB x.f3
  by_cases h1 : x.f0 = 1
  · rw [if_pos h1]
    cases b with
    | false => rfl
    | true =>
      have hop := hb rfl
      simp only [if_true, Bool.true_and]
      by_cases hc : x.f2 = 0 ∧ x.f3.size = 0
      · have he : (x.f3.toList == (⟨#[]⟩ : ByteArray).toList) = true := hnil.trans (by simp [hc])
        rw [if_neg (by rw [he]; simp [hc]), H _ (by omega)]
        have : nodeOK N x = true := by
          rw [nodeOK, if_neg (by omega), Bool.and_eq_true]
          exact ⟨decide_eq_true ⟨hop.1, hop.2, fun q => absurd h1 q, fun q => by omega, fun _ => hc.1⟩, decide_eq_true hc.2⟩
        rw [this, Bool.true_and]
      · have he : (x.f3.toList == (⟨#[]⟩ : ByteArray).toList) = decide (x.f3.size = 0) := hnil
        rw [if_pos (by rw [he]; clear he hnil; generalize x.f3.size = z at *; simp; omega)]
        have : nodeOK N x = false := by
          rw [nodeOK, if_neg (by omega)]
          apply Bool.eq_false_iff.2
          intro q
          rw [Bool.and_eq_true, decide_eq_true_iff, decide_eq_true_iff] at q
          exact hc ⟨q.1.2.2.2.2 (by omega), q.2⟩
        rw [this, Bool.false_and]
  · rw [if_neg h1]
    by_cases h2 : x.f0 = 2
    · rw [if_pos h2]
      cases b with
      | false => rfl
      | true =>
        have hop := hb rfl
        simp only [if_true, Bool.true_and]
        have hno : ¬ (0 ≤ x.f2 ∧ x.f2 < N) → nodeOK N x = false := fun hh => by
          rw [nodeOK, Bool.and_eq_false_iff]
          exact .inl (decide_eq_false fun q => hh (q.2.2.2.1 h2))
        by_cases hr : x.f2 ≥ 0
        · rw [if_pos hr]
          by_cases hr2 : x.f2 < N
          · rw [if_pos hr2]
            by_cases hc : x.f1.f0 = 0 ∧ x.f1.f1 = 0 ∧ x.f1.f2 = 0 ∧ x.f1.f3 = 0 ∧ x.f3.size = 0
            · have he : (x.f3.toList == (⟨#[]⟩ : ByteArray).toList) = true := hnil.trans (by simp [hc])
              rw [if_neg (by rw [he]; simp [hc]), H _ (by omega)]
              have : nodeOK N x = true := by
                rw [nodeOK, if_neg (by omega), Bool.and_eq_true]
                exact ⟨decide_eq_true ⟨hop.1, hop.2, fun _ => ⟨hc.1, hc.2.1, hc.2.2.1, hc.2.2.2.1⟩, fun _ => ⟨hr, hr2⟩, fun q => absurd h2 q⟩, decide_eq_true hc.2.2.2.2⟩
              rw [this, Bool.true_and]
            · have he : (x.f3.toList == (⟨#[]⟩ : ByteArray).toList) = decide (x.f3.size = 0) := hnil
              rw [if_pos (by rw [he]; clear he hnil; generalize x.f3.size = z at *; simp; omega)]
              have : nodeOK N x = false := by
                rw [nodeOK, if_neg (by omega)]
                apply Bool.eq_false_iff.2
                intro q
                rw [Bool.and_eq_true, decide_eq_true_iff, decide_eq_true_iff] at q
                obtain ⟨⟨_, _, q1, _, _⟩, q3⟩ := q
                have := q1 h1
                exact hc ⟨this.1, this.2.1, this.2.2.1, this.2.2.2, q3⟩
              rw [this, Bool.false_and]
          · rw [if_neg hr2, hno (fun q => hr2 q.2), Bool.false_and]
        · rw [if_neg hr, hno (fun q => hr q.1), Bool.false_and]
    · rw [if_neg h2]
      by_cases h3 : x.f0 = 3
      · rw [if_pos h3]
        exact right_j2 N n len i F xs x R b m t hb ⟨h1, h2⟩ H hk _ (by simp [h3])
      · rw [if_neg h3]
        exact right_j2 N n len i F xs x R b m t hb ⟨h1, h2⟩ H hk _ (by rw [Bool.eq_iff_iff]; simp [h3])
end
theorem right_l0 (N : Nat) (xs : List S55) (hl : xs.length ≤ 1048576) : ∀ (d k i n : Nat), xs.length - i = d → d * 3 + 10 < k → i ≤ xs.length → n ≤ i → core_right.l0 k N n xs (xs.length : Int) i = some (goB N (xs.drop i) n)
  | 0, k, i, n, hd, hk, hi, hn => by
    obtain ⟨k, rfl⟩ : ∃ m, k = m + 1 := ⟨k - 1, by omega⟩
    rw [core_right.l0, if_neg (by omega), List.drop_of_length_le (by omega), goB]
    congr 1
    rw [Bool.eq_iff_iff]
    simp
    omega
  | d + 1, k, i, n, hd, hk, hi, hn => by
    obtain ⟨k, rfl⟩ : ∃ m, k = m + 1 := ⟨k - 1, by omega⟩
    have e : rd_T55 xs (i : Int) = cd xs i := by rw [rd_T55, Int.toNat_natCast]; rfl
    rw [core_right.l0, if_pos (by omega), if_pos (by omega), if_pos (by omega), e, drop_cd (by omega), goB]
    generalize cd xs i = x
    rw [arity_f _ _ (by omega), Option.bind_some]
    have h2 : arz x.f0 ≤ 2 := by unfold arz; split <;> (try split) <;> omega
    have hw : wrap64 ((i : Int) + 1) = ((i + 1 : Nat) : Int) := by rw [IntWalk.wrap64_in _ (by omega)]; rfl
    obtain ⟨m, rfl⟩ : ∃ m, k = m + 2 := ⟨k - 2, by omega⟩
    by_cases ha : arz x.f0 ≤ n
    · rw [if_pos (by omega)]
      have hw2 : wrap64 ((n : Int) + wrap64 (1 - (arz x.f0 : Int))) = ((n + 1 - arz x.f0 : Nat) : Int) := by
        rw [IntWalk.wrap64_in (1 - _) (by omega), IntWalk.wrap64_in _ (by omega)]
        omega
      have H : ∀ k, d * 3 + 10 < k → core_right.l0 k N (wrap64 ((n : Int) + wrap64 (1 - (arz x.f0 : Int)))) xs (xs.length : Int) (wrap64 ((i : Int) + 1)) = some (goB N (xs.drop (i + 1)) (n + 1 - arz x.f0)) := by
        intro k hk
        rw [hw, hw2]
        exact right_l0 N xs hl d k (i + 1) (n + 1 - arz x.f0) (by omega) hk (by omega) (by omega)
      have hd2 : decide (arz x.f0 ≤ n) = true := decide_eq_true ha
      rw [hd2, Bool.and_true]
      by_cases h0 : x.f0 ≥ 0
      · rw [if_pos h0, right_j1 N n xs.length i (d * 3 + 10) xs x _ _ m _ (fun hb => ⟨h0, of_decide_eq_true hb⟩) H (by omega)]
        by_cases h8 : x.f0 ≤ 8
        · rw [decide_eq_true h8, Bool.true_and]
        · have : nodeOK N x = false := by
            rw [nodeOK, Bool.and_eq_false_iff]
            exact .inl (decide_eq_false fun q => h8 q.2.1)
          rw [this, Bool.and_false]
      · rw [if_neg h0, right_j1 N n xs.length i (d * 3 + 10) xs x _ _ m _ (fun hb => by cases hb) H (by omega)]
        have : nodeOK N x = false := by
          rw [nodeOK, Bool.and_eq_false_iff]
          exact .inl (decide_eq_false fun q => h0 q.1)
        rw [this, Bool.and_false]
    · rw [if_neg (by omega)]
      have hd2 : decide (arz x.f0 ≤ n) = false := decide_eq_false ha
      rw [hd2, Bool.and_false, Bool.false_and]
      have H2 : ∀ b, b = false → ∀ t : Int, core_right.j1 (m + 2) N n t b xs (xs.length : Int) i x.f0 x.f1.f0 x.f1.f1 x.f1.f2 x.f1.f3 x.f2 x.f3 x.f0 0 0 0 0 0 (⟨#[]⟩ : ByteArray) = some false := by
        rintro b rfl t
        rw [core_right.j1]
        have hj : ∀ z, core_right.j2 (m + 1) N n t false xs (xs.length : Int) i z x.f0 x.f1.f0 x.f1.f1 x.f1.f2 x.f1.f3 x.f2 x.f3 x.f0 0 0 0 0 0 (⟨#[]⟩ : ByteArray) = some false := by
          intro z
          rw [core_right.j2]
          cases z <;> rfl
        simp only [hj]
        split
        · rfl
        · split
          · rfl
          · split <;> rfl
      exact H2 _ rfl _
theorem right_f (N : Nat) (xs : List S55) (hl : xs.length ≤ 1048576) (k : Nat) (hk : xs.length * 3 + 10 < k) : core_right.f k xs N = some (goB N xs 0) :=
  right_l0 N xs hl xs.length k 0 0 rfl hk (Nat.zero_le _) (Nat.le_refl _)
end Go.Proofs.Ytmpkkphohilkoaa.B
/- dowelref09.Check in plain words; what Check lets pass is good for the evaluation. -/
namespace Go.Proofs.Ytmpkkphohilkoaa.B
open Go Go.RowKit Go.X Go.Ma Go.Proofs.YtmpkkphohilkoaaW.PrintWords Go.Proofs.YtmpkkphohilkoaaW.PrintLast Go.Proofs.YtmpkkphohilkoaaW.PrintMore Go.Proofs.Ytmpkkphohilkoaa.F Go.Proofs.Ytmpkkphohilkoaa.Nm
set_option linter.unusedSimpArgs false

theorem rd_cr (rs : List S45) (i : Nat) : rd_T45 rs (i : Int) = cr rs i := by rw [rd_T45, Int.toNat_natCast]; rfl
theorem check_l1 (rs : List S45) (st : Int) (i : Nat) (hi : i < rs.length) (hl : rs.length ≤ 1048576) (F : Nat) (R : Int) (H : ∀ m, F < m → dowelref09_Check.l0 m (wrap64 ((i : Int) + 1)) rs st = some R) :
    ∀ (d k j : Nat), i - j = d → j ≤ i → d + 1 + F < k → dowelref09_Check.l1 k i j rs st = some (if ∀ q, q < i → j ≤ q → (cr rs q).f0 ≠ (cr rs i).f0 then R else 6)
  | 0, k, j, hd, hj, hk => by
    obtain ⟨k, rfl⟩ : ∃ m, k = m + 1 := ⟨k - 1, by omega⟩
    rw [dowelref09_Check.l1, if_neg (by omega), H k (by omega), if_pos (fun q _ _ => by omega)]
  | d + 1, k, j, hd, hj, hk => by
    obtain ⟨k, rfl⟩ : ∃ m, k = m + 1 := ⟨k - 1, by omega⟩
    have hw : wrap64 ((j : Int) + 1) = ((j + 1 : Nat) : Int) := by rw [IntWalk.wrap64_in _ (by omega)]; rfl
    rw [dowelref09_Check.l1, if_pos (by omega), if_pos (by omega), if_pos (by omega), if_pos (by omega), if_pos (by omega), rd_cr, rd_cr, hw, check_l1 rs st i hi hl F R H d k (j + 1) (by omega) (by omega) (by omega)]
    by_cases he : (cr rs j).f0 = (cr rs i).f0
    · rw [if_pos (str_eq.2 he), if_neg (fun q => q j (by omega) (Nat.le_refl _) he)]
    · rw [if_neg (fun q => he (str_eq.1 q))]
      congr 1
      by_cases hc : ∀ q, q < i → j ≤ q → (cr rs q).f0 ≠ (cr rs i).f0
      · rw [if_pos hc, if_pos (fun q h1 h2 => hc q h1 (by omega))]
      · rw [if_neg hc, if_neg (fun q => hc fun z h1 h2 => by
          rcases Nat.eq_or_lt_of_le h2 with rfl | h3
          · exact he
          · exact q z h1 h3)]
set_option maxRecDepth 100000 in
theorem check_l0 (rs : List S45) (st : Int) (hl : rs.length ≤ 256) (hb : ∀ i, i < rs.length → (cr rs i).f1.length ≤ 16384) (C : Nat) (hC : 17000 ≤ C) : ∀ (d k i : Nat), rs.length - i = d → d * 300 + C < k → i ≤ rs.length →
    dowelref09_Check.l0 k i rs st = some (if ∀ q, q < rs.length → i ≤ q → okAt rs q = true then 0 else 6)
  | 0, k, i, hd, hk, hi => by
    obtain ⟨k, rfl⟩ : ∃ m, k = m + 1 := ⟨k - 1, by omega⟩
    rw [dowelref09_Check.l0, if_neg (by omega), if_pos (fun q _ _ => by omega)]
  | d + 1, k, i, hd, hk, hi => by
    obtain ⟨k, rfl⟩ : ∃ m, k = m + 2 := ⟨k - 2, by omega⟩
    have hw : wrap64 ((i : Int) + 1) = ((i + 1 : Nat) : Int) := by rw [IntWalk.wrap64_in _ (by omega)]; rfl
    have hbi := hb i (by omega)
    have hno : okAt rs i = false → (if ∀ q, q < rs.length → i ≤ q → okAt rs q = true then (0 : Int) else 6) = 6 := fun h => if_neg fun q => by
      have := q i (by omega) (Nat.le_refl _)
      rw [h] at this
      cases this
    rw [dowelref09_Check.l0, if_pos (by omega), if_pos (by omega), rd_cr, name_f _ _ (by omega), Option.bind_some, body_f _ _ (by omega) _ (by omega), Option.bind_some]
    by_cases hn : nameOK (cr rs i).f0 = true
    · rw [if_pos hn, dowelref09_Check.j2]
      by_cases hg : goB rs.length (cr rs i).f1 0 = true
      · rw [if_neg (by simp [hg])]
        have H : ∀ m, d * 300 + C < m → dowelref09_Check.l0 m (wrap64 ((i : Int) + 1)) rs st = some (if ∀ q, q < rs.length → i + 1 ≤ q → okAt rs q = true then 0 else 6) := by
          intro m hm
          rw [hw]
          exact check_l0 rs st hl hb C hC d m (i + 1) (by omega) hm (by omega)
        have := check_l1 rs st i (by omega) (by omega) _ _ H i k 0 (by omega) (by omega) (by omega)
        rw [show ((0 : Nat) : Int) = 0 from rfl] at this
        rw [this]
        congr 1
        by_cases hd2 : ∀ q, q < i → 0 ≤ q → (cr rs q).f0 ≠ (cr rs i).f0
        · rw [if_pos hd2]
          have hok : okAt rs i = true := by
            rw [okAt, hn, hg, Bool.and_true, Bool.true_and]
            exact decide_eq_true fun q hq => hd2 q hq (Nat.zero_le _)
          by_cases hc : ∀ q, q < rs.length → i ≤ q → okAt rs q = true
          · rw [if_pos hc, if_pos (fun q h1 h2 => hc q h1 (by omega))]
          · rw [if_neg hc, if_neg (fun q => hc fun z h1 h2 => by
              rcases Nat.eq_or_lt_of_le h2 with rfl | h3
              · exact hok
              · exact q z h1 h3)]
        · rw [if_neg hd2, hno]
          rw [okAt, Bool.and_eq_false_iff]
          exact .inr (decide_eq_false fun q => hd2 fun z h1 _ => q z h1)
      · rw [if_pos (by simp [hg]), hno]
        rw [okAt, Bool.and_eq_false_iff, Bool.and_eq_false_iff]
        exact .inl (.inr (by simpa using hg))
    · rw [if_neg hn, dowelref09_Check.j2, if_pos rfl, hno]
      rw [okAt, Bool.and_eq_false_iff, Bool.and_eq_false_iff]
      exact .inl (.inl (by simpa using hn))
theorem chk_iff (rs : List S45) (st : Int) : chk rs st = true ↔ (1 ≤ rs.length ∧ rs.length ≤ 256 ∧ 0 ≤ st ∧ st < rs.length ∧ sz rs ≤ 16384) ∧ ∀ q, q < rs.length → okAt rs q = true := by
  rw [chk, Bool.and_eq_true, decide_eq_true_iff, List.all_eq_true]
  simp only [List.mem_range]
theorem cr_mem {rs : List S45} {i : Nat} (h : i < rs.length) : cr rs i ∈ rs := by
  rw [cr, List.getD_eq_getElem?_getD, List.getElem?_eq_getElem h]
  exact List.getElem_mem h
theorem check_f (rs : List S45) (st : Int) (hb : ∀ x ∈ rs, x.f1.length ≤ 140737488355328) (k : Nat) (hk : 100000 < k) : dowelref09_Check.f k rs st = some (if chk rs st = true then 0 else 6) := by
  obtain ⟨k, rfl⟩ : ∃ m, k = m + 1 := ⟨k - 1, by omega⟩
  have hno : ¬ (1 ≤ rs.length ∧ rs.length ≤ 256 ∧ 0 ≤ st ∧ st < rs.length ∧ sz rs ≤ 16384) → (if chk rs st = true then (0 : Int) else 6) = 6 := fun h => if_neg fun q => h ((chk_iff rs st).1 q).1
  have j0 : dowelref09_Check.j0 (k + 1) true rs st = some 6 := by rw [dowelref09_Check.j0, if_pos rfl]
  unfold dowelref09_Check.f
  by_cases h1 : (rs.length : Int) < 1
  · rw [if_pos h1, j0, hno (by omega)]
  · rw [if_neg h1]
    by_cases h2 : (rs.length : Int) > 256
    · rw [if_pos h2, j0, hno (by omega)]
    · rw [if_neg h2]
      by_cases h3 : st < 0
      · rw [if_pos h3, j0, hno (by omega)]
      · rw [if_neg h3]
        by_cases h4 : st ≥ rs.length
        · rw [if_pos h4, j0, hno (by omega)]
        · have := sz_le hb
          have : rs.length * 140737488355328 ≤ 4096 * 140737488355328 := Nat.mul_le_mul_right _ (by omega)
          rw [if_neg h4, size_f rs st (by omega) (by omega) _ (by omega), Option.bind_some, dowelref09_Check.j0]
          by_cases h5 : (sz rs : Int) > 16384
          · rw [if_pos (decide_eq_true h5), hno (by omega)]
          · rw [if_neg (by simpa using h5)]
            have hbi : ∀ i, i < rs.length → (cr rs i).f1.length ≤ 16384 := fun i hi => by
              have := sz_mem (cr_mem hi)
              omega
            have := check_l0 rs st (by omega) hbi 17000 (Nat.le_refl _) rs.length k 0 rfl (by omega) (Nat.zero_le _)
            rw [show ((0 : Nat) : Int) = 0 from rfl] at this
            rw [this]
            congr 1
            by_cases hc : chk rs st = true
            · rw [if_pos hc, if_pos (fun q hq _ => ((chk_iff rs st).1 hc).2 q hq)]
            · rw [if_neg hc, if_neg (fun q => hc ((chk_iff rs st).2 ⟨by omega, fun z hz => q z hz (Nat.zero_le _)⟩))]
/- What is right is good for the evaluation. -/
theorem arz_ar (op : Int) : arz op = ar op := rfl
theorem goB_run {N : Nat} {xs : List S55} (h : goB N xs 0 = true) : ∀ i, i ≤ xs.length → fits (xs.map cnOf) i ∧ (∀ j, j < i → nodeOK N (cd xs j) = true) ∧ goB N (xs.drop i) (istk (xs.map cnOf) i).length = true
  | 0, _ => ⟨fun j hj => by omega, fun j hj => by omega, by simpa [istk] using h⟩
  | i + 1, hi => by
    obtain ⟨h1, h2, h3⟩ := goB_run h i (by omega)
    rw [drop_cd (show i < xs.length by omega), goB, Bool.and_eq_true, Bool.and_eq_true, decide_eq_true_iff, arz_ar] at h3
    have hcn : cn (xs.map cnOf) i = cnOf (cd xs i) := cn_cd xs i (by omega)
    have hop : (cn (xs.map cnOf) i).op = (cd xs i).f0 := by rw [hcn]; rfl
    refine ⟨fun j hj => ?_, fun j hj => ?_, ?_⟩
    · rcases Nat.lt_succ_iff_lt_or_eq.1 hj with hj | rfl
      · exact h1 j hj
      · rw [hop]; exact h3.1.2
    · rcases Nat.lt_succ_iff_lt_or_eq.1 hj with hj | rfl
      · exact h2 j hj
      · exact h3.1.1
    · rw [istk, List.length_cons, List.length_drop, hop]
      have : (istk (xs.map cnOf) i).length - ar (cd xs i).f0 + 1 = (istk (xs.map cnOf) i).length + 1 - ar (cd xs i).f0 := by have := h3.1.2; omega
      rw [this]
      exact h3.2
theorem nodeOK_op {N : Nat} {x : S55} (h : nodeOK N x = true) : 0 ≤ x.f0 ∧ x.f0 ≤ 8 ∧ (x.f0 = 2 → 0 ≤ x.f2 ∧ x.f2 < N) ∧ 0 ≤ x.f2 := by
  rw [nodeOK, Bool.and_eq_true, decide_eq_true_iff] at h
  obtain ⟨⟨h1, h2, _, h4, h5⟩, _⟩ := h
  refine ⟨h1, h2, h4, ?_⟩
  by_cases e : x.f0 = 2
  · exact (h4 e).1
  · rw [h5 e]; exact Int.le_refl 0
theorem low_hd {N : Nat} {l : List T} (h : ∀ t ∈ l, low N t) : low N (hd l) := by
  cases l with
  | nil => trivial
  | cons a r => exact h a List.mem_cons_self
theorem low_mk {N : Nat} {x : S55} {a b : T} (h : nodeOK N x = true) (ha : low N a) (hb : low N b) : low N (mk (cnOf x) a b) := by
  obtain ⟨h1, h2, h3, _⟩ := nodeOK_op h
  unfold mk cnOf
  simp only
  repeat' split
  · trivial
  · trivial
  · have := h3 (by assumption)
    show x.f2.toNat < N
    omega
  · trivial
  · exact ⟨ha, hb⟩
  · exact ⟨ha, hb⟩
  · exact ha
  · exact ha
  · exact ha
theorem low_tstk {N : Nat} {xs : List S55} (h : ∀ j, j < xs.length → nodeOK N (cd xs j) = true) : ∀ i, i ≤ xs.length → ∀ t ∈ tstk (xs.map cnOf) i, low N t
  | 0, _, t, ht => by simp [tstk] at ht
  | i + 1, hi, t, ht => by
    have ih := low_tstk h i (by omega)
    have hcn : cn (xs.map cnOf) i = cnOf (cd xs i) := cn_cd xs i (by omega)
    have hd' : ∀ n t, t ∈ (tstk (xs.map cnOf) i).drop n → low N t := fun n t ht => ih t (List.mem_of_mem_drop ht)
    rw [tstk, push, hcn] at ht
    have hm := fun a b => low_mk (a := a) (b := b) (h i (by omega))
    split at ht
    · rcases List.mem_cons.1 ht with rfl | ht
      · exact hm _ _ (low_hd (hd' 1)) (low_hd ih)
      · exact hd' 2 t ht
    · split at ht
      · rcases List.mem_cons.1 ht with rfl | ht
        · exact hm _ _ (low_hd ih) trivial
        · exact hd' 1 t ht
      · rcases List.mem_cons.1 ht with rfl | ht
        · exact hm _ _ trivial trivial
        · exact ih t ht
theorem good_of {rs : List S45} {st : Int} (h : chk rs st = true) : Good rs := by
  obtain ⟨⟨h1, h2, h3, h4, h5⟩, h6⟩ := (chk_iff rs st).1 h
  have hg : ∀ i, i < rs.length → goB rs.length (cr rs i).f1 0 = true := fun i hi => by
    have := h6 i hi
    rw [okAt, Bool.and_eq_true, Bool.and_eq_true] at this
    exact this.1.2
  have hlen : ∀ i, i < rs.length → (cr rs i).f1.length ≤ 16384 := fun i hi => by
    have := sz_mem (cr_mem hi)
    omega
  have hone : ∀ i, i < rs.length → (istk (bod rs i) (cr rs i).f1.length).length = 1 := fun i hi => by
    have := (goB_run (hg i hi) (cr rs i).f1.length (Nat.le_refl _)).2.2
    rw [List.drop_of_length_le (Nat.le_refl _), goB, decide_eq_true_iff] at this
    exact this
  refine ⟨⟨by omega, by omega⟩, fun i hi => by have := hlen i hi; omega, fun i hi => (goB_run (hg i hi) _ (Nat.le_refl _)).1, hone, fun i hi j hj => ?_, fun i hi => ?_⟩
  · have := nodeOK_op ((goB_run (hg i hi) _ (Nat.le_refl _)).2.1 j hj)
    exact ⟨this.1, this.2.1, this.2.2.2⟩
  · rw [tre, tr]
    have hpos : 0 < (cr rs i).f1.length := by
      rcases Nat.eq_zero_or_pos (cr rs i).f1.length with h0 | h0
      · have := hone i hi
        rw [h0] at this
        simp [istk] at this
      · exact h0
    rw [show (cr rs i).f1.length - 1 + 1 = (cr rs i).f1.length by omega]
    exact low_hd (low_tstk (goB_run (hg i hi) _ (Nat.le_refl _)).2.1 _ (Nat.le_refl _))
end Go.Proofs.Ytmpkkphohilkoaa.B
/- core.Check, walked. -/
namespace Go.Proofs.Ytmpkkphohilkoaa.B
open Go Go.RowKit Go.X Go.Ma Go.Proofs.YtmpkkphohilkoaaW.PrintWords Go.Proofs.YtmpkkphohilkoaaW.PrintLast Go.Proofs.YtmpkkphohilkoaaW.PrintMore Go.Proofs.Ytmpkkphohilkoaa.F Go.Proofs.Ytmpkkphohilkoaa.Nm Go.Maps
set_option linter.unusedSimpArgs false

/-- The names that were met, each with its rule's number. -/
def nmD (rs : List S45) : Nat → DataW Unit
  | 0 => .map []
  | i + 1 => (nmD rs i).put (.string (cr rs i).f0.data.toList) (.lit (.int .i64 (i : Int)))
def chkI (rs : List S45) (start : Int) : Int := if chk rs start = true then 0 else 6
theorem chkI_no {rs : List S45} {start : Int} (h : ¬ ((1 ≤ rs.length ∧ rs.length ≤ 256 ∧ 0 ≤ start ∧ start < rs.length ∧ sz rs ≤ 16384) ∧ ∀ q, q < rs.length → okAt rs q = true)) : chkI rs start = 6 := if_neg fun q => h ((chk_iff rs start).1 q)
def ChkPost (rs : List S45) (start : Int) (w : World) (e : Ending) (w' : World) : Prop := e = .returned (.int .i64 (chkI rs start)) ∧ Below w.heap.size w w'
theorem law9 : Keyed Try.prog 9 := string_keyed Try.underlying9
theorem zero3 (w : World) : (zeroValue 3).run Try.prog w = .ok (.int .i64 0) w := by kernel_rfl
theorem nmD_map (rs : List S45) : ∀ i, IsMap (nmD rs i)
  | 0 => isMap_empty
  | i + 1 => (nmD_map rs i).put _ _
theorem nmD_has (rs : List S45) (s : ByteArray) (hs : ∀ q, (cr rs q).f0.size ≤ maxLen) : ∀ i, has (nmD rs i) (.string s.data.toList) = decide (∃ q, q < i ∧ (cr rs q).f0 = s)
  | 0 => by
    symm
    rw [nmD, has_eq, decide_eq_false_iff_not.2 (fun ⟨q, hq, _⟩ => by omega)]
    rfl
  | i + 1 => by
    have ih := nmD_has rs s hs i
    rw [nmD]
    by_cases h : (cr rs i).f0 = s
    · rw [← h, has_put_same (nmD_map rs i) (law9.key (WideMaps.keyOf_string_mk (P := Try.prog) Try.underlying9 (hs _)))]
      exact (decide_eq_true ⟨i, Nat.lt_succ_self i, rfl⟩).symm
    · rw [has_put_other (fun e => h (by injection e with e; exact (Go.WideShapes.bytes_inj e).symm)), ih]
      by_cases h2 : ∃ q, q < i ∧ (cr rs q).f0 = s
      · rw [decide_eq_true h2]
        obtain ⟨q, hq, he⟩ := h2
        exact (decide_eq_true ⟨q, by omega, he⟩).symm
      · rw [decide_eq_false h2]
        refine (decide_eq_false fun ⟨q, hq, he⟩ => ?_).symm
        rcases Nat.lt_succ_iff_lt_or_eq.1 hq with hq | rfl
        · exact h2 ⟨q, hq, he⟩
        · exact h he
/-- Within the loop. -/
structure CL (Ar : Option Addr) (c : Nat) (start : Int) (rs : List S45) (mb : Nat) (w wr : World) (i : Nat) : Prop where
  bel : Below w.heap.size w wr
  box : Blk wr w.heap.size 24 [.slice Ar rs.length c, .int .i64 start]
  own : wr.ownsMap Try.prog 9 (plainElem Try.prog 3) mb i (nmD rs i)
  lo : w.heap.size < mb
  ok : ∀ q, q < i → okAt rs q = true
theorem CL.grown {Ar : Option Addr} {c : Nat} {start : Int} {rs : List S45} {mb : Nat} {w wr w' : World} {i : Nat} (h : CL Ar c start rs mb w wr i) (hg : wr.grownBy w' none) : CL Ar c start rs mb w w' i :=
  ⟨h.bel.grown hg h.bel.size (by simp), h.box.grown hg (by simp), h.own.kept hg (by simp), h.lo, h.ok⟩
theorem CL.next {Ar : Option Addr} {c : Nat} {start : Int} {rs : List S45} {mb : Nat} {w wr w' : World} {i : Nat} (h : CL Ar c start rs mb w wr i) (hg : wr.grownBy w' (some mb)) (ho : w'.ownsMap Try.prog 9 (plainElem Try.prog 3) mb (i + 1) (nmD rs (i + 1))) (hk : okAt rs i = true) : CL Ar c start rs mb w w' (i + 1) :=
  ⟨h.bel.grown hg h.bel.size (fun k hk => by injection hk with hk; have := h.lo; omega), h.box.grown hg (by have := h.lo; intro e; injection e with e; omega), ho, h.lo, fun q hq => by
    rcases Nat.lt_succ_iff_lt_or_eq.1 hq with hq | rfl
    · exact h.ok q hq
    · exact hk⟩
set_option maxRecDepth 100000 in
set_option maxHeartbeats 4000000 in
theorem coreCheck_no (Ar : Option Addr) (c : Nat) (start : Int) (rs : List S45) (w : World) (hno : ¬ (1 ≤ rs.length ∧ rs.length ≤ 256 ∧ 0 ≤ start ∧ start < rs.length)) :
    Calls Try.prog 16 #[.agg #[.slice Ar rs.length c, .int .i64 start]] w (ChkPost rs start w) := by
  have HA : Hid (Below w.heap.size w (w.alloc (.cells #[.slice Ar rs.length c, .int .i64 start] 24)) ∧ Blk (w.alloc (.cells #[.slice Ar rs.length c, .int .i64 start] 24)) w.heap.size 24 [.slice Ar rs.length c, .int .i64 start]) :=
    ⟨(Below.refl _ w).alloc (Nat.le_refl _) _, Blk.alloc w _ _⟩
  by_cases h1 : rs.length < 1
  · have h1' : (rs.length : Int) < 1 := by omega
    have HV : Hid (chkI rs start = 6) := chkI_no (by omega)
    go_enter Try.func16, Try.ntmps16
    go_wp2
    go_ret
    exact ⟨congrArg (fun z => Ending.returned (Value.int .i64 z)) HV.out.symm, HA.out.1⟩
  have h1' : ¬ (rs.length : Int) < 1 := by omega
  by_cases h2 : 256 < rs.length
  · have h2' : (256 : Int) < (rs.length : Int) := by omega
    have HV : Hid (chkI rs start = 6) := chkI_no (by omega)
    go_enter Try.func16, Try.ntmps16
    go_wp2
    go_ret
    exact ⟨congrArg (fun z => Ending.returned (Value.int .i64 z)) HV.out.symm, HA.out.1⟩
  have h2' : ¬ (256 : Int) < (rs.length : Int) := by omega
  by_cases h3 : start < 0
  · have HV : Hid (chkI rs start = 6) := chkI_no (by omega)
    go_enter Try.func16, Try.ntmps16
    go_wp2
    go_ret
    exact ⟨congrArg (fun z => Ending.returned (Value.int .i64 z)) HV.out.symm, HA.out.1⟩
  by_cases h4 : (rs.length : Int) ≤ start
  · have HV : Hid (chkI rs start = 6) := chkI_no (by omega)
    go_enter Try.func16, Try.ntmps16
    go_wp2
    go_ret
    exact ⟨congrArg (fun z => Ending.returned (Value.int .i64 z)) HV.out.symm, HA.out.1⟩
  exact absurd ⟨by omega, by omega, by omega, by omega⟩ hno
set_option maxRecDepth 100000 in
set_option maxHeartbeats 4000000 in
theorem coreCheck_yes (Ar : Option Addr) (c : Nat) (start : Int) (rs : List S45) (w : World) (hr : Kd.C k45 w Ar rs.length rs) (hc : rs.length ≤ c) (hb : ∀ x ∈ rs, x.f1.length ≤ 140737488355328 ∧ x.f0.size ≤ 140737488355328) (hy : 1 ≤ rs.length ∧ rs.length ≤ 256 ∧ 0 ≤ start ∧ start < rs.length) :
    Calls Try.prog 16 #[.agg #[.slice Ar rs.length c, .int .i64 start]] w (ChkPost rs start w) := by
  have HR := Lib.hid hr; clear hr
  have HC := Lib.hid hc; clear hc
  have HB := Lib.hid hb; clear hb
  have HA : Hid (Below w.heap.size w (w.alloc (.cells #[.slice Ar rs.length c, .int .i64 start] 24)) ∧ Blk (w.alloc (.cells #[.slice Ar rs.length c, .int .i64 start] 24)) w.heap.size 24 [.slice Ar rs.length c, .int .i64 start]) :=
    ⟨(Below.refl _ w).alloc (Nat.le_refl _) _, Blk.alloc w _ _⟩
  have HN := Lib.hid hy
  have h1' : ¬ (rs.length : Int) < 1 := by omega
  have h2' : ¬ (256 : Int) < (rs.length : Int) := by omega
  have h3 : ¬ start < 0 := by omega
  have h4 : ¬ (rs.length : Int) ≤ start := by omega
  clear hy
  have hmm := @run_makeMap Try.prog
  go_enter Try.func16, Try.ntmps16
  go_wp2_with (fail)
  generalize w.alloc (.cells #[.slice Ar rs.length c, .int .i64 start] 24) = wa at *
  refine (core_Size.calls 300 Ar c rs start (sz rs) wa (Kd.C_below HR.out HA.out.1) HC.out (csize_f rs start (by
    have := sz_le (fun x hx => (HB.out x hx).1)
    have : rs.length * 140737488355328 ≤ 256 * 140737488355328 := Nat.mul_le_mul_right _ HN.out.2.1
    omega) (by have := HN.out; omega) _ (by have := HN.out; omega))).mono ?_
  rintro e w1 ⟨rfl, hbw⟩
  have HA1 : Hid (Below w.heap.size w w1 ∧ Blk w1 w.heap.size 24 [.slice Ar rs.length c, .int .i64 start]) :=
    ⟨HA.out.1.trans (hbw.mono HA.out.1.size), HA.out.2.below hbw HA.out.2.lt⟩
  clear hbw HA
  dsimp only
  by_cases h5 : (16384 : Int) < (sz rs : Int)
  · have HV : Hid (chkI rs start = 6) := chkI_no (by omega)
    go_wp2
    go_ret
    exact ⟨congrArg (fun z => Ending.returned (Value.int .i64 z)) HV.out.symm, HA1.out.1⟩
  have HS : Hid (sz rs ≤ 16384) := by show _ ≤ _; omega
  clear h1' h2' h3 h4
  have HL : ∀ wm : World, wm = w1.alloc (.map #[] 0) → Hid (CL Ar c start rs w1.heap.size w wm 0) := by
    rintro wm rfl
    exact ⟨HA1.out.1.alloc HA1.out.1.size _, by
      have := HA1.out.2.grown (World.grownBy_alloc w1 (.map #[] 0) none) (by simp)
      exact this, World.ownsMap_made _ _ _ _, HA1.out.2.lt, fun q hq => by omega⟩
  have a0 : (w1.alloc (.map #[] 0)).cell? ⟨w.heap.size, 0, none⟩ = some (.slice Ar rs.length c) := (HL _ rfl).out.box.cell 0
  go_wp2_with (fail)
  clear a0
  generalize hwm : w1.alloc (.map #[] 0) = wm
  have HL0 := HL wm hwm.symm
  clear HL hwm HA1
  generalize w1.heap.size = mb at *
  clear hmm
  go_loopg [40] rs.length (fun q v40 wr => ∃ i : Nat, Hid (i ≤ rs.length ∧ q = rs.length - i) ∧ v40 = .int .i64 (i : Nat) ∧ Hid (CL Ar c start rs mb w wr i))
  case atStart => exact ⟨0, ⟨Nat.zero_le _, rfl⟩, rfl, HL0.out⟩
  case round =>
    clear HL0
    obtain ⟨i, HI, rfl, HR1⟩ := hrel
    by_cases hlt : i < rs.length
    · obtain ⟨ad, A1, c1, eA, e0, e1, hl1, hc1⟩ := cr_at (Kd.C_below HR.out HR1.out.bel) i hlt
      subst eA
      have hi0 : (0 : Int) ≤ (i : Int) := Int.natCast_nonneg _
      have hi1 : (i : Int) < (rs.length : Int) := Int.ofNat_lt.2 hlt
      have HX := HB.out _ (cr_mem hlt)
      have HXX := Lib.hid HX
      clear HX
      have hkey := WideMaps.keyOf_string_mk (P := Try.prog) Try.underlying9 (s := (cr rs i).f0) (by have := HXX.out; simp only [maxLen]; omega)
      have HNM := Lib.hid (nmD_has rs (cr rs i).f0 (fun q => by
        by_cases hq : q < rs.length
        · have := (HB.out _ (cr_mem hq)).2; simp only [maxLen]; omega
        · rw [cr, List.getD_eq_getElem?_getD, List.getElem?_eq_none (by omega)]; exact Nat.zero_le _) i)
      have HK : ∀ wk : World, wk = wr.alloc (.cells #[.string (cr rs i).f0, .slice A1 (cr rs i).f1.length c1] 45) → Hid (CL (some ad) c start rs mb w wk i ∧ Blk wk wr.heap.size 45 [.string (cr rs i).f0, .slice A1 (cr rs i).f1.length c1] ∧ Kd.C k55 wk A1 (cr rs i).f1.length (cr rs i).f1) := by
        rintro wk rfl
        exact ⟨HR1.out.grown (World.grownBy_alloc wr _ none), Blk.alloc wr _ _, Kd.C_below hc1 ((Below.refl _ _).alloc (Nat.le_refl _) _)⟩
      by_cases ht : has (nmD rs i) (.string (cr rs i).f0.data.toList) = true
      · have HV : Hid (chkI rs start = 6) := chkI_no (fun q => by
          have h1 := q.2 i hlt
          rw [okAt, Bool.and_eq_true, decide_eq_true_iff] at h1
          rw [HNM.out, decide_eq_true_iff] at ht
          obtain ⟨z, hz, he⟩ := ht
          exact h1.2 z hz he)
        go_wp2_with (first
          | (at_lookup; refine wpList_lookup_own_ok_int _ rfl _ _ 64 rfl 9 3 .i64 law9 Try.underlying64 Try.underlying3 (zero3 _) mb i (nmD rs i) rfl (HR1.out.own.alloc _) _ _ rfl hkey ?_; intro cL hat hwc; rw [ht]; clear hat hwc)
          | fail)
        go_ret
        exact ⟨congrArg (fun z => Ending.returned (Value.int .i64 z)) HV.out.symm, (HK _ rfl).out.1.bel⟩
      · have ht' : has (nmD rs i) (.string (cr rs i).f0.data.toList) = false := by simpa using ht
        clear ht
        go_wp2_with (first
          | (at_lookup; refine wpList_lookup_own_ok_int _ rfl _ _ 64 rfl 9 3 .i64 law9 Try.underlying64 Try.underlying3 (zero3 _) mb i (nmD rs i) rfl (HR1.out.own.alloc _) _ _ rfl hkey ?_; intro cL hat hwc; rw [ht']; clear hat hwc)
          | fail)
        generalize hwk : wr.alloc (.cells #[.string (cr rs i).f0, .slice A1 (cr rs i).f1.length c1] 45) = wk
        have HK1 := HK wk hwk.symm
        clear HK hwk
        generalize wr.heap.size = bx at *
        refine (name.calls (cr rs i).f0 wk).mono ?_
        rintro e w2 ⟨rfl, rfl⟩
        dsimp only
        by_cases hn : nameOK (cr rs i).f0 = true
        · have b1 : w2.cell? ⟨bx, 1, none⟩ = some (.slice A1 (cr rs i).f1.length c1) := HK1.out.2.1.cell 1
          have a0 : w2.cell? ⟨w.heap.size, 0, none⟩ = some (.slice (some ad) rs.length c) := HK1.out.1.box.cell 0
          go_wp2_with (fail)
          clear a0 b1
          refine (core_right.calls (5 * (cr rs i).f1.length + 100) A1 c1 (cr rs i).f1 rs.length _ w2 HK1.out.2.2 hl1 (right_f rs.length _ (by have := HS.out; have := sz_mem (cr_mem hlt); omega) _ (by omega))).mono ?_
          rintro e w3 ⟨rfl, hbw⟩
          have HK3 : Hid (CL (some ad) c start rs mb w w3 i ∧ Blk w3 bx 45 [.string (cr rs i).f0, .slice A1 (cr rs i).f1.length c1]) :=
            ⟨HK1.out.1.grown (X.grown_of_below hbw none), HK1.out.2.1.below hbw HK1.out.2.1.lt⟩
          clear hbw HK1
          dsimp only
          by_cases hg : goB rs.length (cr rs i).f1 0 = true
          · have b0 : w3.cell? ⟨bx, 0, none⟩ = some (.string (cr rs i).f0) := HK3.out.2.cell 0
            have HOK : Hid (okAt rs i = true) := by
              show _ = _
              rw [okAt, hn, hg, Bool.and_true, Bool.true_and, decide_eq_true_iff]
              intro z hz he
              have := HNM.out
              rw [ht'] at this
              exact of_decide_eq_false this.symm ⟨z, hz, he⟩
            have HWF : Hid ((Lit.int .i64 (i : Int)).wf = true) := WalkArith.wf_i64 (by have := HN.out; omega)
            rw [hg]
            go_wp2_with (first
              | (at_mapUpdate; refine wpList_mapUpdate_own _ rfl _ _ _ 64 rfl 9 3 law9 Try.underlying64 _ mb i _ rfl HK3.out.1.own (by have := HN.out; simp only [maxLen]; omega) _ _ _ rfl rfl hkey _ [] (plainElem_int Try.underlying3 HWF.out) ?_; intro w4 hown4 hgrow4)
              | fail)
            have HK4 : Hid (CL (some ad) c start rs mb w w4 (i + 1)) := HK3.out.1.next hgrow4 hown4 HOK.out
            clear hown4 hgrow4 HK3 b0 HR1
            have hwi : wrap64 ((i : Int) + 1) = ((i + 1 : Nat) : Int) := by have := HN.out; rw [IntWalk.wrap64_in _ (by omega)]; rfl
            go_wp2
            go_roundg (rs.length - (i + 1))
            case measure => have := HI.out.2; omega
            case rel => exact ⟨i + 1, ⟨hlt, rfl⟩, by go_num, HK4.out⟩
          · have hg' : goB rs.length (cr rs i).f1 0 = false := by simpa using hg
            have HV : Hid (chkI rs start = 6) := chkI_no (fun q => by
              have h1 := q.2 i hlt
              rw [okAt, hg', Bool.and_false, Bool.false_and] at h1
              cases h1)
            rw [hg']
            go_wp2
            go_ret
            exact ⟨congrArg (fun z => Ending.returned (Value.int .i64 z)) HV.out.symm, HK3.out.1.bel⟩
        · have hn' : nameOK (cr rs i).f0 = false := by simpa using hn
          have HV : Hid (chkI rs start = 6) := chkI_no (fun q => by
            have h1 := q.2 i hlt
            rw [okAt, hn', Bool.false_and, Bool.false_and] at h1
            cases h1)
          rw [hn']
          go_wp2
          go_ret
          exact ⟨congrArg (fun z => Ending.returned (Value.int .i64 z)) HV.out.symm, HK1.out.1.bel⟩
    · have HV : Hid (chkI rs start = 0) := by
        have h1 := HI.out
        obtain rfl : i = rs.length := by omega
        exact if_pos ((chk_iff rs start).2 ⟨⟨HN.out.1, HN.out.2.1, HN.out.2.2.1, HN.out.2.2.2, HS.out⟩, HR1.out.ok⟩)
      go_wp2
      go_ret
      exact ⟨congrArg (fun z => Ending.returned (Value.int .i64 z)) HV.out.symm, HR1.out.bel⟩
theorem coreCheck.calls (Ar : Option Addr) (c : Nat) (start : Int) (rs : List S45) (w : World) (hr : Kd.C k45 w Ar rs.length rs) (hc : rs.length ≤ c) (hb : ∀ x ∈ rs, x.f1.length ≤ 140737488355328 ∧ x.f0.size ≤ 140737488355328) :
    Calls Try.prog 16 #[.agg #[.slice Ar rs.length c, .int .i64 start]] w (ChkPost rs start w) := by
  by_cases h : 1 ≤ rs.length ∧ rs.length ≤ 256 ∧ 0 ≤ start ∧ start < rs.length
  · exact coreCheck_yes Ar c start rs w hr hc hb h
  · exact coreCheck_no Ar c start rs w h
end Go.Proofs.Ytmpkkphohilkoaa.B
/- match.Run and match.At, walked (printed by wip/tools/genrun.py). -/
namespace Go.Proofs.Ytmpkkphohilkoaa.B
open Go Go.RowKit Go.X Go.Ma Go.Proofs.YtmpkkphohilkoaaW.PrintWords Go.Proofs.Ytmpkkphohilkoaa.F

/-- What At answers. -/
def atAns (rs : List S45) (start rule : Int) (inp : ByteArray) (at_ D S : Int) : Res × St :=
  if chk rs start = true then
    if 0 ≤ rule ∧ rule < rs.length then
      if inp.size ≤ 65536 then
        if 0 ≤ at_ ∧ at_ ≤ inp.size then runOf rs inp rule.toNat at_.toNat D S else (.zero, ⟨0, 0, 5⟩)
      else (.zero, ⟨0, 0, 1⟩)
    else (.zero, ⟨0, 0, 5⟩)
  else (.zero, ⟨0, 0, 6⟩)
theorem atAns_shape {rs : List S45} {start rule : Int} {inp : ByteArray} {at_ D S : Int} (h : chk rs start = false) : atAns rs start rule inp at_ D S = (.zero, ⟨0, 0, 6⟩) := by
  rw [atAns, if_neg (by rw [h]; decide)]
theorem atAns_rule {rs : List S45} {start rule : Int} {inp : ByteArray} {at_ D S : Int} (h : chk rs start = true) (h1 : ¬ (0 ≤ rule ∧ rule < rs.length)) : atAns rs start rule inp at_ D S = (.zero, ⟨0, 0, 5⟩) := by
  rw [atAns, if_pos h, if_neg h1]
theorem atAns_long {rs : List S45} {start rule : Int} {inp : ByteArray} {at_ D S : Int} (h : chk rs start = true) (h1 : 0 ≤ rule ∧ rule < rs.length) (h2 : ¬ inp.size ≤ 65536) : atAns rs start rule inp at_ D S = (.zero, ⟨0, 0, 1⟩) := by
  rw [atAns, if_pos h, if_pos h1, if_neg h2]
theorem atAns_at {rs : List S45} {start rule : Int} {inp : ByteArray} {at_ D S : Int} (h : chk rs start = true) (h1 : 0 ≤ rule ∧ rule < rs.length) (h2 : inp.size ≤ 65536) (h3 : ¬ (0 ≤ at_ ∧ at_ ≤ inp.size)) : atAns rs start rule inp at_ D S = (.zero, ⟨0, 0, 5⟩) := by
  rw [atAns, if_pos h, if_pos h1, if_pos h2, if_neg h3]
theorem atAns_run {rs : List S45} {start : Int} {inp : ByteArray} {D S : Int} {r p : Nat} (h : chk rs start = true) (h1 : r < rs.length) (h2 : inp.size ≤ 65536) (h3 : p ≤ inp.size) : atAns rs start (r : Nat) inp (p : Nat) D S = runOf rs inp r p D S := by
  rw [atAns, if_pos h, if_pos (by omega), if_pos h2, if_pos (by omega)]
  rfl
theorem nochk {rs : List S45} {start : Int} (h : ¬ chk rs start = true) : chk rs start = false := by simpa using h
theorem chkI_of {rs : List S45} {start : Int} (h : chk rs start = true) : chkI rs start = 0 := if_pos h
theorem chkI_off {rs : List S45} {start : Int} (h : chk rs start = false) : chkI rs start = 6 := if_neg (by rw [h]; decide)
/-- Within a run: the boxes and the result's blocks. -/
structure E4 (w wr : World) (Ar : Option Addr) (N c : Nat) (start D S : Int) : Prop where
  bel : Below w.heap.size w wr
  b0 : Blk wr w.heap.size 24 [.slice Ar N c, .int .i64 start]
  b1 : Blk wr (w.heap.size + 1) 26 [.int .i64 D, .int .i64 S]
  b2 : Blk wr (w.heap.size + 1 + 1) 31 (rsC 0 0 ⟨#[]⟩ (.slice none 0 0))
  b3 : Blk wr (w.heap.size + 1 + 1 + 1) 32 [.int .i64 0, .int .i64 0]
def start4 (w : World) (Ar : Option Addr) (N c : Nat) (start D S : Int) : World := (((w.alloc (.cells #[.slice Ar N c, .int .i64 start] 24)).alloc (.cells #[.int .i64 D, .int .i64 S] 26)).alloc (.cells #[.int .i64 0, .int .i64 0, .string ⟨#[]⟩, .slice none 0 0] 31)).alloc (.cells #[.int .i64 0, .int .i64 0] 32)
theorem E4.start (w : World) (Ar : Option Addr) (N c : Nat) (start D S : Int) : E4 w (start4 w Ar N c start D S) Ar N c start D S := by
  unfold start4
  generalize hw1 : w.alloc (.cells #[.slice Ar N c, .int .i64 start] 24) = w1
  have z1 : w1.heap.size = w.heap.size + 1 := by rw [← hw1]; simp
  have g1 : Below w.heap.size w w1 ∧ Blk w1 w.heap.size 24 [.slice Ar N c, .int .i64 start] := by rw [← hw1]; exact ⟨(Below.refl _ w).alloc (Nat.le_refl _) _, Blk.alloc w _ _⟩
  generalize hw2 : w1.alloc (.cells #[.int .i64 D, .int .i64 S] 26) = w2
  have z2 : w2.heap.size = w.heap.size + 1 + 1 := by rw [← hw2]; simp [z1]
  have g2 : w1.grownBy w2 none := by rw [← hw2]; exact World.grownBy_alloc _ _ none
  have k2 : Blk w2 (w.heap.size + 1) 26 [.int .i64 D, .int .i64 S] := by rw [← hw2, ← z1]; exact Blk.alloc w1 _ _
  generalize hw3 : w2.alloc (.cells #[.int .i64 0, .int .i64 0, .string ⟨#[]⟩, .slice none 0 0] 31) = w3
  have z3 : w3.heap.size = w.heap.size + 1 + 1 + 1 := by rw [← hw3]; simp [z2]
  have g3 : w2.grownBy w3 none := by rw [← hw3]; exact World.grownBy_alloc _ _ none
  have k3 : Blk w3 (w.heap.size + 1 + 1) 31 (rsC 0 0 ⟨#[]⟩ (.slice none 0 0)) := by rw [← hw3, ← z2]; exact Blk.alloc w2 _ _
  have g4 := World.grownBy_alloc w3 (.cells #[.int .i64 0, .int .i64 0] 32) none
  have k4 := Blk.alloc w3 #[.int .i64 0, .int .i64 0] 32
  rw [z3] at k4
  have g := Fr4.grown2 (Fr4.grown2 g2 g3) g4
  exact ⟨g1.1.grown g g1.1.size (fun k hk => by cases hk), g1.2.grown g (by simp), k2.grown (Fr4.grown2 g3 g4) (by simp), k3.grown g4 (by simp), k4⟩
theorem E4.below {w wr w' : World} {Ar : Option Addr} {N c : Nat} {start D S : Int} (h : E4 w wr Ar N c start D S) (hb : Below wr.heap.size wr w') : E4 w w' Ar N c start D S :=
  ⟨h.bel.trans (hb.mono h.bel.size), h.b0.below hb h.b0.lt, h.b1.below hb h.b1.lt, h.b2.below hb h.b2.lt, h.b3.below hb h.b3.lt⟩
def put42 (w : World) (b : Nat) (x0 x1 x2 x3 y0 y1 : Value) : World := set2 (set4 w b x0 x1 x2 x3) (b + 1) y0 y1
theorem E4.fin {w wr wz : World} {Ar : Option Addr} {N c : Nat} {start D S : Int} {v x0 x1 x2 x3 y0 y1 : Value} {F : List Cap} (h : E4 w wr Ar N c start D S) (ho : OwnF wr w.heap.size v F) (hwz : wz = put42 wr (w.heap.size + 1 + 1) x0 x1 x2 x3 y0 y1) :
    Below w.heap.size w wz ∧ OwnF wz w.heap.size v F ∧ Blk wz (w.heap.size + 1 + 1) 31 [x0, x1, x2, x3] ∧ Blk wz (w.heap.size + 1 + 1 + 1) 32 [y0, y1] := by
  subst hwz
  unfold put42
  have s1 := set4_grown wr (w.heap.size + 1 + 1) x0 x1 x2 x3
  have k1 := set4_blk (x0 := x0) (x1 := x1) (x2 := x2) (x3 := x3) h.b2
  have k2 := h.b3.grown s1 (by intro e; injection e with e; omega)
  have s2 : (set4 wr (w.heap.size + 1 + 1) x0 x1 x2 x3).grownBy (set2 (set4 wr (w.heap.size + 1 + 1) x0 x1 x2 x3) (w.heap.size + 1 + 1 + 1) y0 y1) (some (w.heap.size + 1 + 1 + 1)) := Fr4.grown2 (grown_setCell _ _ _) (grown_setCell _ _ _)
  have k3 : Blk (set2 (set4 wr (w.heap.size + 1 + 1) x0 x1 x2 x3) (w.heap.size + 1 + 1 + 1) y0 y1) (w.heap.size + 1 + 1 + 1) 32 [y0, y1] := (k2.setCell 0 y0).setCell 1 y1
  have k4 := k1.grown s2 (by intro e; injection e with e; omega)
  have b1 := (h.bel.grown s1 h.bel.size (fun k hk => by injection hk with hk; omega)).grown s2 (by have := s1.size; have := h.bel.size; omega) (fun k hk => by injection hk with hk; omega)
  exact ⟨b1, (ho.kept s1 h.b2 (by decide)).kept s2 k2 (by decide), k4, k3⟩
theorem runAns_zero {w wz : World} {er : Int} (he : er ≠ 0) (hb : Below w.heap.size w wz) : RunAns w (.zero, ⟨0, 0, er⟩) (.returned (tupC 0 0 ⟨#[]⟩ (.slice none 0 0) 0 0 er)) wz := by
  refine ⟨.slice none 0 0, ?_, hb, ?_⟩
  · simp only [ansRes, ansSt, if_neg he]
    rfl
  · simp only [ansRes, if_neg he]
    exact OwnF.nil _ _
theorem runAns_of {w wz : World} {x : Res × St} {v : Value} (hb : Below w.heap.size w wz) (ho : OwnF wz w.heap.size v (ansRes x).forest) : RunAns w x (.returned (tupC (ansRes x).kind (ansRes x).en (ansRes x).label v (ansSt x).depth (ansSt x).steps (ansSt x).err)) wz :=
  ⟨v, rfl, hb, ho⟩
set_option maxRecDepth 100000 in
set_option maxHeartbeats 4000000 in
theorem mrun.calls (Ar : Option Addr) (c : Nat) (start : Int) (rs : List S45) (inp : ByteArray) (D S : Int) (w : World) (hr : Kd.C k45 w Ar rs.length rs) (hc : rs.length ≤ c) (hb : ∀ x ∈ rs, x.f1.length ≤ 140737488355328 ∧ x.f0.size ≤ 140737488355328) :
    Calls Try.prog 8 #[.agg #[.slice Ar rs.length c, .int .i64 start], .string inp, .agg #[.int .i64 D, .int .i64 S]] w (RunAns w (atAns rs start start inp 0 D S)) := by
  have HR := Lib.hid hr; clear hr
  have HC := Lib.hid hc; clear hc
  have HBB := Lib.hid hb; clear hb
  have HA := Lib.hid (E4.start w Ar rs.length c start D S)
  go_enter Try.func8, Try.ntmps8
  go_wp2_with (fail)
  have hwa0 : start4 w Ar rs.length c start D S = (((w.alloc (.cells #[.slice Ar rs.length c, .int .i64 start] 24)).alloc (.cells #[.int .i64 D, .int .i64 S] 26)).alloc (.cells #[.int .i64 0, .int .i64 0, .string ⟨#[]⟩, .slice none 0 0] 31)).alloc (.cells #[.int .i64 0, .int .i64 0] 32) := rfl
  rw [hwa0] at HA
  clear hwa0
  generalize (((w.alloc (.cells #[.slice Ar rs.length c, .int .i64 start] 24)).alloc (.cells #[.int .i64 D, .int .i64 S] 26)).alloc (.cells #[.int .i64 0, .int .i64 0, .string ⟨#[]⟩, .slice none 0 0] 31)).alloc (.cells #[.int .i64 0, .int .i64 0] 32) = wa at *
  refine (coreCheck.calls Ar c start rs wa (Kd.C_below HR.out HA.out.bel) HC.out HBB.out).mono ?_
  rintro e w1 ⟨rfl, hbw⟩
  have HB : Hid (E4 w w1 Ar rs.length c start D S) := HA.out.below hbw
  clear hbw HA
  dsimp only
  have s0 : w1.cell? ⟨w.heap.size + 1 + 1, 0, none⟩ = some (.int .i64 0) := HB.out.b2.cell 0
  have s1 : w1.cell? ⟨w.heap.size + 1 + 1, 1, none⟩ = some (.int .i64 0) := HB.out.b2.cell 1
  have s2 : w1.cell? ⟨w.heap.size + 1 + 1, 2, none⟩ = some (.string ⟨#[]⟩) := HB.out.b2.cell 2
  have s3 : w1.cell? ⟨w.heap.size + 1 + 1, 3, none⟩ = some (.slice none 0 0) := HB.out.b2.cell 3
  have t0 : w1.cell? ⟨w.heap.size + 1 + 1 + 1, 0, none⟩ = some (.int .i64 0) := HB.out.b3.cell 0
  have t1 : w1.cell? ⟨w.heap.size + 1 + 1 + 1, 1, none⟩ = some (.int .i64 0) := HB.out.b3.cell 1
  have f0 := HB.out.b2.frozen 0
  have f1 := HB.out.b2.frozen 1
  have f2 := HB.out.b2.frozen 2
  have f3 := HB.out.b2.frozen 3
  have g0 := HB.out.b3.frozen 0
  have g1 := HB.out.b3.frozen 1
  by_cases hk : chk rs start = true
  · rw [chkI_of hk]
    have HCK := Lib.hid hk
    have HS : Hid (0 ≤ start ∧ start < rs.length ∧ rs.length ≤ 256) := by
      have := ((chk_iff rs start).1 hk).1
      exact ⟨this.2.2.1, this.2.2.2.1, this.2.1⟩
    have HG := Lib.hid (good_of hk)
    clear hk
    have a0 : w1.cell? ⟨w.heap.size, 0, none⟩ = some (.slice Ar rs.length c) := HB.out.b0.cell 0
    have a1 : w1.cell? ⟨w.heap.size, 1, none⟩ = some (.int .i64 start) := HB.out.b0.cell 1
    have d0 : w1.cell? ⟨w.heap.size + 1, 0, none⟩ = some (.int .i64 D) := HB.out.b1.cell 0
    have d1 : w1.cell? ⟨w.heap.size + 1, 1, none⟩ = some (.int .i64 S) := HB.out.b1.cell 1
    have HRU : Hid (0 ≤ start ∧ start < rs.length) := ⟨HS.out.1, HS.out.2.1⟩
    by_cases hl : (65536 : Int) < (inp.size : Int)
    · have HV : Hid (atAns rs start start inp 0 D S = (.zero, ⟨0, 0, 1⟩)) := atAns_long HCK.out HRU.out (by omega)
      go_wp2
      clear s0 s1 s2 s3 t0 t1 f0 f1 f2 f3 g0 g1
      (try simp only [Exit.inBlock, Exit.then])
      show bodyPost _ _ _ _ _ (put42 w1 (w.heap.size + 1 + 1) (.int .i64 0) (.int .i64 ((0 : Nat) : Int)) (.string ⟨#[]⟩) (.slice none 0 0) (.int .i64 ((0 : Nat) : Int)) (.int .i64 ((0 : Nat) : Int)))
      obtain ⟨wz, hwz⟩ : ∃ wz, wz = put42 w1 (w.heap.size + 1 + 1) (.int .i64 0) (.int .i64 ((0 : Nat) : Int)) (.string ⟨#[]⟩) (.slice none 0 0) (.int .i64 ((0 : Nat) : Int)) (.int .i64 ((0 : Nat) : Int)) := ⟨_, rfl⟩
      rw [← hwz]
      obtain ⟨hb, ho, k1, k2⟩ := E4.fin HB.out (OwnF.nil _ _) hwz
      clear hwz
      have r0 : wz.cell? ⟨w.heap.size + 1 + 1, 0, none⟩ = some (.int .i64 0) := k1.cell 0
      have r1 : wz.cell? ⟨w.heap.size + 1 + 1, 1, none⟩ = some (.int .i64 ((0 : Nat) : Int)) := k1.cell 1
      have r2 : wz.cell? ⟨w.heap.size + 1 + 1, 2, none⟩ = some (.string ⟨#[]⟩) := k1.cell 2
      have r3 : wz.cell? ⟨w.heap.size + 1 + 1, 3, none⟩ = some (.slice none 0 0) := k1.cell 3
      have r4 : wz.cell? ⟨w.heap.size + 1 + 1 + 1, 0, none⟩ = some (.int .i64 ((0 : Nat) : Int)) := k2.cell 0
      have r5 : wz.cell? ⟨w.heap.size + 1 + 1 + 1, 1, none⟩ = some (.int .i64 ((0 : Nat) : Int)) := k2.cell 1
      refine bodyPost_ret (v := tupC 0 (0) ⟨#[]⟩ (.slice none 0 0) (0) (0) 1) (by simp [results, tupC, rsC, Try.results8, go_sem, r0, r1, r2, r3, r4, r5]) rfl ?_
      rw [HV.out]
      exact runAns_zero (by decide) hb
    have HLN : Hid (inp.size ≤ 65536) := by show _ ≤ _; omega
    obtain ⟨r, hrr⟩ : ∃ r : Nat, start = (r : Int) := ⟨start.toNat, by have := HS.out; omega⟩
    subst hrr
    have HRP : Hid (r < rs.length ∧ 0 ≤ inp.size) := ⟨by have := HRU.out; omega, Nat.zero_le _⟩
    have HV : Hid (atAns rs (r : Nat) (r : Nat) inp 0 D S = runOf rs inp r 0 D S) := atAns_run (p := 0) HCK.out HRP.out.1 HLN.out HRP.out.2
    go_wp2_with (fail)
    clear a0 a1 d0 d1
    refine (evaluate.calls Ar c (r : Nat) rs r 0 inp D S w1 (Kd.C_below HR.out HB.out.bel) HG.out HRP.out.1 (by have := HLN.out; omega) HRP.out.2).mono ?_
    rintro e w2 ⟨v, rfl, hbw, ho⟩
    obtain ⟨ax, cx, hv⟩ := Go.X.own_slice ho
    subst hv
    have HE : Hid (E4 w w2 Ar rs.length c (r : Nat) D S) := HB.out.below hbw
    have HO : Hid (OwnF w2 w.heap.size (.slice ax (ansRes (runOf rs inp r 0 D S)).forest.length cx) (ansRes (runOf rs inp r 0 D S)).forest) := ho.low HB.out.bel.size
    clear hbw ho HB s0 s1 s2 s3 t0 t1 f0 f1 f2 f3 g0 g1
    generalize runOf rs inp r 0 D S = x at *
    generalize hq1 : ansRes x = q1 at *
    generalize hq2 : ansSt x = q2 at *
    have HQ := Lib.hid (And.intro hq1 hq2)
    clear hq1 hq2
    obtain ⟨xk, xe, xl, xf, xt⟩ := q1
    obtain ⟨ys, yd, ye⟩ := q2
    dsimp only at HO ⊢
    generalize hfl : xf.length = fl at *
    have HFL := Lib.hid hfl
    clear hfl
    have s0 : w2.cell? ⟨w.heap.size + 1 + 1, 0, none⟩ = some (.int .i64 0) := HE.out.b2.cell 0
    have s1 : w2.cell? ⟨w.heap.size + 1 + 1, 1, none⟩ = some (.int .i64 0) := HE.out.b2.cell 1
    have s2 : w2.cell? ⟨w.heap.size + 1 + 1, 2, none⟩ = some (.string ⟨#[]⟩) := HE.out.b2.cell 2
    have s3 : w2.cell? ⟨w.heap.size + 1 + 1, 3, none⟩ = some (.slice none 0 0) := HE.out.b2.cell 3
    have t0 : w2.cell? ⟨w.heap.size + 1 + 1 + 1, 0, none⟩ = some (.int .i64 0) := HE.out.b3.cell 0
    have t1 : w2.cell? ⟨w.heap.size + 1 + 1 + 1, 1, none⟩ = some (.int .i64 0) := HE.out.b3.cell 1
    have f0 := HE.out.b2.frozen 0
    have f1 := HE.out.b2.frozen 1
    have f2 := HE.out.b2.frozen 2
    have f3 := HE.out.b2.frozen 3
    have g0 := HE.out.b3.frozen 0
    have g1 := HE.out.b3.frozen 1
    go_wp2
    clear s0 s1 s2 s3 t0 t1 f0 f1 f2 f3 g0 g1
    (try simp only [Exit.inBlock, Exit.then])
    show bodyPost _ _ _ _ _ (put42 w2 (w.heap.size + 1 + 1) (.int .i64 xk) (.int .i64 ((xe : Nat) : Int)) (.string xl) (.slice ax fl cx) (.int .i64 ((yd : Nat) : Int)) (.int .i64 ((ys : Nat) : Int)))
    obtain ⟨wz, hwz⟩ : ∃ wz, wz = put42 w2 (w.heap.size + 1 + 1) (.int .i64 xk) (.int .i64 ((xe : Nat) : Int)) (.string xl) (.slice ax fl cx) (.int .i64 ((yd : Nat) : Int)) (.int .i64 ((ys : Nat) : Int)) := ⟨_, rfl⟩
    rw [← hwz]
    obtain ⟨hb, ho, k1, k2⟩ := E4.fin HE.out HO.out hwz
    clear hwz
    have r0 : wz.cell? ⟨w.heap.size + 1 + 1, 0, none⟩ = some (.int .i64 xk) := k1.cell 0
    have r1 : wz.cell? ⟨w.heap.size + 1 + 1, 1, none⟩ = some (.int .i64 ((xe : Nat) : Int)) := k1.cell 1
    have r2 : wz.cell? ⟨w.heap.size + 1 + 1, 2, none⟩ = some (.string xl) := k1.cell 2
    have r3 : wz.cell? ⟨w.heap.size + 1 + 1, 3, none⟩ = some (.slice ax fl cx) := k1.cell 3
    have r4 : wz.cell? ⟨w.heap.size + 1 + 1 + 1, 0, none⟩ = some (.int .i64 ((yd : Nat) : Int)) := k2.cell 0
    have r5 : wz.cell? ⟨w.heap.size + 1 + 1 + 1, 1, none⟩ = some (.int .i64 ((ys : Nat) : Int)) := k2.cell 1
    refine bodyPost_ret (v := tupC xk (xe) xl (.slice ax fl cx) (yd) (ys) ye) (by simp [results, tupC, rsC, Try.results8, go_sem, r0, r1, r2, r3, r4, r5]) rfl ?_
    rw [HV.out]
    have := runAns_of (x := x) hb (v := .slice ax fl cx) (by rw [HQ.out.1]; exact ho)
    rw [HQ.out.1, HQ.out.2] at this
    exact this
  · have hk' := nochk hk
    rw [chkI_off hk']
    have HV : Hid (atAns rs start start inp 0 D S = (.zero, ⟨0, 0, 6⟩)) := atAns_shape hk'
    go_wp2
    clear s0 s1 s2 s3 t0 t1 f0 f1 f2 f3 g0 g1
    (try simp only [Exit.inBlock, Exit.then])
    show bodyPost _ _ _ _ _ (put42 w1 (w.heap.size + 1 + 1) (.int .i64 0) (.int .i64 ((0 : Nat) : Int)) (.string ⟨#[]⟩) (.slice none 0 0) (.int .i64 ((0 : Nat) : Int)) (.int .i64 ((0 : Nat) : Int)))
    obtain ⟨wz, hwz⟩ : ∃ wz, wz = put42 w1 (w.heap.size + 1 + 1) (.int .i64 0) (.int .i64 ((0 : Nat) : Int)) (.string ⟨#[]⟩) (.slice none 0 0) (.int .i64 ((0 : Nat) : Int)) (.int .i64 ((0 : Nat) : Int)) := ⟨_, rfl⟩
    rw [← hwz]
    obtain ⟨hb, ho, k1, k2⟩ := E4.fin HB.out (OwnF.nil _ _) hwz
    clear hwz
    have r0 : wz.cell? ⟨w.heap.size + 1 + 1, 0, none⟩ = some (.int .i64 0) := k1.cell 0
    have r1 : wz.cell? ⟨w.heap.size + 1 + 1, 1, none⟩ = some (.int .i64 ((0 : Nat) : Int)) := k1.cell 1
    have r2 : wz.cell? ⟨w.heap.size + 1 + 1, 2, none⟩ = some (.string ⟨#[]⟩) := k1.cell 2
    have r3 : wz.cell? ⟨w.heap.size + 1 + 1, 3, none⟩ = some (.slice none 0 0) := k1.cell 3
    have r4 : wz.cell? ⟨w.heap.size + 1 + 1 + 1, 0, none⟩ = some (.int .i64 ((0 : Nat) : Int)) := k2.cell 0
    have r5 : wz.cell? ⟨w.heap.size + 1 + 1 + 1, 1, none⟩ = some (.int .i64 ((0 : Nat) : Int)) := k2.cell 1
    refine bodyPost_ret (v := tupC 0 (0) ⟨#[]⟩ (.slice none 0 0) (0) (0) 6) (by simp [results, tupC, rsC, Try.results8, go_sem, r0, r1, r2, r3, r4, r5]) rfl ?_
    rw [HV.out]
    exact runAns_zero (by decide) hb
set_option maxRecDepth 100000 in
set_option maxHeartbeats 4000000 in
theorem mat.calls (Ar : Option Addr) (c : Nat) (start rule : Int) (rs : List S45) (inp : ByteArray) (at_ D S : Int) (w : World) (hr : Kd.C k45 w Ar rs.length rs) (hc : rs.length ≤ c) (hb : ∀ x ∈ rs, x.f1.length ≤ 140737488355328 ∧ x.f0.size ≤ 140737488355328) :
    Calls Try.prog 13 #[.agg #[.slice Ar rs.length c, .int .i64 start], .int .i64 rule, .string inp, .int .i64 at_, .agg #[.int .i64 D, .int .i64 S]] w (RunAns w (atAns rs start rule inp at_ D S)) := by
  have HR := Lib.hid hr; clear hr
  have HC := Lib.hid hc; clear hc
  have HBB := Lib.hid hb; clear hb
  have HA := Lib.hid (E4.start w Ar rs.length c start D S)
  go_enter Try.func13, Try.ntmps13
  go_wp2_with (fail)
  have hwa0 : start4 w Ar rs.length c start D S = (((w.alloc (.cells #[.slice Ar rs.length c, .int .i64 start] 24)).alloc (.cells #[.int .i64 D, .int .i64 S] 26)).alloc (.cells #[.int .i64 0, .int .i64 0, .string ⟨#[]⟩, .slice none 0 0] 31)).alloc (.cells #[.int .i64 0, .int .i64 0] 32) := rfl
  rw [hwa0] at HA
  clear hwa0
  generalize (((w.alloc (.cells #[.slice Ar rs.length c, .int .i64 start] 24)).alloc (.cells #[.int .i64 D, .int .i64 S] 26)).alloc (.cells #[.int .i64 0, .int .i64 0, .string ⟨#[]⟩, .slice none 0 0] 31)).alloc (.cells #[.int .i64 0, .int .i64 0] 32) = wa at *
  refine (coreCheck.calls Ar c start rs wa (Kd.C_below HR.out HA.out.bel) HC.out HBB.out).mono ?_
  rintro e w1 ⟨rfl, hbw⟩
  have HB : Hid (E4 w w1 Ar rs.length c start D S) := HA.out.below hbw
  clear hbw HA
  dsimp only
  have s0 : w1.cell? ⟨w.heap.size + 1 + 1, 0, none⟩ = some (.int .i64 0) := HB.out.b2.cell 0
  have s1 : w1.cell? ⟨w.heap.size + 1 + 1, 1, none⟩ = some (.int .i64 0) := HB.out.b2.cell 1
  have s2 : w1.cell? ⟨w.heap.size + 1 + 1, 2, none⟩ = some (.string ⟨#[]⟩) := HB.out.b2.cell 2
  have s3 : w1.cell? ⟨w.heap.size + 1 + 1, 3, none⟩ = some (.slice none 0 0) := HB.out.b2.cell 3
  have t0 : w1.cell? ⟨w.heap.size + 1 + 1 + 1, 0, none⟩ = some (.int .i64 0) := HB.out.b3.cell 0
  have t1 : w1.cell? ⟨w.heap.size + 1 + 1 + 1, 1, none⟩ = some (.int .i64 0) := HB.out.b3.cell 1
  have f0 := HB.out.b2.frozen 0
  have f1 := HB.out.b2.frozen 1
  have f2 := HB.out.b2.frozen 2
  have f3 := HB.out.b2.frozen 3
  have g0 := HB.out.b3.frozen 0
  have g1 := HB.out.b3.frozen 1
  by_cases hk : chk rs start = true
  · rw [chkI_of hk]
    have HCK := Lib.hid hk
    have HS : Hid (0 ≤ start ∧ start < rs.length ∧ rs.length ≤ 256) := by
      have := ((chk_iff rs start).1 hk).1
      exact ⟨this.2.2.1, this.2.2.2.1, this.2.1⟩
    have HG := Lib.hid (good_of hk)
    clear hk
    have a0 : w1.cell? ⟨w.heap.size, 0, none⟩ = some (.slice Ar rs.length c) := HB.out.b0.cell 0
    have a1 : w1.cell? ⟨w.heap.size, 1, none⟩ = some (.int .i64 start) := HB.out.b0.cell 1
    have d0 : w1.cell? ⟨w.heap.size + 1, 0, none⟩ = some (.int .i64 D) := HB.out.b1.cell 0
    have d1 : w1.cell? ⟨w.heap.size + 1, 1, none⟩ = some (.int .i64 S) := HB.out.b1.cell 1
    by_cases hr0 : rule < 0
    · have HV : Hid (atAns rs start rule inp at_ D S = (.zero, ⟨0, 0, 5⟩)) := atAns_rule HCK.out (by omega)
      go_wp2
      clear s0 s1 s2 s3 t0 t1 f0 f1 f2 f3 g0 g1
      (try simp only [Exit.inBlock, Exit.then])
      show bodyPost _ _ _ _ _ (put42 w1 (w.heap.size + 1 + 1) (.int .i64 0) (.int .i64 ((0 : Nat) : Int)) (.string ⟨#[]⟩) (.slice none 0 0) (.int .i64 ((0 : Nat) : Int)) (.int .i64 ((0 : Nat) : Int)))
      obtain ⟨wz, hwz⟩ : ∃ wz, wz = put42 w1 (w.heap.size + 1 + 1) (.int .i64 0) (.int .i64 ((0 : Nat) : Int)) (.string ⟨#[]⟩) (.slice none 0 0) (.int .i64 ((0 : Nat) : Int)) (.int .i64 ((0 : Nat) : Int)) := ⟨_, rfl⟩
      rw [← hwz]
      obtain ⟨hb, ho, k1, k2⟩ := E4.fin HB.out (OwnF.nil _ _) hwz
      clear hwz
      have r0 : wz.cell? ⟨w.heap.size + 1 + 1, 0, none⟩ = some (.int .i64 0) := k1.cell 0
      have r1 : wz.cell? ⟨w.heap.size + 1 + 1, 1, none⟩ = some (.int .i64 ((0 : Nat) : Int)) := k1.cell 1
      have r2 : wz.cell? ⟨w.heap.size + 1 + 1, 2, none⟩ = some (.string ⟨#[]⟩) := k1.cell 2
      have r3 : wz.cell? ⟨w.heap.size + 1 + 1, 3, none⟩ = some (.slice none 0 0) := k1.cell 3
      have r4 : wz.cell? ⟨w.heap.size + 1 + 1 + 1, 0, none⟩ = some (.int .i64 ((0 : Nat) : Int)) := k2.cell 0
      have r5 : wz.cell? ⟨w.heap.size + 1 + 1 + 1, 1, none⟩ = some (.int .i64 ((0 : Nat) : Int)) := k2.cell 1
      refine bodyPost_ret (v := tupC 0 (0) ⟨#[]⟩ (.slice none 0 0) (0) (0) 5) (by simp [results, tupC, rsC, Try.results13, go_sem, r0, r1, r2, r3, r4, r5]) rfl ?_
      rw [HV.out]
      exact runAns_zero (by decide) hb
    by_cases hr1 : (rs.length : Int) ≤ rule
    · have HV : Hid (atAns rs start rule inp at_ D S = (.zero, ⟨0, 0, 5⟩)) := atAns_rule HCK.out (by omega)
      go_wp2
      clear s0 s1 s2 s3 t0 t1 f0 f1 f2 f3 g0 g1
      (try simp only [Exit.inBlock, Exit.then])
      show bodyPost _ _ _ _ _ (put42 w1 (w.heap.size + 1 + 1) (.int .i64 0) (.int .i64 ((0 : Nat) : Int)) (.string ⟨#[]⟩) (.slice none 0 0) (.int .i64 ((0 : Nat) : Int)) (.int .i64 ((0 : Nat) : Int)))
      obtain ⟨wz, hwz⟩ : ∃ wz, wz = put42 w1 (w.heap.size + 1 + 1) (.int .i64 0) (.int .i64 ((0 : Nat) : Int)) (.string ⟨#[]⟩) (.slice none 0 0) (.int .i64 ((0 : Nat) : Int)) (.int .i64 ((0 : Nat) : Int)) := ⟨_, rfl⟩
      rw [← hwz]
      obtain ⟨hb, ho, k1, k2⟩ := E4.fin HB.out (OwnF.nil _ _) hwz
      clear hwz
      have r0 : wz.cell? ⟨w.heap.size + 1 + 1, 0, none⟩ = some (.int .i64 0) := k1.cell 0
      have r1 : wz.cell? ⟨w.heap.size + 1 + 1, 1, none⟩ = some (.int .i64 ((0 : Nat) : Int)) := k1.cell 1
      have r2 : wz.cell? ⟨w.heap.size + 1 + 1, 2, none⟩ = some (.string ⟨#[]⟩) := k1.cell 2
      have r3 : wz.cell? ⟨w.heap.size + 1 + 1, 3, none⟩ = some (.slice none 0 0) := k1.cell 3
      have r4 : wz.cell? ⟨w.heap.size + 1 + 1 + 1, 0, none⟩ = some (.int .i64 ((0 : Nat) : Int)) := k2.cell 0
      have r5 : wz.cell? ⟨w.heap.size + 1 + 1 + 1, 1, none⟩ = some (.int .i64 ((0 : Nat) : Int)) := k2.cell 1
      refine bodyPost_ret (v := tupC 0 (0) ⟨#[]⟩ (.slice none 0 0) (0) (0) 5) (by simp [results, tupC, rsC, Try.results13, go_sem, r0, r1, r2, r3, r4, r5]) rfl ?_
      rw [HV.out]
      exact runAns_zero (by decide) hb
    have HRU : Hid (0 ≤ rule ∧ rule < rs.length) := ⟨by omega, by omega⟩
    by_cases hl : (65536 : Int) < (inp.size : Int)
    · have HV : Hid (atAns rs start rule inp at_ D S = (.zero, ⟨0, 0, 1⟩)) := atAns_long HCK.out HRU.out (by omega)
      go_wp2
      clear s0 s1 s2 s3 t0 t1 f0 f1 f2 f3 g0 g1
      (try simp only [Exit.inBlock, Exit.then])
      show bodyPost _ _ _ _ _ (put42 w1 (w.heap.size + 1 + 1) (.int .i64 0) (.int .i64 ((0 : Nat) : Int)) (.string ⟨#[]⟩) (.slice none 0 0) (.int .i64 ((0 : Nat) : Int)) (.int .i64 ((0 : Nat) : Int)))
      obtain ⟨wz, hwz⟩ : ∃ wz, wz = put42 w1 (w.heap.size + 1 + 1) (.int .i64 0) (.int .i64 ((0 : Nat) : Int)) (.string ⟨#[]⟩) (.slice none 0 0) (.int .i64 ((0 : Nat) : Int)) (.int .i64 ((0 : Nat) : Int)) := ⟨_, rfl⟩
      rw [← hwz]
      obtain ⟨hb, ho, k1, k2⟩ := E4.fin HB.out (OwnF.nil _ _) hwz
      clear hwz
      have r0 : wz.cell? ⟨w.heap.size + 1 + 1, 0, none⟩ = some (.int .i64 0) := k1.cell 0
      have r1 : wz.cell? ⟨w.heap.size + 1 + 1, 1, none⟩ = some (.int .i64 ((0 : Nat) : Int)) := k1.cell 1
      have r2 : wz.cell? ⟨w.heap.size + 1 + 1, 2, none⟩ = some (.string ⟨#[]⟩) := k1.cell 2
      have r3 : wz.cell? ⟨w.heap.size + 1 + 1, 3, none⟩ = some (.slice none 0 0) := k1.cell 3
      have r4 : wz.cell? ⟨w.heap.size + 1 + 1 + 1, 0, none⟩ = some (.int .i64 ((0 : Nat) : Int)) := k2.cell 0
      have r5 : wz.cell? ⟨w.heap.size + 1 + 1 + 1, 1, none⟩ = some (.int .i64 ((0 : Nat) : Int)) := k2.cell 1
      refine bodyPost_ret (v := tupC 0 (0) ⟨#[]⟩ (.slice none 0 0) (0) (0) 1) (by simp [results, tupC, rsC, Try.results13, go_sem, r0, r1, r2, r3, r4, r5]) rfl ?_
      rw [HV.out]
      exact runAns_zero (by decide) hb
    have HLN : Hid (inp.size ≤ 65536) := by show _ ≤ _; omega
    by_cases hp0 : at_ < 0
    · have HV : Hid (atAns rs start rule inp at_ D S = (.zero, ⟨0, 0, 5⟩)) := atAns_at HCK.out HRU.out HLN.out (by omega)
      go_wp2
      clear s0 s1 s2 s3 t0 t1 f0 f1 f2 f3 g0 g1
      (try simp only [Exit.inBlock, Exit.then])
      show bodyPost _ _ _ _ _ (put42 w1 (w.heap.size + 1 + 1) (.int .i64 0) (.int .i64 ((0 : Nat) : Int)) (.string ⟨#[]⟩) (.slice none 0 0) (.int .i64 ((0 : Nat) : Int)) (.int .i64 ((0 : Nat) : Int)))
      obtain ⟨wz, hwz⟩ : ∃ wz, wz = put42 w1 (w.heap.size + 1 + 1) (.int .i64 0) (.int .i64 ((0 : Nat) : Int)) (.string ⟨#[]⟩) (.slice none 0 0) (.int .i64 ((0 : Nat) : Int)) (.int .i64 ((0 : Nat) : Int)) := ⟨_, rfl⟩
      rw [← hwz]
      obtain ⟨hb, ho, k1, k2⟩ := E4.fin HB.out (OwnF.nil _ _) hwz
      clear hwz
      have r0 : wz.cell? ⟨w.heap.size + 1 + 1, 0, none⟩ = some (.int .i64 0) := k1.cell 0
      have r1 : wz.cell? ⟨w.heap.size + 1 + 1, 1, none⟩ = some (.int .i64 ((0 : Nat) : Int)) := k1.cell 1
      have r2 : wz.cell? ⟨w.heap.size + 1 + 1, 2, none⟩ = some (.string ⟨#[]⟩) := k1.cell 2
      have r3 : wz.cell? ⟨w.heap.size + 1 + 1, 3, none⟩ = some (.slice none 0 0) := k1.cell 3
      have r4 : wz.cell? ⟨w.heap.size + 1 + 1 + 1, 0, none⟩ = some (.int .i64 ((0 : Nat) : Int)) := k2.cell 0
      have r5 : wz.cell? ⟨w.heap.size + 1 + 1 + 1, 1, none⟩ = some (.int .i64 ((0 : Nat) : Int)) := k2.cell 1
      refine bodyPost_ret (v := tupC 0 (0) ⟨#[]⟩ (.slice none 0 0) (0) (0) 5) (by simp [results, tupC, rsC, Try.results13, go_sem, r0, r1, r2, r3, r4, r5]) rfl ?_
      rw [HV.out]
      exact runAns_zero (by decide) hb
    by_cases hp1 : (inp.size : Int) < at_
    · have HV : Hid (atAns rs start rule inp at_ D S = (.zero, ⟨0, 0, 5⟩)) := atAns_at HCK.out HRU.out HLN.out (by omega)
      go_wp2
      clear s0 s1 s2 s3 t0 t1 f0 f1 f2 f3 g0 g1
      (try simp only [Exit.inBlock, Exit.then])
      show bodyPost _ _ _ _ _ (put42 w1 (w.heap.size + 1 + 1) (.int .i64 0) (.int .i64 ((0 : Nat) : Int)) (.string ⟨#[]⟩) (.slice none 0 0) (.int .i64 ((0 : Nat) : Int)) (.int .i64 ((0 : Nat) : Int)))
      obtain ⟨wz, hwz⟩ : ∃ wz, wz = put42 w1 (w.heap.size + 1 + 1) (.int .i64 0) (.int .i64 ((0 : Nat) : Int)) (.string ⟨#[]⟩) (.slice none 0 0) (.int .i64 ((0 : Nat) : Int)) (.int .i64 ((0 : Nat) : Int)) := ⟨_, rfl⟩
      rw [← hwz]
      obtain ⟨hb, ho, k1, k2⟩ := E4.fin HB.out (OwnF.nil _ _) hwz
      clear hwz
      have r0 : wz.cell? ⟨w.heap.size + 1 + 1, 0, none⟩ = some (.int .i64 0) := k1.cell 0
      have r1 : wz.cell? ⟨w.heap.size + 1 + 1, 1, none⟩ = some (.int .i64 ((0 : Nat) : Int)) := k1.cell 1
      have r2 : wz.cell? ⟨w.heap.size + 1 + 1, 2, none⟩ = some (.string ⟨#[]⟩) := k1.cell 2
      have r3 : wz.cell? ⟨w.heap.size + 1 + 1, 3, none⟩ = some (.slice none 0 0) := k1.cell 3
      have r4 : wz.cell? ⟨w.heap.size + 1 + 1 + 1, 0, none⟩ = some (.int .i64 ((0 : Nat) : Int)) := k2.cell 0
      have r5 : wz.cell? ⟨w.heap.size + 1 + 1 + 1, 1, none⟩ = some (.int .i64 ((0 : Nat) : Int)) := k2.cell 1
      refine bodyPost_ret (v := tupC 0 (0) ⟨#[]⟩ (.slice none 0 0) (0) (0) 5) (by simp [results, tupC, rsC, Try.results13, go_sem, r0, r1, r2, r3, r4, r5]) rfl ?_
      rw [HV.out]
      exact runAns_zero (by decide) hb
    obtain ⟨r, hrr⟩ : ∃ r : Nat, rule = (r : Int) := ⟨rule.toNat, by omega⟩
    obtain ⟨p, hpp⟩ : ∃ p : Nat, at_ = (p : Int) := ⟨at_.toNat, by omega⟩
    subst hrr
    subst hpp
    have HRP : Hid (r < rs.length ∧ p ≤ inp.size) := ⟨by omega, by omega⟩
    have HV : Hid (atAns rs start (r : Nat) inp (p : Nat) D S = runOf rs inp r p D S) := atAns_run HCK.out HRP.out.1 HLN.out HRP.out.2
    go_wp2_with (fail)
    clear a0 a1 d0 d1
    refine (evaluate.calls Ar c start rs r p inp D S w1 (Kd.C_below HR.out HB.out.bel) HG.out HRP.out.1 (by have := HLN.out; omega) HRP.out.2).mono ?_
    rintro e w2 ⟨v, rfl, hbw, ho⟩
    obtain ⟨ax, cx, hv⟩ := Go.X.own_slice ho
    subst hv
    have HE : Hid (E4 w w2 Ar rs.length c start D S) := HB.out.below hbw
    have HO : Hid (OwnF w2 w.heap.size (.slice ax (ansRes (runOf rs inp r p D S)).forest.length cx) (ansRes (runOf rs inp r p D S)).forest) := ho.low HB.out.bel.size
    clear hbw ho HB s0 s1 s2 s3 t0 t1 f0 f1 f2 f3 g0 g1
    generalize runOf rs inp r p D S = x at *
    generalize hq1 : ansRes x = q1 at *
    generalize hq2 : ansSt x = q2 at *
    have HQ := Lib.hid (And.intro hq1 hq2)
    clear hq1 hq2
    obtain ⟨xk, xe, xl, xf, xt⟩ := q1
    obtain ⟨ys, yd, ye⟩ := q2
    dsimp only at HO ⊢
    generalize hfl : xf.length = fl at *
    have HFL := Lib.hid hfl
    clear hfl
    have s0 : w2.cell? ⟨w.heap.size + 1 + 1, 0, none⟩ = some (.int .i64 0) := HE.out.b2.cell 0
    have s1 : w2.cell? ⟨w.heap.size + 1 + 1, 1, none⟩ = some (.int .i64 0) := HE.out.b2.cell 1
    have s2 : w2.cell? ⟨w.heap.size + 1 + 1, 2, none⟩ = some (.string ⟨#[]⟩) := HE.out.b2.cell 2
    have s3 : w2.cell? ⟨w.heap.size + 1 + 1, 3, none⟩ = some (.slice none 0 0) := HE.out.b2.cell 3
    have t0 : w2.cell? ⟨w.heap.size + 1 + 1 + 1, 0, none⟩ = some (.int .i64 0) := HE.out.b3.cell 0
    have t1 : w2.cell? ⟨w.heap.size + 1 + 1 + 1, 1, none⟩ = some (.int .i64 0) := HE.out.b3.cell 1
    have f0 := HE.out.b2.frozen 0
    have f1 := HE.out.b2.frozen 1
    have f2 := HE.out.b2.frozen 2
    have f3 := HE.out.b2.frozen 3
    have g0 := HE.out.b3.frozen 0
    have g1 := HE.out.b3.frozen 1
    go_wp2
    clear s0 s1 s2 s3 t0 t1 f0 f1 f2 f3 g0 g1
    (try simp only [Exit.inBlock, Exit.then])
    show bodyPost _ _ _ _ _ (put42 w2 (w.heap.size + 1 + 1) (.int .i64 xk) (.int .i64 ((xe : Nat) : Int)) (.string xl) (.slice ax fl cx) (.int .i64 ((yd : Nat) : Int)) (.int .i64 ((ys : Nat) : Int)))
    obtain ⟨wz, hwz⟩ : ∃ wz, wz = put42 w2 (w.heap.size + 1 + 1) (.int .i64 xk) (.int .i64 ((xe : Nat) : Int)) (.string xl) (.slice ax fl cx) (.int .i64 ((yd : Nat) : Int)) (.int .i64 ((ys : Nat) : Int)) := ⟨_, rfl⟩
    rw [← hwz]
    obtain ⟨hb, ho, k1, k2⟩ := E4.fin HE.out HO.out hwz
    clear hwz
    have r0 : wz.cell? ⟨w.heap.size + 1 + 1, 0, none⟩ = some (.int .i64 xk) := k1.cell 0
    have r1 : wz.cell? ⟨w.heap.size + 1 + 1, 1, none⟩ = some (.int .i64 ((xe : Nat) : Int)) := k1.cell 1
    have r2 : wz.cell? ⟨w.heap.size + 1 + 1, 2, none⟩ = some (.string xl) := k1.cell 2
    have r3 : wz.cell? ⟨w.heap.size + 1 + 1, 3, none⟩ = some (.slice ax fl cx) := k1.cell 3
    have r4 : wz.cell? ⟨w.heap.size + 1 + 1 + 1, 0, none⟩ = some (.int .i64 ((yd : Nat) : Int)) := k2.cell 0
    have r5 : wz.cell? ⟨w.heap.size + 1 + 1 + 1, 1, none⟩ = some (.int .i64 ((ys : Nat) : Int)) := k2.cell 1
    refine bodyPost_ret (v := tupC xk (xe) xl (.slice ax fl cx) (yd) (ys) ye) (by simp [results, tupC, rsC, Try.results13, go_sem, r0, r1, r2, r3, r4, r5]) rfl ?_
    rw [HV.out]
    have := runAns_of (x := x) hb (v := .slice ax fl cx) (by rw [HQ.out.1]; exact ho)
    rw [HQ.out.1, HQ.out.2] at this
    exact this
  · have hk' := nochk hk
    rw [chkI_off hk']
    have HV : Hid (atAns rs start rule inp at_ D S = (.zero, ⟨0, 0, 6⟩)) := atAns_shape hk'
    go_wp2
    clear s0 s1 s2 s3 t0 t1 f0 f1 f2 f3 g0 g1
    (try simp only [Exit.inBlock, Exit.then])
    show bodyPost _ _ _ _ _ (put42 w1 (w.heap.size + 1 + 1) (.int .i64 0) (.int .i64 ((0 : Nat) : Int)) (.string ⟨#[]⟩) (.slice none 0 0) (.int .i64 ((0 : Nat) : Int)) (.int .i64 ((0 : Nat) : Int)))
    obtain ⟨wz, hwz⟩ : ∃ wz, wz = put42 w1 (w.heap.size + 1 + 1) (.int .i64 0) (.int .i64 ((0 : Nat) : Int)) (.string ⟨#[]⟩) (.slice none 0 0) (.int .i64 ((0 : Nat) : Int)) (.int .i64 ((0 : Nat) : Int)) := ⟨_, rfl⟩
    rw [← hwz]
    obtain ⟨hb, ho, k1, k2⟩ := E4.fin HB.out (OwnF.nil _ _) hwz
    clear hwz
    have r0 : wz.cell? ⟨w.heap.size + 1 + 1, 0, none⟩ = some (.int .i64 0) := k1.cell 0
    have r1 : wz.cell? ⟨w.heap.size + 1 + 1, 1, none⟩ = some (.int .i64 ((0 : Nat) : Int)) := k1.cell 1
    have r2 : wz.cell? ⟨w.heap.size + 1 + 1, 2, none⟩ = some (.string ⟨#[]⟩) := k1.cell 2
    have r3 : wz.cell? ⟨w.heap.size + 1 + 1, 3, none⟩ = some (.slice none 0 0) := k1.cell 3
    have r4 : wz.cell? ⟨w.heap.size + 1 + 1 + 1, 0, none⟩ = some (.int .i64 ((0 : Nat) : Int)) := k2.cell 0
    have r5 : wz.cell? ⟨w.heap.size + 1 + 1 + 1, 1, none⟩ = some (.int .i64 ((0 : Nat) : Int)) := k2.cell 1
    refine bodyPost_ret (v := tupC 0 (0) ⟨#[]⟩ (.slice none 0 0) (0) (0) 6) (by simp [results, tupC, rsC, Try.results13, go_sem, r0, r1, r2, r3, r4, r5]) rfl ?_
    rw [HV.out]
    exact runAns_zero (by decide) hb
end Go.Proofs.Ytmpkkphohilkoaa.B
