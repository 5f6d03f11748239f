/- Texts joined and shortened (wip/tools/shrink.py): MCheck2, MCheck3, MCoreCheck, MRunP, MLend, MLim, DOut, DRowKit, DWorks, RMatch, Fx14, DFo. -/
import Derived.Test.YtmpkkphohilkoaaDoorQu8
import Derived.Test.YtmpkkphohilkoaaDoorQu10
import Derived.Maps.OwnOps
import Derived.Maps.OwnSet
import Derived.Deep.RegionHeld3
import Derived.Outline
import Derived.Test.YtmpkkphohilkoaaDoorQu4
import Derived.Test.YtmpkkphohilkoaaDoorQu2
import Derived.Test.YtmpkkphohilkoaaDoorQu0
import Derived.Test.YtmpkkphohilkoaaDoorQu5
import Derived.Test.YtmpkkphohilkoaaDoorCards
import Derived.Test.YtmpkkphohilkoaaDoorTie
import Derived.WalkKit
import Derived.ProofKit
import Derived.OpenShut
import Derived.Deep.DeepHandedRow
import Derived.Lib.LaidTab
import Derived.ChangeMaps5
import Derived.ChangeOld
import Derived.Below
import Derived.SizedLaws
import Derived.JoinedCond
import Derived.Deep.CondSized
import Derived.Laws.Concat
import Derived.Test.YtmpkkphohilkoaaDoorQu9
/- core.right and dowelref09.Check in plain words; what Check lets pass. -/
namespace Go.Proofs.YtmpkkphohilkoaaDoor.B
open Go Go.RowKit Go.X Go.Ma Go.Proofs.YtmpkkphohilkoaaDoorW.PrintWords Go.Proofs.YtmpkkphohilkoaaDoorW.PrintLast Go.Proofs.YtmpkkphohilkoaaDoorW.PrintMore Go.Proofs.YtmpkkphohilkoaaDoor.F Go.Proofs.YtmpkkphohilkoaaDoor.Nm
set_option linter.unusedSimpArgs false

theorem arity_f (op : Int) (k : Nat) (hk : 0 < k) : core_arity.f k op = some (arz op : Int) := by
  obtain ⟨k, rfl⟩ : ∃ m, k = m + 1 := ⟨k - 1, by omega⟩
  unfold core_arity.f arz
  by_cases h4 : op = 4
  · subst h4; rfl
  · rw [if_neg h4, core_arity.j0]
    by_cases h5 : op = 5
    · subst h5; rfl
    · by_cases h6 : op = 6
      · subst h6; rfl
      · by_cases h7 : op = 7
        · subst h7; rfl
        · by_cases h8 : op = 8
          · subst h8; rfl
          · simp [h4, h5, h6, h7, h8]
theorem nilB (s : ByteArray) : (s.toList == (⟨#[]⟩ : ByteArray).toList) = decide (s.size = 0) := by
  rw [show (⟨#[]⟩ : ByteArray).toList = [] by rw [ByteArray.toList_eq]]
  exact nil_iff s
/- A name's bytes are all of ASCII. -/
theorem run_take (p : Int → Bool) : ∀ l : List Int, ∀ c ∈ l.take (run p l), p c = true
  | [], c, h => by simp at h
  | x :: r, c, h => by
    rw [run_cons] at h
    split at h
    · rename_i hp
      rw [Nat.add_comm, List.take_succ_cons, List.mem_cons] at h
      rcases h with rfl | h
      · exact hp
      · exact run_take p r c h
    · simp at h
theorem ld_low {c : Int} (h : ldZ c = true) : c < 128 := by
  simp only [ldZ, letterZ, digitZ, Bool.or_eq_true, Bool.and_eq_true, decide_eq_true_eq] at h
  omega
theorem ownL_low : ∀ l : List Int, ∀ c ∈ l.take (ownL l), c < 128
  | [], c, h => by simp at h
  | x :: r, c, h => by
    rw [ownL] at h
    split at h
    · rename_i hp
      rw [Nat.add_comm, List.take_succ_cons, List.mem_cons] at h
      rcases h with rfl | h
      · exact ld_low (ld_letter hp)
      · exact ld_low (run_take ldZ r c h)
    · simp at h
theorem numL_low : ∀ l : List Int, ∀ c ∈ l.take (numL l), c < 128
  | [], c, h => by simp at h
  | x :: r, c, h => by
    rw [numL] at h
    split at h
    · rename_i hp
      rw [Nat.add_comm, List.take_succ_cons, List.mem_cons] at h
      rcases h with rfl | h
      · omega
      · exact ld_low (ld_digit (run_take digitZ r c h))
    · simp at h
theorem mid_low {l : List Int} {n : Nat} (hl : ∀ c ∈ l.take n, c < 128) : ∀ c ∈ l.take (mid l n), c < 128 := by
  intro c h
  rw [mid] at h
  split at h
  · rename_i hp
    rw [List.take_add, List.take_add, hp.1] at h
    simp only [List.mem_append, List.mem_cons, List.not_mem_nil, or_false] at h
    rcases h with (h | h | h) | h
    · exact hl c h
    · omega
    · omega
    · exact ownL_low _ c h
  · exact hl c h
theorem named_low (l : List Int) : ∀ c ∈ l.take (namedL l), c < 128 := by
  intro c h
  rw [namedL] at h
  split at h
  · simp at h
  · rw [List.take_add, List.mem_append] at h
    rcases h with h | h
    · exact mid_low (ownL_low l) c h
    · exact numL_low _ c h
theorem nameOK_asc {s : ByteArray} (h : nameOK s = true) : asc s = true := by
  have h3 := of_decide_eq_true h
  have hl := named_low (bl s)
  rw [h3.2.2, ← bl_length, List.take_length] at hl
  rw [asc, List.all_eq_true]
  intro b hb
  have := hl (b.toNat : Int) (List.mem_map.2 ⟨b, hb, rfl⟩)
  simp only [decide_eq_true_eq]
  omega
theorem indexAny_iff (chars : List UInt8) : ∀ l : List UInt8, 0 ≤ Lib.indexAny l chars ↔ ∃ b ∈ l, chars.contains b = true
  | [] => by simp [Lib.indexAny]
  | b :: l => by
    have ih := indexAny_iff chars l
    have hg := Lib.indexAny_ge chars l
    rw [Lib.indexAny]
    by_cases h : chars.contains b = true
    · rw [if_pos h]
      simp only [Int.le_refl, true_iff]
      exact ⟨b, List.mem_cons_self, h⟩
    · rw [if_neg h]
      have e : (∃ b' ∈ b :: l, chars.contains b' = true) ↔ ∃ b ∈ l, chars.contains b = true := by
        constructor
        · rintro ⟨x, hx, hc⟩
          rcases List.mem_cons.1 hx with rfl | hx
          · exact absurd hc h
          · exact ⟨x, hx, hc⟩
        · rintro ⟨x, hx, hc⟩
          exact ⟨x, List.mem_cons_of_mem _ hx, hc⟩
      rw [e, ← ih]
      split
      · rename_i h1
        have := eq_of_beq h1
        omega
      · rename_i h1
        have : ¬ Lib.indexAny l chars = -1 := fun q => h1 (by rw [q]; rfl)
        omega
theorem plain_any (s : ByteArray) : Lib.containsAny s.data.toList [58, 126] = !plainS s := by
  have key : Lib.containsAny s.data.toList [58, 126] = true ↔ plainS s = false := by
    rw [Lib.containsAny, decide_eq_true_iff, indexAny_iff, plainS, List.all_eq_false]
    constructor
    · rintro ⟨b, hb, hc⟩
      refine ⟨(b.toNat : Int), List.mem_map.2 ⟨b, hb, rfl⟩, ?_⟩
      have : b = 58 ∨ b = 126 := by simpa using hc
      rcases this with rfl | rfl <;> decide
    · rintro ⟨c, hc, hn⟩
      obtain ⟨b, hb, rfl⟩ := List.mem_map.1 hc
      refine ⟨b, hb, ?_⟩
      have hn' : (b.toNat : Int) = 58 ∨ (b.toNat : Int) = 126 := by
        simp only [decide_eq_true_eq] at hn
        omega
      have h58 : b.toNat = 58 → b = 58 := fun e => UInt8.toNat_inj.1 e
      have h126 : b.toNat = 126 → b = 126 := fun e => UInt8.toNat_inj.1 e
      rcases hn' with e | e
      · rw [h58 (by omega)]; decide
      · rw [h126 (by omega)]; decide
  cases h : plainS s
  · rw [key.2 h]; rfl
  · rw [Bool.not_true]
    rw [← Bool.not_eq_true, key, h]
    decide
theorem any_f (s : ByteArray) (h : nameOK s = true) : strings_ContainsAny.f s ⟨#[58, 126]⟩ = some (!plainS s) := by
  have := nameOK_le h
  rw [strings_ContainsAny.f, if_pos ⟨nameOK_asc h, rfl, by omega, by decide⟩]
  congr 1
  exact plain_any s
/- core.right -/
section
variable (N n len i F k : Nat) (xs : List S47) (x : S47) (R : Bool)
theorem right_j2 (b : Bool) (m : Nat) (t : Int) (hb : b = true → 0 ≤ x.f0 ∧ x.f0 ≤ 8) (h12 : x.f0 ≠ 1 ∧ x.f0 ≠ 2)
    (H : ∀ k, F < k → core_right.l0 k N (wrap64 ((n : Int) + wrap64 (1 - t))) xs len (wrap64 ((i : Int) + 1)) = some R) (hk : F < m) (z : Bool) (hz : z = decide (x.f0 = 3 ∨ x.f0 = 8)) :
    core_right.j2 (m + 1) N n t b xs len i z x.f0 x.f1.f0 x.f1.f1 x.f1.f2 x.f1.f3 x.f2 x.f3 x.f0 0 0 0 0 0 (⟨#[]⟩ : ByteArray) = some (b && nodeOK N x && R) := by
  rw [core_right.j2]
  cases b with
  | false =>
    split
    · rfl
    · rfl
  | true =>
    have hop := hb rfl
    simp only [if_true, Bool.true_and]
    by_cases h38 : x.f0 = 3 ∨ x.f0 = 8
    · rw [if_pos (by rw [hz]; simp [h38])]
      have hlex : lexis_Name.f x.f3 = some (nameOK x.f3) := rfl
      rw [hlex, Option.bind_some]
      by_cases hn : nameOK x.f3 = true
      · rw [if_pos hn, any_f _ hn, Option.bind_some]
        by_cases hp : plainS x.f3 = true
        · rw [if_neg (by simp [hp])]
          by_cases hc : x.f1.f0 = 0 ∧ x.f1.f1 = 0 ∧ x.f1.f2 = 0 ∧ x.f1.f3 = 0 ∧ x.f2 = 0
          · rw [if_neg (by simp [hc]), H m hk]
            have : nodeOK N x = true := by
              rw [nodeOK, if_pos h38, hn, hp, Bool.and_true, Bool.and_true]
              exact decide_eq_true ⟨hop.1, hop.2, fun _ => ⟨hc.1, hc.2.1, hc.2.2.1, hc.2.2.2.1⟩, fun q => absurd q h12.2, fun _ => hc.2.2.2.2⟩
            rw [this, Bool.true_and]
          · rw [if_pos (by simp; omega)]
            have : nodeOK N x = false := by
              rw [nodeOK, Bool.and_eq_false_iff]
              refine .inl (decide_eq_false fun q => hc ?_)
              have := q.2.2.1 h12.1
              exact ⟨this.1, this.2.1, this.2.2.1, this.2.2.2, q.2.2.2.2 h12.2⟩
            rw [this, Bool.false_and]
        · rw [if_pos (by simp [hp])]
          have : nodeOK N x = false := by
            rw [nodeOK, if_pos h38, Bool.and_eq_false_iff, Bool.and_eq_false_iff]
            exact .inr (.inr (by simpa using hp))
          rw [this, Bool.false_and]
      · rw [if_neg hn]
        have : nodeOK N x = false := by
          rw [nodeOK, if_pos h38, Bool.and_eq_false_iff, Bool.and_eq_false_iff]
          exact .inr (.inl (by simpa using hn))
        rw [this, Bool.false_and]
    · rw [if_neg (by rw [hz]; simp [h38])]
      have hnil := nilB x.f3
      by_cases hc : x.f1.f0 = 0 ∧ x.f1.f1 = 0 ∧ x.f1.f2 = 0 ∧ x.f1.f3 = 0 ∧ x.f2 = 0 ∧ x.f3.size = 0
      · have he : (x.f3.toList == (⟨#[]⟩ : ByteArray).toList) = true := hnil.trans (by simp [hc])
        rw [if_neg (by rw [he]; simp [hc]), H m hk]
        have : nodeOK N x = true := by
          rw [nodeOK, if_neg h38, Bool.and_eq_true]
          exact ⟨decide_eq_true ⟨hop.1, hop.2, fun _ => ⟨hc.1, hc.2.1, hc.2.2.1, hc.2.2.2.1⟩, fun q => absurd q h12.2, fun _ => hc.2.2.2.2.1⟩, decide_eq_true hc.2.2.2.2.2⟩
        rw [this, Bool.true_and]
      · have he : (x.f3.toList == (⟨#[]⟩ : ByteArray).toList) = decide (x.f3.size = 0) := hnil
        rw [if_pos (by rw [he]; clear he hnil; generalize x.f3.size = z at *; simp; omega)]
        have : nodeOK N x = false := by
          rw [nodeOK, if_neg h38]
          apply Bool.eq_false_iff.2
          intro q
          rw [Bool.and_eq_true, decide_eq_true_iff, decide_eq_true_iff] at q
          obtain ⟨⟨_, _, q1, _, q2⟩, q3⟩ := q
          have := q1 h12.1
          exact hc ⟨this.1, this.2.1, this.2.2.1, this.2.2.2, q2 h12.2, q3⟩
        rw [this, Bool.false_and]
theorem right_j1 (b : Bool) (m : Nat) (t : Int) (hb : b = true → 0 ≤ x.f0 ∧ x.f0 ≤ 8)
    (H : ∀ k, F < k → core_right.l0 k N (wrap64 ((n : Int) + wrap64 (1 - t))) xs len (wrap64 ((i : Int) + 1)) = some R) (hk : F < m) :
    core_right.j1 (m + 2) N n t b xs len i x.f0 x.f1.f0 x.f1.f1 x.f1.f2 x.f1.f3 x.f2 x.f3 x.f0 0 0 0 0 0 (⟨#[]⟩ : ByteArray) = some (b && nodeOK N x && R) := by
  rw [core_right.j1]
  have hnil := nilB x.f3
  by_cases h1 : x.f0 = 1
  · rw [if_pos h1]
    cases b with
    | false => rfl
    | true =>
      have hop := hb rfl
      simp only [if_true, Bool.true_and]
      by_cases hc : x.f2 = 0 ∧ x.f3.size = 0
      · have he : (x.f3.toList == (⟨#[]⟩ : ByteArray).toList) = true := hnil.trans (by simp [hc])
        rw [if_neg (by rw [he]; simp [hc]), H _ (by omega)]
        have : nodeOK N x = true := by
          rw [nodeOK, if_neg (by omega), Bool.and_eq_true]
          exact ⟨decide_eq_true ⟨hop.1, hop.2, fun q => absurd h1 q, fun q => by omega, fun _ => hc.1⟩, decide_eq_true hc.2⟩
        rw [this, Bool.true_and]
      · have he : (x.f3.toList == (⟨#[]⟩ : ByteArray).toList) = decide (x.f3.size = 0) := hnil
        rw [if_pos (by rw [he]; clear he hnil; generalize x.f3.size = z at *; simp; omega)]
        have : nodeOK N x = false := by
          rw [nodeOK, if_neg (by omega)]
          apply Bool.eq_false_iff.2
          intro q
          rw [Bool.and_eq_true, decide_eq_true_iff, decide_eq_true_iff] at q
          exact hc ⟨q.1.2.2.2.2 (by omega), q.2⟩
        rw [this, Bool.false_and]
  · rw [if_neg h1]
    by_cases h2 : x.f0 = 2
    · rw [if_pos h2]
      cases b with
      | false => rfl
      | true =>
        have hop := hb rfl
        simp only [if_true, Bool.true_and]
        have hno : ¬ (0 ≤ x.f2 ∧ x.f2 < N) → nodeOK N x = false := fun hh => by
          rw [nodeOK, Bool.and_eq_false_iff]
          exact .inl (decide_eq_false fun q => hh (q.2.2.2.1 h2))
        by_cases hr : x.f2 ≥ 0
        · rw [if_pos hr]
          by_cases hr2 : x.f2 < N
          · rw [if_pos hr2]
            by_cases hc : x.f1.f0 = 0 ∧ x.f1.f1 = 0 ∧ x.f1.f2 = 0 ∧ x.f1.f3 = 0 ∧ x.f3.size = 0
            · have he : (x.f3.toList == (⟨#[]⟩ : ByteArray).toList) = true := hnil.trans (by simp [hc])
              rw [if_neg (by rw [he]; simp [hc]), H _ (by omega)]
              have : nodeOK N x = true := by
                rw [nodeOK, if_neg (by omega), Bool.and_eq_true]
                exact ⟨decide_eq_true ⟨hop.1, hop.2, fun _ => ⟨hc.1, hc.2.1, hc.2.2.1, hc.2.2.2.1⟩, fun _ => ⟨hr, hr2⟩, fun q => absurd h2 q⟩, decide_eq_true hc.2.2.2.2⟩
              rw [this, Bool.true_and]
            · have he : (x.f3.toList == (⟨#[]⟩ : ByteArray).toList) = decide (x.f3.size = 0) := hnil
              rw [if_pos (by rw [he]; clear he hnil; generalize x.f3.size = z at *; simp; omega)]
              have : nodeOK N x = false := by
                rw [nodeOK, if_neg (by omega)]
                apply Bool.eq_false_iff.2
                intro q
                rw [Bool.and_eq_true, decide_eq_true_iff, decide_eq_true_iff] at q
                obtain ⟨⟨_, _, q1, _, _⟩, q3⟩ := q
                have := q1 h1
                exact hc ⟨this.1, this.2.1, this.2.2.1, this.2.2.2, q3⟩
              rw [this, Bool.false_and]
          · rw [if_neg hr2, hno (fun q => hr2 q.2), Bool.false_and]
        · rw [if_neg hr, hno (fun q => hr q.1), Bool.false_and]
    · rw [if_neg h2]
      by_cases h3 : x.f0 = 3
      · rw [if_pos h3]
        exact right_j2 N n len i F xs x R b m t hb ⟨h1, h2⟩ H hk _ (by simp [h3])
      · rw [if_neg h3]
        exact right_j2 N n len i F xs x R b m t hb ⟨h1, h2⟩ H hk _ (by rw [Bool.eq_iff_iff]; simp [h3])
end
theorem right_l0 (N : Nat) (xs : List S47) (hl : xs.length ≤ 1048576) : ∀ (d k i n : Nat), xs.length - i = d → d * 3 + 10 < k → i ≤ xs.length → n ≤ i → core_right.l0 k N n xs (xs.length : Int) i = some (goB N (xs.drop i) n)
  | 0, k, i, n, hd, hk, hi, hn => by
    obtain ⟨k, rfl⟩ : ∃ m, k = m + 1 := ⟨k - 1, by omega⟩
    rw [core_right.l0, if_neg (by omega), List.drop_of_length_le (by omega), goB]
    congr 1
    rw [Bool.eq_iff_iff]
    simp
    omega
  | d + 1, k, i, n, hd, hk, hi, hn => by
    obtain ⟨k, rfl⟩ : ∃ m, k = m + 1 := ⟨k - 1, by omega⟩
    have e : rd_T47 xs (i : Int) = cd xs i := by rw [rd_T47, Int.toNat_natCast]; rfl
    rw [core_right.l0, if_pos (by omega), if_pos (by omega), if_pos (by omega), e, drop_cd (by omega), goB]
    generalize cd xs i = x
    rw [arity_f _ _ (by omega), Option.bind_some]
    have h2 : arz x.f0 ≤ 2 := by unfold arz; split <;> (try split) <;> omega
    have hw : wrap64 ((i : Int) + 1) = ((i + 1 : Nat) : Int) := by rw [IntWalk.wrap64_in _ (by omega)]; rfl
    obtain ⟨m, rfl⟩ : ∃ m, k = m + 2 := ⟨k - 2, by omega⟩
    by_cases ha : arz x.f0 ≤ n
    · rw [if_pos (by omega)]
      have hw2 : wrap64 ((n : Int) + wrap64 (1 - (arz x.f0 : Int))) = ((n + 1 - arz x.f0 : Nat) : Int) := by
        rw [IntWalk.wrap64_in (1 - _) (by omega), IntWalk.wrap64_in _ (by omega)]
        omega
      have H : ∀ k, d * 3 + 10 < k → core_right.l0 k N (wrap64 ((n : Int) + wrap64 (1 - (arz x.f0 : Int)))) xs (xs.length : Int) (wrap64 ((i : Int) + 1)) = some (goB N (xs.drop (i + 1)) (n + 1 - arz x.f0)) := by
        intro k hk
        rw [hw, hw2]
        exact right_l0 N xs hl d k (i + 1) (n + 1 - arz x.f0) (by omega) hk (by omega) (by omega)
      have hd2 : decide (arz x.f0 ≤ n) = true := decide_eq_true ha
      rw [hd2, Bool.and_true]
      by_cases h0 : x.f0 ≥ 0
      · rw [if_pos h0, right_j1 N n xs.length i (d * 3 + 10) xs x _ _ m _ (fun hb => ⟨h0, of_decide_eq_true hb⟩) H (by omega)]
        by_cases h8 : x.f0 ≤ 8
        · rw [decide_eq_true h8, Bool.true_and]
        · have : nodeOK N x = false := by
            rw [nodeOK, Bool.and_eq_false_iff]
            exact .inl (decide_eq_false fun q => h8 q.2.1)
          rw [this, Bool.and_false]
      · rw [if_neg h0, right_j1 N n xs.length i (d * 3 + 10) xs x _ _ m _ (fun hb => by cases hb) H (by omega)]
        have : nodeOK N x = false := by
          rw [nodeOK, Bool.and_eq_false_iff]
          exact .inl (decide_eq_false fun q => h0 q.1)
        rw [this, Bool.and_false]
    · rw [if_neg (by omega)]
      have hd2 : decide (arz x.f0 ≤ n) = false := decide_eq_false ha
      rw [hd2, Bool.and_false, Bool.false_and]
      have H2 : ∀ b, b = false → ∀ t : Int, core_right.j1 (m + 2) N n t b xs (xs.length : Int) i x.f0 x.f1.f0 x.f1.f1 x.f1.f2 x.f1.f3 x.f2 x.f3 x.f0 0 0 0 0 0 (⟨#[]⟩ : ByteArray) = some false := by
        rintro b rfl t
        rw [core_right.j1]
        have hj : ∀ z, core_right.j2 (m + 1) N n t false xs (xs.length : Int) i z x.f0 x.f1.f0 x.f1.f1 x.f1.f2 x.f1.f3 x.f2 x.f3 x.f0 0 0 0 0 0 (⟨#[]⟩ : ByteArray) = some false := by
          intro z
          rw [core_right.j2]
          cases z <;> rfl
        simp only [hj]
        split
        · rfl
        · split
          · rfl
          · split <;> rfl
      exact H2 _ rfl _
theorem right_f (N : Nat) (xs : List S47) (hl : xs.length ≤ 1048576) (k : Nat) (hk : xs.length * 3 + 10 < k) : core_right.f k xs N = some (goB N xs 0) :=
  right_l0 N xs hl xs.length k 0 0 rfl hk (Nat.zero_le _) (Nat.le_refl _)
end Go.Proofs.YtmpkkphohilkoaaDoor.B
/- dowelref09.Check in plain words; what Check lets pass is good for the evaluation. -/
namespace Go.Proofs.YtmpkkphohilkoaaDoor.B
open Go Go.RowKit Go.X Go.Ma Go.Proofs.YtmpkkphohilkoaaDoorW.PrintWords Go.Proofs.YtmpkkphohilkoaaDoorW.PrintLast Go.Proofs.YtmpkkphohilkoaaDoorW.PrintMore Go.Proofs.YtmpkkphohilkoaaDoor.F Go.Proofs.YtmpkkphohilkoaaDoor.Nm
set_option linter.unusedSimpArgs false

theorem rd_cr (rs : List S42) (i : Nat) : rd_T42 rs (i : Int) = cr rs i := by rw [rd_T42, Int.toNat_natCast]; rfl
theorem check_l1 (rs : List S42) (st : Int) (i : Nat) (hi : i < rs.length) (hl : rs.length ≤ 1048576) (F : Nat) (R : Int) (H : ∀ m, F < m → dowelref09_Check.l0 m (wrap64 ((i : Int) + 1)) rs st = some R) :
    ∀ (d k j : Nat), i - j = d → j ≤ i → d + 1 + F < k → dowelref09_Check.l1 k i j rs st = some (if ∀ q, q < i → j ≤ q → (cr rs q).f0 ≠ (cr rs i).f0 then R else 6)
  | 0, k, j, hd, hj, hk => by
    obtain ⟨k, rfl⟩ : ∃ m, k = m + 1 := ⟨k - 1, by omega⟩
    rw [dowelref09_Check.l1, if_neg (by omega), H k (by omega), if_pos (fun q _ _ => by omega)]
  | d + 1, k, j, hd, hj, hk => by
    obtain ⟨k, rfl⟩ : ∃ m, k = m + 1 := ⟨k - 1, by omega⟩
    have hw : wrap64 ((j : Int) + 1) = ((j + 1 : Nat) : Int) := by rw [IntWalk.wrap64_in _ (by omega)]; rfl
    rw [dowelref09_Check.l1, if_pos (by omega), if_pos (by omega), if_pos (by omega), if_pos (by omega), if_pos (by omega), rd_cr, rd_cr, hw, check_l1 rs st i hi hl F R H d k (j + 1) (by omega) (by omega) (by omega)]
    by_cases he : (cr rs j).f0 = (cr rs i).f0
    · rw [if_pos (str_eq.2 he), if_neg (fun q => q j (by omega) (Nat.le_refl _) he)]
    · rw [if_neg (fun q => he (str_eq.1 q))]
      congr 1
      by_cases hc : ∀ q, q < i → j ≤ q → (cr rs q).f0 ≠ (cr rs i).f0
      · rw [if_pos hc, if_pos (fun q h1 h2 => hc q h1 (by omega))]
      · rw [if_neg hc, if_neg (fun q => hc fun z h1 h2 => by
          rcases Nat.eq_or_lt_of_le h2 with rfl | h3
          · exact he
          · exact q z h1 h3)]
set_option maxRecDepth 100000 in
theorem check_l0 (rs : List S42) (st : Int) (hl : rs.length ≤ 256) (hb : ∀ i, i < rs.length → (cr rs i).f1.length ≤ 16384) (C : Nat) (hC : 17000 ≤ C) : ∀ (d k i : Nat), rs.length - i = d → d * 300 + C < k → i ≤ rs.length →
    dowelref09_Check.l0 k i rs st = some (if ∀ q, q < rs.length → i ≤ q → okAt rs q = true then 0 else 6)
  | 0, k, i, hd, hk, hi => by
    obtain ⟨k, rfl⟩ : ∃ m, k = m + 1 := ⟨k - 1, by omega⟩
    rw [dowelref09_Check.l0, if_neg (by omega), if_pos (fun q _ _ => by omega)]
  | d + 1, k, i, hd, hk, hi => by
    obtain ⟨k, rfl⟩ : ∃ m, k = m + 2 := ⟨k - 2, by omega⟩
    have hw : wrap64 ((i : Int) + 1) = ((i + 1 : Nat) : Int) := by rw [IntWalk.wrap64_in _ (by omega)]; rfl
    have hbi := hb i (by omega)
    have hno : okAt rs i = false → (if ∀ q, q < rs.length → i ≤ q → okAt rs q = true then (0 : Int) else 6) = 6 := fun h => if_neg fun q => by
      have := q i (by omega) (Nat.le_refl _)
      rw [h] at this
      cases this
    rw [dowelref09_Check.l0, if_pos (by omega), if_pos (by omega), rd_cr, name_f _ _ (by omega), Option.bind_some, body_f _ _ (by omega) _ (by omega), Option.bind_some]
    by_cases hn : nameOK (cr rs i).f0 = true
    · rw [if_pos hn, dowelref09_Check.j2]
      by_cases hg : goB rs.length (cr rs i).f1 0 = true
      · rw [if_neg (by simp [hg])]
        have H : ∀ m, d * 300 + C < m → dowelref09_Check.l0 m (wrap64 ((i : Int) + 1)) rs st = some (if ∀ q, q < rs.length → i + 1 ≤ q → okAt rs q = true then 0 else 6) := by
          intro m hm
          rw [hw]
          exact check_l0 rs st hl hb C hC d m (i + 1) (by omega) hm (by omega)
        have := check_l1 rs st i (by omega) (by omega) _ _ H i k 0 (by omega) (by omega) (by omega)
        rw [show ((0 : Nat) : Int) = 0 from rfl] at this
        rw [this]
        congr 1
        by_cases hd2 : ∀ q, q < i → 0 ≤ q → (cr rs q).f0 ≠ (cr rs i).f0
        · rw [if_pos hd2]
          have hok : okAt rs i = true := by
            rw [okAt, hn, hg, Bool.and_true, Bool.true_and]
            exact decide_eq_true fun q hq => hd2 q hq (Nat.zero_le _)
          by_cases hc : ∀ q, q < rs.length → i ≤ q → okAt rs q = true
          · rw [if_pos hc, if_pos (fun q h1 h2 => hc q h1 (by omega))]
          · rw [if_neg hc, if_neg (fun q => hc fun z h1 h2 => by
              rcases Nat.eq_or_lt_of_le h2 with rfl | h3
              · exact hok
              · exact q z h1 h3)]
        · rw [if_neg hd2, hno]
          rw [okAt, Bool.and_eq_false_iff]
          exact .inr (decide_eq_false fun q => hd2 fun z h1 _ => q z h1)
      · rw [if_pos (by simp [hg]), hno]
        rw [okAt, Bool.and_eq_false_iff, Bool.and_eq_false_iff]
        exact .inl (.inr (by simpa using hg))
    · rw [if_neg hn, dowelref09_Check.j2, if_pos rfl, hno]
      rw [okAt, Bool.and_eq_false_iff, Bool.and_eq_false_iff]
      exact .inl (.inl (by simpa using hn))
theorem chk_iff (rs : List S42) (st : Int) : chk rs st = true ↔ (1 ≤ rs.length ∧ rs.length ≤ 256 ∧ 0 ≤ st ∧ st < rs.length ∧ sz rs ≤ 16384) ∧ ∀ q, q < rs.length → okAt rs q = true := by
  rw [chk, Bool.and_eq_true, decide_eq_true_iff, List.all_eq_true]
  simp only [List.mem_range]
theorem cr_mem {rs : List S42} {i : Nat} (h : i < rs.length) : cr rs i ∈ rs := by
  rw [cr, List.getD_eq_getElem?_getD, List.getElem?_eq_getElem h]
  exact List.getElem_mem h
theorem check_f (rs : List S42) (st : Int) (hb : ∀ x ∈ rs, x.f1.length ≤ 140737488355328) (k : Nat) (hk : 100000 < k) : dowelref09_Check.f k rs st = some (if chk rs st = true then 0 else 6) := by
  obtain ⟨k, rfl⟩ : ∃ m, k = m + 1 := ⟨k - 1, by omega⟩
  have hno : ¬ (1 ≤ rs.length ∧ rs.length ≤ 256 ∧ 0 ≤ st ∧ st < rs.length ∧ sz rs ≤ 16384) → (if chk rs st = true then (0 : Int) else 6) = 6 := fun h => if_neg fun q => h ((chk_iff rs st).1 q).1
  have j0 : dowelref09_Check.j0 (k + 1) true rs st = some 6 := by rw [dowelref09_Check.j0, if_pos rfl]
  unfold dowelref09_Check.f
  by_cases h1 : (rs.length : Int) < 1
  · rw [if_pos h1, j0, hno (by omega)]
  · rw [if_neg h1]
    by_cases h2 : (rs.length : Int) > 256
    · rw [if_pos h2, j0, hno (by omega)]
    · rw [if_neg h2]
      by_cases h3 : st < 0
      · rw [if_pos h3, j0, hno (by omega)]
      · rw [if_neg h3]
        by_cases h4 : st ≥ rs.length
        · rw [if_pos h4, j0, hno (by omega)]
        · have := sz_le hb
          have : rs.length * 140737488355328 ≤ 4096 * 140737488355328 := Nat.mul_le_mul_right _ (by omega)
          rw [if_neg h4, size_f rs st (by omega) (by omega) _ (by omega), Option.bind_some, dowelref09_Check.j0]
          by_cases h5 : (sz rs : Int) > 16384
          · rw [if_pos (decide_eq_true h5), hno (by omega)]
          · rw [if_neg (by simpa using h5)]
            have hbi : ∀ i, i < rs.length → (cr rs i).f1.length ≤ 16384 := fun i hi => by
              have := sz_mem (cr_mem hi)
              omega
            have := check_l0 rs st (by omega) hbi 17000 (Nat.le_refl _) rs.length k 0 rfl (by omega) (Nat.zero_le _)
            rw [show ((0 : Nat) : Int) = 0 from rfl] at this
            rw [this]
            congr 1
            by_cases hc : chk rs st = true
            · rw [if_pos hc, if_pos (fun q hq _ => ((chk_iff rs st).1 hc).2 q hq)]
            · rw [if_neg hc, if_neg (fun q => hc ((chk_iff rs st).2 ⟨by omega, fun z hz => q z hz (Nat.zero_le _)⟩))]
/- What is right is good for the evaluation. -/
theorem arz_ar (op : Int) : arz op = ar op := rfl
theorem goB_run {N : Nat} {xs : List S47} (h : goB N xs 0 = true) : ∀ i, i ≤ xs.length → fits (xs.map cnOf) i ∧ (∀ j, j < i → nodeOK N (cd xs j) = true) ∧ goB N (xs.drop i) (istk (xs.map cnOf) i).length = true
  | 0, _ => ⟨fun j hj => by omega, fun j hj => by omega, by simpa [istk] using h⟩
  | i + 1, hi => by
    obtain ⟨h1, h2, h3⟩ := goB_run h i (by omega)
    rw [drop_cd (show i < xs.length by omega), goB, Bool.and_eq_true, Bool.and_eq_true, decide_eq_true_iff, arz_ar] at h3
    have hcn : cn (xs.map cnOf) i = cnOf (cd xs i) := cn_cd xs i (by omega)
    have hop : (cn (xs.map cnOf) i).op = (cd xs i).f0 := by rw [hcn]; rfl
    refine ⟨fun j hj => ?_, fun j hj => ?_, ?_⟩
    · rcases Nat.lt_succ_iff_lt_or_eq.1 hj with hj | rfl
      · exact h1 j hj
      · rw [hop]; exact h3.1.2
    · rcases Nat.lt_succ_iff_lt_or_eq.1 hj with hj | rfl
      · exact h2 j hj
      · exact h3.1.1
    · rw [istk, List.length_cons, List.length_drop, hop]
      have : (istk (xs.map cnOf) i).length - ar (cd xs i).f0 + 1 = (istk (xs.map cnOf) i).length + 1 - ar (cd xs i).f0 := by have := h3.1.2; omega
      rw [this]
      exact h3.2
theorem nodeOK_op {N : Nat} {x : S47} (h : nodeOK N x = true) : 0 ≤ x.f0 ∧ x.f0 ≤ 8 ∧ (x.f0 = 2 → 0 ≤ x.f2 ∧ x.f2 < N) ∧ 0 ≤ x.f2 := by
  rw [nodeOK, Bool.and_eq_true, decide_eq_true_iff] at h
  obtain ⟨⟨h1, h2, _, h4, h5⟩, _⟩ := h
  refine ⟨h1, h2, h4, ?_⟩
  by_cases e : x.f0 = 2
  · exact (h4 e).1
  · rw [h5 e]; exact Int.le_refl 0
theorem low_hd {N : Nat} {l : List T} (h : ∀ t ∈ l, low N t) : low N (hd l) := by
  cases l with
  | nil => trivial
  | cons a r => exact h a List.mem_cons_self
theorem low_mk {N : Nat} {x : S47} {a b : T} (h : nodeOK N x = true) (ha : low N a) (hb : low N b) : low N (mk (cnOf x) a b) := by
  obtain ⟨h1, h2, h3, _⟩ := nodeOK_op h
  unfold mk cnOf
  simp only
  repeat' split
  · trivial
  · trivial
  · have := h3 (by assumption)
    show x.f2.toNat < N
    omega
  · trivial
  · exact ⟨ha, hb⟩
  · exact ⟨ha, hb⟩
  · exact ha
  · exact ha
  · exact ha
theorem low_tstk {N : Nat} {xs : List S47} (h : ∀ j, j < xs.length → nodeOK N (cd xs j) = true) : ∀ i, i ≤ xs.length → ∀ t ∈ tstk (xs.map cnOf) i, low N t
  | 0, _, t, ht => by simp [tstk] at ht
  | i + 1, hi, t, ht => by
    have ih := low_tstk h i (by omega)
    have hcn : cn (xs.map cnOf) i = cnOf (cd xs i) := cn_cd xs i (by omega)
    have hd' : ∀ n t, t ∈ (tstk (xs.map cnOf) i).drop n → low N t := fun n t ht => ih t (List.mem_of_mem_drop ht)
    rw [tstk, push, hcn] at ht
    have hm := fun a b => low_mk (a := a) (b := b) (h i (by omega))
    split at ht
    · rcases List.mem_cons.1 ht with rfl | ht
      · exact hm _ _ (low_hd (hd' 1)) (low_hd ih)
      · exact hd' 2 t ht
    · split at ht
      · rcases List.mem_cons.1 ht with rfl | ht
        · exact hm _ _ (low_hd ih) trivial
        · exact hd' 1 t ht
      · rcases List.mem_cons.1 ht with rfl | ht
        · exact hm _ _ trivial trivial
        · exact ih t ht
theorem good_of {rs : List S42} {st : Int} (h : chk rs st = true) : Good rs := by
  obtain ⟨⟨h1, h2, h3, h4, h5⟩, h6⟩ := (chk_iff rs st).1 h
  have hg : ∀ i, i < rs.length → goB rs.length (cr rs i).f1 0 = true := fun i hi => by
    have := h6 i hi
    rw [okAt, Bool.and_eq_true, Bool.and_eq_true] at this
    exact this.1.2
  have hlen : ∀ i, i < rs.length → (cr rs i).f1.length ≤ 16384 := fun i hi => by
    have := sz_mem (cr_mem hi)
    omega
  have hone : ∀ i, i < rs.length → (istk (bod rs i) (cr rs i).f1.length).length = 1 := fun i hi => by
    have := (goB_run (hg i hi) (cr rs i).f1.length (Nat.le_refl _)).2.2
    rw [List.drop_of_length_le (Nat.le_refl _), goB, decide_eq_true_iff] at this
    exact this
  refine ⟨⟨by omega, by omega⟩, fun i hi => by have := hlen i hi; omega, fun i hi => (goB_run (hg i hi) _ (Nat.le_refl _)).1, hone, fun i hi j hj => ?_, fun i hi => ?_⟩
  · have := nodeOK_op ((goB_run (hg i hi) _ (Nat.le_refl _)).2.1 j hj)
    exact ⟨this.1, this.2.1, this.2.2.2⟩
  · rw [tre, tr]
    have hpos : 0 < (cr rs i).f1.length := by
      rcases Nat.eq_zero_or_pos (cr rs i).f1.length with h0 | h0
      · have := hone i hi
        rw [h0] at this
        simp [istk] at this
      · exact h0
    rw [show (cr rs i).f1.length - 1 + 1 = (cr rs i).f1.length by omega]
    exact low_hd (low_tstk (goB_run (hg i hi) _ (Nat.le_refl _)).2.1 _ (Nat.le_refl _))
end Go.Proofs.YtmpkkphohilkoaaDoor.B
/- core.Check, walked. -/
namespace Go.Proofs.YtmpkkphohilkoaaDoor.B
open Go Go.RowKit Go.X Go.Ma Go.Proofs.YtmpkkphohilkoaaDoorW.PrintWords Go.Proofs.YtmpkkphohilkoaaDoorW.PrintLast Go.Proofs.YtmpkkphohilkoaaDoorW.PrintMore Go.Proofs.YtmpkkphohilkoaaDoor.F Go.Proofs.YtmpkkphohilkoaaDoor.Nm Go.Maps
set_option linter.unusedSimpArgs false

/-- The names that were met, each with its rule's number. -/
def nmD (rs : List S42) : Nat → DataW Unit
  | 0 => .map []
  | i + 1 => (nmD rs i).put (.string (cr rs i).f0.data.toList) (.lit (.int .i64 (i : Int)))
def chkI (rs : List S42) (start : Int) : Int := if chk rs start = true then 0 else 6
theorem chkI_no {rs : List S42} {start : Int} (h : ¬ ((1 ≤ rs.length ∧ rs.length ≤ 256 ∧ 0 ≤ start ∧ start < rs.length ∧ sz rs ≤ 16384) ∧ ∀ q, q < rs.length → okAt rs q = true)) : chkI rs start = 6 := if_neg fun q => h ((chk_iff rs start).1 q)
def ChkPost (rs : List S42) (start : Int) (w : World) (e : Ending) (w' : World) : Prop := e = .returned (.int .i64 (chkI rs start)) ∧ Below w.heap.size w w'
theorem law9 : Keyed Tryd.prog 9 := string_keyed Tryd.underlying9
theorem zero3 (w : World) : (zeroValue 3).run Tryd.prog w = .ok (.int .i64 0) w := by kernel_rfl
theorem nmD_map (rs : List S42) : ∀ i, IsMap (nmD rs i)
  | 0 => isMap_empty
  | i + 1 => (nmD_map rs i).put _ _
theorem nmD_has (rs : List S42) (s : ByteArray) (hs : ∀ q, (cr rs q).f0.size ≤ maxLen) : ∀ i, has (nmD rs i) (.string s.data.toList) = decide (∃ q, q < i ∧ (cr rs q).f0 = s)
  | 0 => by
    symm
    rw [nmD, has_eq, decide_eq_false_iff_not.2 (fun ⟨q, hq, _⟩ => by omega)]
    rfl
  | i + 1 => by
    have ih := nmD_has rs s hs i
    rw [nmD]
    by_cases h : (cr rs i).f0 = s
    · rw [← h, has_put_same (nmD_map rs i) (law9.key (WideMaps.keyOf_string_mk (P := Tryd.prog) Tryd.underlying9 (hs _)))]
      exact (decide_eq_true ⟨i, Nat.lt_succ_self i, rfl⟩).symm
    · rw [has_put_other (fun e => h (by injection e with e; exact (Go.WideShapes.bytes_inj e).symm)), ih]
      by_cases h2 : ∃ q, q < i ∧ (cr rs q).f0 = s
      · rw [decide_eq_true h2]
        obtain ⟨q, hq, he⟩ := h2
        exact (decide_eq_true ⟨q, by omega, he⟩).symm
      · rw [decide_eq_false h2]
        refine (decide_eq_false fun ⟨q, hq, he⟩ => ?_).symm
        rcases Nat.lt_succ_iff_lt_or_eq.1 hq with hq | rfl
        · exact h2 ⟨q, hq, he⟩
        · exact h he
/-- Within the loop. -/
structure CL (Ar : Option Addr) (c : Nat) (start : Int) (rs : List S42) (mb : Nat) (w wr : World) (i : Nat) : Prop where
  bel : Below w.heap.size w wr
  box : Blk wr w.heap.size 24 [.slice Ar rs.length c, .int .i64 start]
  own : wr.ownsMap Tryd.prog 9 (plainElem Tryd.prog 3) mb i (nmD rs i)
  lo : w.heap.size < mb
  ok : ∀ q, q < i → okAt rs q = true
theorem CL.grown {Ar : Option Addr} {c : Nat} {start : Int} {rs : List S42} {mb : Nat} {w wr w' : World} {i : Nat} (h : CL Ar c start rs mb w wr i) (hg : wr.grownBy w' none) : CL Ar c start rs mb w w' i :=
  ⟨h.bel.grown hg h.bel.size (by simp), h.box.grown hg (by simp), h.own.kept hg (by simp), h.lo, h.ok⟩
theorem CL.next {Ar : Option Addr} {c : Nat} {start : Int} {rs : List S42} {mb : Nat} {w wr w' : World} {i : Nat} (h : CL Ar c start rs mb w wr i) (hg : wr.grownBy w' (some mb)) (ho : w'.ownsMap Tryd.prog 9 (plainElem Tryd.prog 3) mb (i + 1) (nmD rs (i + 1))) (hk : okAt rs i = true) : CL Ar c start rs mb w w' (i + 1) :=
  ⟨h.bel.grown hg h.bel.size (fun k hk => by injection hk with hk; have := h.lo; omega), h.box.grown hg (by have := h.lo; intro e; injection e with e; omega), ho, h.lo, fun q hq => by
    rcases Nat.lt_succ_iff_lt_or_eq.1 hq with hq | rfl
    · exact h.ok q hq
    · exact hk⟩
set_option maxRecDepth 100000 in
set_option maxHeartbeats 4000000 in
theorem coreCheck_no (Ar : Option Addr) (c : Nat) (start : Int) (rs : List S42) (w : World) (hno : ¬ (1 ≤ rs.length ∧ rs.length ≤ 256 ∧ 0 ≤ start ∧ start < rs.length)) :
    Calls Tryd.prog 16 #[.agg #[.slice Ar rs.length c, .int .i64 start]] w (ChkPost rs start w) := by
  have HA : Hid (Below w.heap.size w (w.alloc (.cells #[.slice Ar rs.length c, .int .i64 start] 24)) ∧ Blk (w.alloc (.cells #[.slice Ar rs.length c, .int .i64 start] 24)) w.heap.size 24 [.slice Ar rs.length c, .int .i64 start]) :=
    ⟨(Below.refl _ w).alloc (Nat.le_refl _) _, Blk.alloc w _ _⟩
  by_cases h1 : rs.length < 1
  · have h1' : (rs.length : Int) < 1 := by omega
    have HV : Hid (chkI rs start = 6) := chkI_no (by omega)
    go_enter Tryd.func16, Tryd.ntmps16
    go_wp2
    go_ret
    exact ⟨congrArg (fun z => Ending.returned (Value.int .i64 z)) HV.out.symm, HA.out.1⟩
  have h1' : ¬ (rs.length : Int) < 1 := by omega
  by_cases h2 : 256 < rs.length
  · have h2' : (256 : Int) < (rs.length : Int) := by omega
    have HV : Hid (chkI rs start = 6) := chkI_no (by omega)
    go_enter Tryd.func16, Tryd.ntmps16
    go_wp2
    go_ret
    exact ⟨congrArg (fun z => Ending.returned (Value.int .i64 z)) HV.out.symm, HA.out.1⟩
  have h2' : ¬ (256 : Int) < (rs.length : Int) := by omega
  by_cases h3 : start < 0
  · have HV : Hid (chkI rs start = 6) := chkI_no (by omega)
    go_enter Tryd.func16, Tryd.ntmps16
    go_wp2
    go_ret
    exact ⟨congrArg (fun z => Ending.returned (Value.int .i64 z)) HV.out.symm, HA.out.1⟩
  by_cases h4 : (rs.length : Int) ≤ start
  · have HV : Hid (chkI rs start = 6) := chkI_no (by omega)
    go_enter Tryd.func16, Tryd.ntmps16
    go_wp2
    go_ret
    exact ⟨congrArg (fun z => Ending.returned (Value.int .i64 z)) HV.out.symm, HA.out.1⟩
  exact absurd ⟨by omega, by omega, by omega, by omega⟩ hno
set_option maxRecDepth 100000 in
set_option maxHeartbeats 4000000 in
theorem coreCheck_yes (Ar : Option Addr) (c : Nat) (start : Int) (rs : List S42) (w : World) (hr : Kd.C k42 w Ar rs.length rs) (hc : rs.length ≤ c) (hb : ∀ x ∈ rs, x.f1.length ≤ 140737488355328 ∧ x.f0.size ≤ 140737488355328) (hy : 1 ≤ rs.length ∧ rs.length ≤ 256 ∧ 0 ≤ start ∧ start < rs.length) :
    Calls Tryd.prog 16 #[.agg #[.slice Ar rs.length c, .int .i64 start]] w (ChkPost rs start w) := by
  have HR := Lib.hid hr; clear hr
  have HC := Lib.hid hc; clear hc
  have HB := Lib.hid hb; clear hb
  have HA : Hid (Below w.heap.size w (w.alloc (.cells #[.slice Ar rs.length c, .int .i64 start] 24)) ∧ Blk (w.alloc (.cells #[.slice Ar rs.length c, .int .i64 start] 24)) w.heap.size 24 [.slice Ar rs.length c, .int .i64 start]) :=
    ⟨(Below.refl _ w).alloc (Nat.le_refl _) _, Blk.alloc w _ _⟩
  have HN := Lib.hid hy
  have h1' : ¬ (rs.length : Int) < 1 := by omega
  have h2' : ¬ (256 : Int) < (rs.length : Int) := by omega
  have h3 : ¬ start < 0 := by omega
  have h4 : ¬ (rs.length : Int) ≤ start := by omega
  clear hy
  have hmm := @run_makeMap Tryd.prog
  go_enter Tryd.func16, Tryd.ntmps16
  go_wp2_with (fail)
  generalize w.alloc (.cells #[.slice Ar rs.length c, .int .i64 start] 24) = wa at *
  refine (core_Size.calls 300 Ar c rs start (sz rs) wa (Kd.C_below HR.out HA.out.1) HC.out (csize_f rs start (by
    have := sz_le (fun x hx => (HB.out x hx).1)
    have : rs.length * 140737488355328 ≤ 256 * 140737488355328 := Nat.mul_le_mul_right _ HN.out.2.1
    omega) (by have := HN.out; omega) _ (by have := HN.out; omega))).mono ?_
  rintro e w1 ⟨rfl, hbw⟩
  have HA1 : Hid (Below w.heap.size w w1 ∧ Blk w1 w.heap.size 24 [.slice Ar rs.length c, .int .i64 start]) :=
    ⟨HA.out.1.trans (hbw.mono HA.out.1.size), HA.out.2.below hbw HA.out.2.lt⟩
  clear hbw HA
  dsimp only
  by_cases h5 : (16384 : Int) < (sz rs : Int)
  · have HV : Hid (chkI rs start = 6) := chkI_no (by omega)
    go_wp2
    go_ret
    exact ⟨congrArg (fun z => Ending.returned (Value.int .i64 z)) HV.out.symm, HA1.out.1⟩
  have HS : Hid (sz rs ≤ 16384) := by show _ ≤ _; omega
  clear h1' h2' h3 h4
  have HL : ∀ wm : World, wm = w1.alloc (.map #[] 0) → Hid (CL Ar c start rs w1.heap.size w wm 0) := by
    rintro wm rfl
    exact ⟨HA1.out.1.alloc HA1.out.1.size _, by
      have := HA1.out.2.grown (World.grownBy_alloc w1 (.map #[] 0) none) (by simp)
      exact this, World.ownsMap_made _ _ _ _, HA1.out.2.lt, fun q hq => by omega⟩
  have a0 : (w1.alloc (.map #[] 0)).cell? ⟨w.heap.size, 0, none⟩ = some (.slice Ar rs.length c) := (HL _ rfl).out.box.cell 0
  go_wp2_with (fail)
  clear a0
  generalize hwm : w1.alloc (.map #[] 0) = wm
  have HL0 := HL wm hwm.symm
  clear HL hwm HA1
  generalize w1.heap.size = mb at *
  clear hmm
  go_loopg [40] rs.length (fun q v40 wr => ∃ i : Nat, Hid (i ≤ rs.length ∧ q = rs.length - i) ∧ v40 = .int .i64 (i : Nat) ∧ Hid (CL Ar c start rs mb w wr i))
  case atStart => exact ⟨0, ⟨Nat.zero_le _, rfl⟩, rfl, HL0.out⟩
  case round =>
    clear HL0
    obtain ⟨i, HI, rfl, HR1⟩ := hrel
    by_cases hlt : i < rs.length
    · obtain ⟨ad, A1, c1, eA, e0, e1, hl1, hc1⟩ := cr_at (Kd.C_below HR.out HR1.out.bel) i hlt
      subst eA
      have hi0 : (0 : Int) ≤ (i : Int) := Int.natCast_nonneg _
      have hi1 : (i : Int) < (rs.length : Int) := Int.ofNat_lt.2 hlt
      have HX := HB.out _ (cr_mem hlt)
      have HXX := Lib.hid HX
      clear HX
      have hkey := WideMaps.keyOf_string_mk (P := Tryd.prog) Tryd.underlying9 (s := (cr rs i).f0) (by have := HXX.out; simp only [maxLen]; omega)
      have HNM := Lib.hid (nmD_has rs (cr rs i).f0 (fun q => by
        by_cases hq : q < rs.length
        · have := (HB.out _ (cr_mem hq)).2; simp only [maxLen]; omega
        · rw [cr, List.getD_eq_getElem?_getD, List.getElem?_eq_none (by omega)]; exact Nat.zero_le _) i)
      have HK : ∀ wk : World, wk = wr.alloc (.cells #[.string (cr rs i).f0, .slice A1 (cr rs i).f1.length c1] 42) → Hid (CL (some ad) c start rs mb w wk i ∧ Blk wk wr.heap.size 42 [.string (cr rs i).f0, .slice A1 (cr rs i).f1.length c1] ∧ Kd.C k47 wk A1 (cr rs i).f1.length (cr rs i).f1) := by
        rintro wk rfl
        exact ⟨HR1.out.grown (World.grownBy_alloc wr _ none), Blk.alloc wr _ _, Kd.C_below hc1 ((Below.refl _ _).alloc (Nat.le_refl _) _)⟩
      by_cases ht : has (nmD rs i) (.string (cr rs i).f0.data.toList) = true
      · have HV : Hid (chkI rs start = 6) := chkI_no (fun q => by
          have h1 := q.2 i hlt
          rw [okAt, Bool.and_eq_true, decide_eq_true_iff] at h1
          rw [HNM.out, decide_eq_true_iff] at ht
          obtain ⟨z, hz, he⟩ := ht
          exact h1.2 z hz he)
        go_wp2_with (first
          | (at_lookup; refine wpList_lookup_own_ok_int _ rfl _ _ 64 rfl 9 3 .i64 law9 Tryd.underlying64 Tryd.underlying3 (zero3 _) mb i (nmD rs i) rfl (HR1.out.own.alloc _) _ _ rfl hkey ?_; intro cL hat hwc; rw [ht]; clear hat hwc)
          | fail)
        go_ret
        exact ⟨congrArg (fun z => Ending.returned (Value.int .i64 z)) HV.out.symm, (HK _ rfl).out.1.bel⟩
      · have ht' : has (nmD rs i) (.string (cr rs i).f0.data.toList) = false := by simpa using ht
        clear ht
        go_wp2_with (first
          | (at_lookup; refine wpList_lookup_own_ok_int _ rfl _ _ 64 rfl 9 3 .i64 law9 Tryd.underlying64 Tryd.underlying3 (zero3 _) mb i (nmD rs i) rfl (HR1.out.own.alloc _) _ _ rfl hkey ?_; intro cL hat hwc; rw [ht']; clear hat hwc)
          | fail)
        generalize hwk : wr.alloc (.cells #[.string (cr rs i).f0, .slice A1 (cr rs i).f1.length c1] 42) = wk
        have HK1 := HK wk hwk.symm
        clear HK hwk
        generalize wr.heap.size = bx at *
        refine (name.calls (cr rs i).f0 wk).mono ?_
        rintro e w2 ⟨rfl, rfl⟩
        dsimp only
        by_cases hn : nameOK (cr rs i).f0 = true
        · have b1 : w2.cell? ⟨bx, 1, none⟩ = some (.slice A1 (cr rs i).f1.length c1) := HK1.out.2.1.cell 1
          have a0 : w2.cell? ⟨w.heap.size, 0, none⟩ = some (.slice (some ad) rs.length c) := HK1.out.1.box.cell 0
          go_wp2_with (fail)
          clear a0 b1
          refine (core_right.calls (5 * (cr rs i).f1.length + 100) A1 c1 (cr rs i).f1 rs.length _ w2 HK1.out.2.2 hl1 (right_f rs.length _ (by have := HS.out; have := sz_mem (cr_mem hlt); omega) _ (by omega))).mono ?_
          rintro e w3 ⟨rfl, hbw⟩
          have HK3 : Hid (CL (some ad) c start rs mb w w3 i ∧ Blk w3 bx 42 [.string (cr rs i).f0, .slice A1 (cr rs i).f1.length c1]) :=
            ⟨HK1.out.1.grown (X.grown_of_below hbw none), HK1.out.2.1.below hbw HK1.out.2.1.lt⟩
          clear hbw HK1
          dsimp only
          by_cases hg : goB rs.length (cr rs i).f1 0 = true
          · have b0 : w3.cell? ⟨bx, 0, none⟩ = some (.string (cr rs i).f0) := HK3.out.2.cell 0
            have HOK : Hid (okAt rs i = true) := by
              show _ = _
              rw [okAt, hn, hg, Bool.and_true, Bool.true_and, decide_eq_true_iff]
              intro z hz he
              have := HNM.out
              rw [ht'] at this
              exact of_decide_eq_false this.symm ⟨z, hz, he⟩
            have HWF : Hid ((Lit.int .i64 (i : Int)).wf = true) := WalkArith.wf_i64 (by have := HN.out; omega)
            rw [hg]
            go_wp2_with (first
              | (at_mapUpdate; refine wpList_mapUpdate_own _ rfl _ _ _ 64 rfl 9 3 law9 Tryd.underlying64 _ mb i _ rfl HK3.out.1.own (by have := HN.out; simp only [maxLen]; omega) _ _ _ rfl rfl hkey _ [] (plainElem_int Tryd.underlying3 HWF.out) ?_; intro w4 hown4 hgrow4)
              | fail)
            have HK4 : Hid (CL (some ad) c start rs mb w w4 (i + 1)) := HK3.out.1.next hgrow4 hown4 HOK.out
            clear hown4 hgrow4 HK3 b0 HR1
            have hwi : wrap64 ((i : Int) + 1) = ((i + 1 : Nat) : Int) := by have := HN.out; rw [IntWalk.wrap64_in _ (by omega)]; rfl
            go_wp2
            go_roundg (rs.length - (i + 1))
            case measure => have := HI.out.2; omega
            case rel => exact ⟨i + 1, ⟨hlt, rfl⟩, by go_num, HK4.out⟩
          · have hg' : goB rs.length (cr rs i).f1 0 = false := by simpa using hg
            have HV : Hid (chkI rs start = 6) := chkI_no (fun q => by
              have h1 := q.2 i hlt
              rw [okAt, hg', Bool.and_false, Bool.false_and] at h1
              cases h1)
            rw [hg']
            go_wp2
            go_ret
            exact ⟨congrArg (fun z => Ending.returned (Value.int .i64 z)) HV.out.symm, HK3.out.1.bel⟩
        · have hn' : nameOK (cr rs i).f0 = false := by simpa using hn
          have HV : Hid (chkI rs start = 6) := chkI_no (fun q => by
            have h1 := q.2 i hlt
            rw [okAt, hn', Bool.false_and, Bool.false_and] at h1
            cases h1)
          rw [hn']
          go_wp2
          go_ret
          exact ⟨congrArg (fun z => Ending.returned (Value.int .i64 z)) HV.out.symm, HK1.out.1.bel⟩
    · have HV : Hid (chkI rs start = 0) := by
        have h1 := HI.out
        obtain rfl : i = rs.length := by omega
        exact if_pos ((chk_iff rs start).2 ⟨⟨HN.out.1, HN.out.2.1, HN.out.2.2.1, HN.out.2.2.2, HS.out⟩, HR1.out.ok⟩)
      go_wp2
      go_ret
      exact ⟨congrArg (fun z => Ending.returned (Value.int .i64 z)) HV.out.symm, HR1.out.bel⟩
theorem coreCheck.calls (Ar : Option Addr) (c : Nat) (start : Int) (rs : List S42) (w : World) (hr : Kd.C k42 w Ar rs.length rs) (hc : rs.length ≤ c) (hb : ∀ x ∈ rs, x.f1.length ≤ 140737488355328 ∧ x.f0.size ≤ 140737488355328) :
    Calls Tryd.prog 16 #[.agg #[.slice Ar rs.length c, .int .i64 start]] w (ChkPost rs start w) := by
  by_cases h : 1 ≤ rs.length ∧ rs.length ≤ 256 ∧ 0 ≤ start ∧ start < rs.length
  · exact coreCheck_yes Ar c start rs w hr hc hb h
  · exact coreCheck_no Ar c start rs w h
end Go.Proofs.YtmpkkphohilkoaaDoor.B
/- match.Run and match.At, walked (printed by wip/tools/genrun.py). -/
namespace Go.Proofs.YtmpkkphohilkoaaDoor.B
open Go Go.RowKit Go.X Go.Ma Go.Proofs.YtmpkkphohilkoaaDoorW.PrintWords Go.Proofs.YtmpkkphohilkoaaDoor.F

/-- What At answers. -/
def atAns (rs : List S42) (start rule : Int) (inp : ByteArray) (at_ D S : Int) : Res × St :=
  if chk rs start = true then
    if 0 ≤ rule ∧ rule < rs.length then
      if inp.size ≤ 65536 then
        if 0 ≤ at_ ∧ at_ ≤ inp.size then runOf rs inp rule.toNat at_.toNat D S else (.zero, ⟨0, 0, 5⟩)
      else (.zero, ⟨0, 0, 1⟩)
    else (.zero, ⟨0, 0, 5⟩)
  else (.zero, ⟨0, 0, 6⟩)
theorem atAns_shape {rs : List S42} {start rule : Int} {inp : ByteArray} {at_ D S : Int} (h : chk rs start = false) : atAns rs start rule inp at_ D S = (.zero, ⟨0, 0, 6⟩) := by
  rw [atAns, if_neg (by rw [h]; decide)]
theorem atAns_long {rs : List S42} {start rule : Int} {inp : ByteArray} {at_ D S : Int} (h : chk rs start = true) (h1 : 0 ≤ rule ∧ rule < rs.length) (h2 : ¬ inp.size ≤ 65536) : atAns rs start rule inp at_ D S = (.zero, ⟨0, 0, 1⟩) := by
  rw [atAns, if_pos h, if_pos h1, if_neg h2]
theorem atAns_run {rs : List S42} {start : Int} {inp : ByteArray} {D S : Int} {r p : Nat} (h : chk rs start = true) (h1 : r < rs.length) (h2 : inp.size ≤ 65536) (h3 : p ≤ inp.size) : atAns rs start (r : Nat) inp (p : Nat) D S = runOf rs inp r p D S := by
  rw [atAns, if_pos h, if_pos (by omega), if_pos h2, if_pos (by omega)]
  rfl
theorem nochk {rs : List S42} {start : Int} (h : ¬ chk rs start = true) : chk rs start = false := by simpa using h
theorem chkI_of {rs : List S42} {start : Int} (h : chk rs start = true) : chkI rs start = 0 := if_pos h
theorem chkI_off {rs : List S42} {start : Int} (h : chk rs start = false) : chkI rs start = 6 := if_neg (by rw [h]; decide)
/-- Within a run: the boxes and the result's blocks. -/
structure E4 (w wr : World) (Ar : Option Addr) (N c : Nat) (start D S : Int) : Prop where
  bel : Below w.heap.size w wr
  b0 : Blk wr w.heap.size 24 [.slice Ar N c, .int .i64 start]
  b1 : Blk wr (w.heap.size + 1) 26 [.int .i64 D, .int .i64 S]
  b2 : Blk wr (w.heap.size + 1 + 1) 31 (rsC 0 0 ⟨#[]⟩ (.slice none 0 0))
  b3 : Blk wr (w.heap.size + 1 + 1 + 1) 32 [.int .i64 0, .int .i64 0]
def start4 (w : World) (Ar : Option Addr) (N c : Nat) (start D S : Int) : World := (((w.alloc (.cells #[.slice Ar N c, .int .i64 start] 24)).alloc (.cells #[.int .i64 D, .int .i64 S] 26)).alloc (.cells #[.int .i64 0, .int .i64 0, .string ⟨#[]⟩, .slice none 0 0] 31)).alloc (.cells #[.int .i64 0, .int .i64 0] 32)
theorem E4.start (w : World) (Ar : Option Addr) (N c : Nat) (start D S : Int) : E4 w (start4 w Ar N c start D S) Ar N c start D S := by
  unfold start4
  generalize hw1 : w.alloc (.cells #[.slice Ar N c, .int .i64 start] 24) = w1
  have z1 : w1.heap.size = w.heap.size + 1 := by rw [← hw1]; simp
  have g1 : Below w.heap.size w w1 ∧ Blk w1 w.heap.size 24 [.slice Ar N c, .int .i64 start] := by rw [← hw1]; exact ⟨(Below.refl _ w).alloc (Nat.le_refl _) _, Blk.alloc w _ _⟩
  generalize hw2 : w1.alloc (.cells #[.int .i64 D, .int .i64 S] 26) = w2
  have z2 : w2.heap.size = w.heap.size + 1 + 1 := by rw [← hw2]; simp [z1]
  have g2 : w1.grownBy w2 none := by rw [← hw2]; exact World.grownBy_alloc _ _ none
  have k2 : Blk w2 (w.heap.size + 1) 26 [.int .i64 D, .int .i64 S] := by rw [← hw2, ← z1]; exact Blk.alloc w1 _ _
  generalize hw3 : w2.alloc (.cells #[.int .i64 0, .int .i64 0, .string ⟨#[]⟩, .slice none 0 0] 31) = w3
  have z3 : w3.heap.size = w.heap.size + 1 + 1 + 1 := by rw [← hw3]; simp [z2]
  have g3 : w2.grownBy w3 none := by rw [← hw3]; exact World.grownBy_alloc _ _ none
  have k3 : Blk w3 (w.heap.size + 1 + 1) 31 (rsC 0 0 ⟨#[]⟩ (.slice none 0 0)) := by rw [← hw3, ← z2]; exact Blk.alloc w2 _ _
  have g4 := World.grownBy_alloc w3 (.cells #[.int .i64 0, .int .i64 0] 32) none
  have k4 := Blk.alloc w3 #[.int .i64 0, .int .i64 0] 32
  rw [z3] at k4
  have g := Fr4.grown2 (Fr4.grown2 g2 g3) g4
  exact ⟨g1.1.grown g g1.1.size (fun k hk => by cases hk), g1.2.grown g (by simp), k2.grown (Fr4.grown2 g3 g4) (by simp), k3.grown g4 (by simp), k4⟩
theorem E4.below {w wr w' : World} {Ar : Option Addr} {N c : Nat} {start D S : Int} (h : E4 w wr Ar N c start D S) (hb : Below wr.heap.size wr w') : E4 w w' Ar N c start D S :=
  ⟨h.bel.trans (hb.mono h.bel.size), h.b0.below hb h.b0.lt, h.b1.below hb h.b1.lt, h.b2.below hb h.b2.lt, h.b3.below hb h.b3.lt⟩
def put42 (w : World) (b : Nat) (x0 x1 x2 x3 y0 y1 : Value) : World := set2 (set4 w b x0 x1 x2 x3) (b + 1) y0 y1
theorem E4.fin {w wr wz : World} {Ar : Option Addr} {N c : Nat} {start D S : Int} {v x0 x1 x2 x3 y0 y1 : Value} {F : List Cap} (h : E4 w wr Ar N c start D S) (ho : OwnF wr w.heap.size v F) (hwz : wz = put42 wr (w.heap.size + 1 + 1) x0 x1 x2 x3 y0 y1) :
    Below w.heap.size w wz ∧ OwnF wz w.heap.size v F ∧ Blk wz (w.heap.size + 1 + 1) 31 [x0, x1, x2, x3] ∧ Blk wz (w.heap.size + 1 + 1 + 1) 32 [y0, y1] := by
  subst hwz
  unfold put42
  have s1 := set4_grown wr (w.heap.size + 1 + 1) x0 x1 x2 x3
  have k1 := set4_blk (x0 := x0) (x1 := x1) (x2 := x2) (x3 := x3) h.b2
  have k2 := h.b3.grown s1 (by intro e; injection e with e; omega)
  have s2 : (set4 wr (w.heap.size + 1 + 1) x0 x1 x2 x3).grownBy (set2 (set4 wr (w.heap.size + 1 + 1) x0 x1 x2 x3) (w.heap.size + 1 + 1 + 1) y0 y1) (some (w.heap.size + 1 + 1 + 1)) := Fr4.grown2 (grown_setCell _ _ _) (grown_setCell _ _ _)
  have k3 : Blk (set2 (set4 wr (w.heap.size + 1 + 1) x0 x1 x2 x3) (w.heap.size + 1 + 1 + 1) y0 y1) (w.heap.size + 1 + 1 + 1) 32 [y0, y1] := (k2.setCell 0 y0).setCell 1 y1
  have k4 := k1.grown s2 (by intro e; injection e with e; omega)
  have b1 := (h.bel.grown s1 h.bel.size (fun k hk => by injection hk with hk; omega)).grown s2 (by have := s1.size; have := h.bel.size; omega) (fun k hk => by injection hk with hk; omega)
  exact ⟨b1, (ho.kept s1 h.b2 (by decide)).kept s2 k2 (by decide), k4, k3⟩
theorem runAns_zero {w wz : World} {er : Int} (he : er ≠ 0) (hb : Below w.heap.size w wz) : RunAns w (.zero, ⟨0, 0, er⟩) (.returned (tupC 0 0 ⟨#[]⟩ (.slice none 0 0) 0 0 er)) wz := by
  refine ⟨.slice none 0 0, ?_, hb, ?_⟩
  · simp only [ansRes, ansSt, if_neg he]
    rfl
  · simp only [ansRes, if_neg he]
    exact OwnF.nil _ _
theorem runAns_of {w wz : World} {x : Res × St} {v : Value} (hb : Below w.heap.size w wz) (ho : OwnF wz w.heap.size v (ansRes x).forest) : RunAns w x (.returned (tupC (ansRes x).kind (ansRes x).en (ansRes x).label v (ansSt x).depth (ansSt x).steps (ansSt x).err)) wz :=
  ⟨v, rfl, hb, ho⟩
set_option maxRecDepth 100000 in
set_option maxHeartbeats 4000000 in
theorem mrun.calls (Ar : Option Addr) (c : Nat) (start : Int) (rs : List S42) (inp : ByteArray) (D S : Int) (w : World) (hr : Kd.C k42 w Ar rs.length rs) (hc : rs.length ≤ c) (hb : ∀ x ∈ rs, x.f1.length ≤ 140737488355328 ∧ x.f0.size ≤ 140737488355328) :
    Calls Tryd.prog 8 #[.agg #[.slice Ar rs.length c, .int .i64 start], .string inp, .agg #[.int .i64 D, .int .i64 S]] w (RunAns w (atAns rs start start inp 0 D S)) := by
  have HR := Lib.hid hr; clear hr
  have HC := Lib.hid hc; clear hc
  have HBB := Lib.hid hb; clear hb
  have HA := Lib.hid (E4.start w Ar rs.length c start D S)
  go_enter Tryd.func8, Tryd.ntmps8
  go_wp2_with (fail)
  have hwa0 : start4 w Ar rs.length c start D S = (((w.alloc (.cells #[.slice Ar rs.length c, .int .i64 start] 24)).alloc (.cells #[.int .i64 D, .int .i64 S] 26)).alloc (.cells #[.int .i64 0, .int .i64 0, .string ⟨#[]⟩, .slice none 0 0] 31)).alloc (.cells #[.int .i64 0, .int .i64 0] 32) := rfl
  rw [hwa0] at HA
  clear hwa0
  generalize (((w.alloc (.cells #[.slice Ar rs.length c, .int .i64 start] 24)).alloc (.cells #[.int .i64 D, .int .i64 S] 26)).alloc (.cells #[.int .i64 0, .int .i64 0, .string ⟨#[]⟩, .slice none 0 0] 31)).alloc (.cells #[.int .i64 0, .int .i64 0] 32) = wa at *
  refine (coreCheck.calls Ar c start rs wa (Kd.C_below HR.out HA.out.bel) HC.out HBB.out).mono ?_
  rintro e w1 ⟨rfl, hbw⟩
  have HB : Hid (E4 w w1 Ar rs.length c start D S) := HA.out.below hbw
  clear hbw HA
  dsimp only
  have s0 : w1.cell? ⟨w.heap.size + 1 + 1, 0, none⟩ = some (.int .i64 0) := HB.out.b2.cell 0
  have s1 : w1.cell? ⟨w.heap.size + 1 + 1, 1, none⟩ = some (.int .i64 0) := HB.out.b2.cell 1
  have s2 : w1.cell? ⟨w.heap.size + 1 + 1, 2, none⟩ = some (.string ⟨#[]⟩) := HB.out.b2.cell 2
  have s3 : w1.cell? ⟨w.heap.size + 1 + 1, 3, none⟩ = some (.slice none 0 0) := HB.out.b2.cell 3
  have t0 : w1.cell? ⟨w.heap.size + 1 + 1 + 1, 0, none⟩ = some (.int .i64 0) := HB.out.b3.cell 0
  have t1 : w1.cell? ⟨w.heap.size + 1 + 1 + 1, 1, none⟩ = some (.int .i64 0) := HB.out.b3.cell 1
  have f0 := HB.out.b2.frozen 0
  have f1 := HB.out.b2.frozen 1
  have f2 := HB.out.b2.frozen 2
  have f3 := HB.out.b2.frozen 3
  have g0 := HB.out.b3.frozen 0
  have g1 := HB.out.b3.frozen 1
  by_cases hk : chk rs start = true
  · rw [chkI_of hk]
    have HCK := Lib.hid hk
    have HS : Hid (0 ≤ start ∧ start < rs.length ∧ rs.length ≤ 256) := by
      have := ((chk_iff rs start).1 hk).1
      exact ⟨this.2.2.1, this.2.2.2.1, this.2.1⟩
    have HG := Lib.hid (good_of hk)
    clear hk
    have a0 : w1.cell? ⟨w.heap.size, 0, none⟩ = some (.slice Ar rs.length c) := HB.out.b0.cell 0
    have a1 : w1.cell? ⟨w.heap.size, 1, none⟩ = some (.int .i64 start) := HB.out.b0.cell 1
    have d0 : w1.cell? ⟨w.heap.size + 1, 0, none⟩ = some (.int .i64 D) := HB.out.b1.cell 0
    have d1 : w1.cell? ⟨w.heap.size + 1, 1, none⟩ = some (.int .i64 S) := HB.out.b1.cell 1
    have HRU : Hid (0 ≤ start ∧ start < rs.length) := ⟨HS.out.1, HS.out.2.1⟩
    by_cases hl : (65536 : Int) < (inp.size : Int)
    · have HV : Hid (atAns rs start start inp 0 D S = (.zero, ⟨0, 0, 1⟩)) := atAns_long HCK.out HRU.out (by omega)
      go_wp2
      clear s0 s1 s2 s3 t0 t1 f0 f1 f2 f3 g0 g1
      (try simp only [Exit.inBlock, Exit.then])
      show bodyPost _ _ _ _ _ (put42 w1 (w.heap.size + 1 + 1) (.int .i64 0) (.int .i64 ((0 : Nat) : Int)) (.string ⟨#[]⟩) (.slice none 0 0) (.int .i64 ((0 : Nat) : Int)) (.int .i64 ((0 : Nat) : Int)))
      obtain ⟨wz, hwz⟩ : ∃ wz, wz = put42 w1 (w.heap.size + 1 + 1) (.int .i64 0) (.int .i64 ((0 : Nat) : Int)) (.string ⟨#[]⟩) (.slice none 0 0) (.int .i64 ((0 : Nat) : Int)) (.int .i64 ((0 : Nat) : Int)) := ⟨_, rfl⟩
      rw [← hwz]
      obtain ⟨hb, ho, k1, k2⟩ := E4.fin HB.out (OwnF.nil _ _) hwz
      clear hwz
      have r0 : wz.cell? ⟨w.heap.size + 1 + 1, 0, none⟩ = some (.int .i64 0) := k1.cell 0
      have r1 : wz.cell? ⟨w.heap.size + 1 + 1, 1, none⟩ = some (.int .i64 ((0 : Nat) : Int)) := k1.cell 1
      have r2 : wz.cell? ⟨w.heap.size + 1 + 1, 2, none⟩ = some (.string ⟨#[]⟩) := k1.cell 2
      have r3 : wz.cell? ⟨w.heap.size + 1 + 1, 3, none⟩ = some (.slice none 0 0) := k1.cell 3
      have r4 : wz.cell? ⟨w.heap.size + 1 + 1 + 1, 0, none⟩ = some (.int .i64 ((0 : Nat) : Int)) := k2.cell 0
      have r5 : wz.cell? ⟨w.heap.size + 1 + 1 + 1, 1, none⟩ = some (.int .i64 ((0 : Nat) : Int)) := k2.cell 1
      refine bodyPost_ret (v := tupC 0 (0) ⟨#[]⟩ (.slice none 0 0) (0) (0) 1) (by simp [results, tupC, rsC, Tryd.results8, go_sem, r0, r1, r2, r3, r4, r5]) rfl ?_
      rw [HV.out]
      exact runAns_zero (by decide) hb
    have HLN : Hid (inp.size ≤ 65536) := by show _ ≤ _; omega
    obtain ⟨r, hrr⟩ : ∃ r : Nat, start = (r : Int) := ⟨start.toNat, by have := HS.out; omega⟩
    subst hrr
    have HRP : Hid (r < rs.length ∧ 0 ≤ inp.size) := ⟨by have := HRU.out; omega, Nat.zero_le _⟩
    have HV : Hid (atAns rs (r : Nat) (r : Nat) inp 0 D S = runOf rs inp r 0 D S) := atAns_run (p := 0) HCK.out HRP.out.1 HLN.out HRP.out.2
    go_wp2_with (fail)
    clear a0 a1 d0 d1
    refine (evaluate.calls Ar c (r : Nat) rs r 0 inp D S w1 (Kd.C_below HR.out HB.out.bel) HG.out HRP.out.1 (by have := HLN.out; omega) HRP.out.2).mono ?_
    rintro e w2 ⟨v, rfl, hbw, ho⟩
    obtain ⟨ax, cx, hv⟩ := Go.X.own_slice ho
    subst hv
    have HE : Hid (E4 w w2 Ar rs.length c (r : Nat) D S) := HB.out.below hbw
    have HO : Hid (OwnF w2 w.heap.size (.slice ax (ansRes (runOf rs inp r 0 D S)).forest.length cx) (ansRes (runOf rs inp r 0 D S)).forest) := ho.low HB.out.bel.size
    clear hbw ho HB s0 s1 s2 s3 t0 t1 f0 f1 f2 f3 g0 g1
    generalize runOf rs inp r 0 D S = x at *
    generalize hq1 : ansRes x = q1 at *
    generalize hq2 : ansSt x = q2 at *
    have HQ := Lib.hid (And.intro hq1 hq2)
    clear hq1 hq2
    obtain ⟨xk, xe, xl, xf, xt⟩ := q1
    obtain ⟨ys, yd, ye⟩ := q2
    dsimp only at HO ⊢
    generalize hfl : xf.length = fl at *
    have HFL := Lib.hid hfl
    clear hfl
    have s0 : w2.cell? ⟨w.heap.size + 1 + 1, 0, none⟩ = some (.int .i64 0) := HE.out.b2.cell 0
    have s1 : w2.cell? ⟨w.heap.size + 1 + 1, 1, none⟩ = some (.int .i64 0) := HE.out.b2.cell 1
    have s2 : w2.cell? ⟨w.heap.size + 1 + 1, 2, none⟩ = some (.string ⟨#[]⟩) := HE.out.b2.cell 2
    have s3 : w2.cell? ⟨w.heap.size + 1 + 1, 3, none⟩ = some (.slice none 0 0) := HE.out.b2.cell 3
    have t0 : w2.cell? ⟨w.heap.size + 1 + 1 + 1, 0, none⟩ = some (.int .i64 0) := HE.out.b3.cell 0
    have t1 : w2.cell? ⟨w.heap.size + 1 + 1 + 1, 1, none⟩ = some (.int .i64 0) := HE.out.b3.cell 1
    have f0 := HE.out.b2.frozen 0
    have f1 := HE.out.b2.frozen 1
    have f2 := HE.out.b2.frozen 2
    have f3 := HE.out.b2.frozen 3
    have g0 := HE.out.b3.frozen 0
    have g1 := HE.out.b3.frozen 1
    go_wp2
    clear s0 s1 s2 s3 t0 t1 f0 f1 f2 f3 g0 g1
    (try simp only [Exit.inBlock, Exit.then])
    show bodyPost _ _ _ _ _ (put42 w2 (w.heap.size + 1 + 1) (.int .i64 xk) (.int .i64 ((xe : Nat) : Int)) (.string xl) (.slice ax fl cx) (.int .i64 ((yd : Nat) : Int)) (.int .i64 ((ys : Nat) : Int)))
    obtain ⟨wz, hwz⟩ : ∃ wz, wz = put42 w2 (w.heap.size + 1 + 1) (.int .i64 xk) (.int .i64 ((xe : Nat) : Int)) (.string xl) (.slice ax fl cx) (.int .i64 ((yd : Nat) : Int)) (.int .i64 ((ys : Nat) : Int)) := ⟨_, rfl⟩
    rw [← hwz]
    obtain ⟨hb, ho, k1, k2⟩ := E4.fin HE.out HO.out hwz
    clear hwz
    have r0 : wz.cell? ⟨w.heap.size + 1 + 1, 0, none⟩ = some (.int .i64 xk) := k1.cell 0
    have r1 : wz.cell? ⟨w.heap.size + 1 + 1, 1, none⟩ = some (.int .i64 ((xe : Nat) : Int)) := k1.cell 1
    have r2 : wz.cell? ⟨w.heap.size + 1 + 1, 2, none⟩ = some (.string xl) := k1.cell 2
    have r3 : wz.cell? ⟨w.heap.size + 1 + 1, 3, none⟩ = some (.slice ax fl cx) := k1.cell 3
    have r4 : wz.cell? ⟨w.heap.size + 1 + 1 + 1, 0, none⟩ = some (.int .i64 ((yd : Nat) : Int)) := k2.cell 0
    have r5 : wz.cell? ⟨w.heap.size + 1 + 1 + 1, 1, none⟩ = some (.int .i64 ((ys : Nat) : Int)) := k2.cell 1
    refine bodyPost_ret (v := tupC xk (xe) xl (.slice ax fl cx) (yd) (ys) ye) (by simp [results, tupC, rsC, Tryd.results8, go_sem, r0, r1, r2, r3, r4, r5]) rfl ?_
    rw [HV.out]
    have := runAns_of (x := x) hb (v := .slice ax fl cx) (by rw [HQ.out.1]; exact ho)
    rw [HQ.out.1, HQ.out.2] at this
    exact this
  · have hk' := nochk hk
    rw [chkI_off hk']
    have HV : Hid (atAns rs start start inp 0 D S = (.zero, ⟨0, 0, 6⟩)) := atAns_shape hk'
    go_wp2
    clear s0 s1 s2 s3 t0 t1 f0 f1 f2 f3 g0 g1
    (try simp only [Exit.inBlock, Exit.then])
    show bodyPost _ _ _ _ _ (put42 w1 (w.heap.size + 1 + 1) (.int .i64 0) (.int .i64 ((0 : Nat) : Int)) (.string ⟨#[]⟩) (.slice none 0 0) (.int .i64 ((0 : Nat) : Int)) (.int .i64 ((0 : Nat) : Int)))
    obtain ⟨wz, hwz⟩ : ∃ wz, wz = put42 w1 (w.heap.size + 1 + 1) (.int .i64 0) (.int .i64 ((0 : Nat) : Int)) (.string ⟨#[]⟩) (.slice none 0 0) (.int .i64 ((0 : Nat) : Int)) (.int .i64 ((0 : Nat) : Int)) := ⟨_, rfl⟩
    rw [← hwz]
    obtain ⟨hb, ho, k1, k2⟩ := E4.fin HB.out (OwnF.nil _ _) hwz
    clear hwz
    have r0 : wz.cell? ⟨w.heap.size + 1 + 1, 0, none⟩ = some (.int .i64 0) := k1.cell 0
    have r1 : wz.cell? ⟨w.heap.size + 1 + 1, 1, none⟩ = some (.int .i64 ((0 : Nat) : Int)) := k1.cell 1
    have r2 : wz.cell? ⟨w.heap.size + 1 + 1, 2, none⟩ = some (.string ⟨#[]⟩) := k1.cell 2
    have r3 : wz.cell? ⟨w.heap.size + 1 + 1, 3, none⟩ = some (.slice none 0 0) := k1.cell 3
    have r4 : wz.cell? ⟨w.heap.size + 1 + 1 + 1, 0, none⟩ = some (.int .i64 ((0 : Nat) : Int)) := k2.cell 0
    have r5 : wz.cell? ⟨w.heap.size + 1 + 1 + 1, 1, none⟩ = some (.int .i64 ((0 : Nat) : Int)) := k2.cell 1
    refine bodyPost_ret (v := tupC 0 (0) ⟨#[]⟩ (.slice none 0 0) (0) (0) 6) (by simp [results, tupC, rsC, Tryd.results8, go_sem, r0, r1, r2, r3, r4, r5]) rfl ?_
    rw [HV.out]
    exact runAns_zero (by decide) hb
end Go.Proofs.YtmpkkphohilkoaaDoor.B
/- dowelbook.LendCore: a copy of a core grammar, all through, in new memory, its holder's behind each end. -/
namespace Go.Proofs.YtmpkkphohilkoaaDoor.B
open Go Go.RowKit Go.X Go.Ma Go.Proofs.YtmpkkphohilkoaaDoorW.PrintWords Go.Proofs.YtmpkkphohilkoaaDoor.F

def holder : ByteArray := ⟨#[45, 104, 111, 108, 100, 101, 114, 45]⟩
def holdC : List Value := [.int .i64 (-77), .int .u64 0, .int .u64 0, .int .u64 0, .int .u64 0, .int .i64 0, .string ⟨#[]⟩]
def holdR : List Value := [.string holder, .slice none 0 0]
/-- A lent rule's cells: its body's block. -/
def ruleAt (x : S42) (p : Nat) : List Value := [.string x.f0, .slice (some ⟨p, 0, none⟩) x.f1.length (x.f1.length + 1)]
def rowsTo (rs : List S42) (P : Nat → Nat) : Nat → List Value
  | 0 => []
  | i + 1 => rowsTo rs P i ++ ruleAt (cr rs i) (P i)
/-- The bodies of the first n rules lie lent, in blocks from base on, each in its own. -/
def RulesIn (w : World) (base : Nat) (rs : List S42) (P : Nat → Nat) (n : Nat) : Prop := ∀ i, i < n → base ≤ P i ∧ Lent k47 47 w (P i) (cr rs i).f1 holdC ∧ ∀ j, j < i → P j < P i
/-- A lent core grammar. -/
structure CoreAt (w : World) (base br : Nat) (rs : List S42) (P : Nat → Nat) : Prop where
  rows : Blk w br 42 (rowsTo rs P rs.length ++ holdR)
  rules : RulesIn w base rs P rs.length
def LentCore (w : World) (start : Int) (rs : List S42) (e : Ending) (w' : World) : Prop :=
  ∃ br P, e = .returned (.agg #[.slice (some ⟨br, 0, none⟩) rs.length (rs.length + 1), .int .i64 start]) ∧ CoreAt w' w.heap.size br rs P ∧ w.heap.size ≤ br ∧ Below w.heap.size w w'
theorem Below.cell_some {w w' : World} (h : Below w.heap.size w w') {p : Addr} {v : Value} (hp : w.cell? p = some v) : w'.cell? p = some v := (h.cell (World.block_lt_of_cell? w _ hp)).trans hp
theorem rowsTo_length (rs : List S42) (P : Nat → Nat) (i : Nat) : (rowsTo rs P i).length = i * 2 := by
  induction i with
  | zero => rfl
  | succ i ih => rw [rowsTo, List.length_append, ih, Nat.succ_mul]; rfl
theorem rowsTo_congr (rs : List S42) {P P' : Nat → Nat} (i : Nat) (h : ∀ j, j < i → P j = P' j) : rowsTo rs P i = rowsTo rs P' i := by
  induction i with
  | zero => rfl
  | succ i ih => rw [rowsTo, rowsTo, ih (fun j hj => h j (by omega)), h i (by omega)]
theorem info42 : (Tryd.prog.info? 42).map (fun i => (i.zero, i.size, i.bytes)) = some (some (.agg #[.string ⟨#[]⟩, .slice none 0 0]), 2, 40) := by kernel_rfl
theorem info47 : (Tryd.prog.info? 47).map (fun i => (i.zero, i.size, i.bytes)) = some (some (.agg #[.int .i64 0, .int .u64 0, .int .u64 0, .int .u64 0, .int .u64 0, .int .i64 0, .string ⟨#[]⟩]), 7, 64) := by kernel_rfl
theorem sz45 : (Tryd.prog.info? 42).map (·.size) = some 2 := by kernel_rfl
theorem sz55 : (Tryd.prog.info? 47).map (·.size) = some 7 := by kernel_rfl
theorem Lent.flat {α : Type} {d : Kd α} (hd : ∀ (w w' : World) (x : α) (cs : List Value), d.K w x cs → d.K w' x cs) {e : TypeId} {w w' : World} {b : Nat} {xs : List α} {hold : List Value} (h : Lent d e w b xs hold) (hb : w'.heap[b]? = w.heap[b]?) : Lent d e w' b xs hold := by
  obtain ⟨cs, hr, hk⟩ := h.out
  exact ⟨cs, hr.imp_ (fun _ _ hk => hd _ _ _ _ hk), hb.trans hk⟩
theorem Lent.ne {α : Type} {d : Kd α} {e e' : TypeId} {w : World} {b b' : Nat} {xs : List α} {hold cs : List Value} (h : Lent d e w b xs hold) (h' : Blk w b' e' cs) (hne : e ≠ e') : b ≠ b' := by
  obtain ⟨_, _, hk⟩ := h.out
  exact hk.ne h' hne
theorem flat55 (w w' : World) (x : S47) (cs : List Value) (h : k47.K w x cs) : k47.K w' x cs := h
theorem set2c {α : Type} (l rest : List α) (r0 r1 a b : α) (n : Nat) (hn : n = l.length) : ((l ++ r0 :: r1 :: rest).set n a).set (n + 1) b = l ++ a :: b :: rest := by
  subst hn
  simp
def upd (P : Nat → Nat) (i b : Nat) : Nat → Nat := fun j => if j = i then b else P j
theorem upd_self (P : Nat → Nat) (i b : Nat) : upd P i b i = b := by simp [upd]
theorem upd_lt (P : Nat → Nat) {i b j : Nat} (h : j < i) : upd P i b j = P j := by simp [upd]; omega
theorem CoreAt.below {w w' : World} {base br : Nat} {rs : List S42} {P : Nat → Nat} (h : CoreAt w base br rs P) (hb : Below w.heap.size w w') : CoreAt w' base br rs P :=
  ⟨h.rows.below hb h.rows.lt, fun i hi => by
    obtain ⟨a1, a2, a3⟩ := h.rules i hi
    exact ⟨a1, Lent.below a2 hb, a3⟩⟩
theorem far2h {w : World} {br i j : Nat} {x y : Value} {p : Nat} (hp : p ≠ br) : ((w.setCell ⟨br, i, none⟩ x).setCell ⟨br, j, none⟩ y).heap[p]? = w.heap[p]? := by
  rw [Below.heap_setCell _ _ _ _ hp, Below.heap_setCell _ _ _ _ hp]
/-- What holds at the head of each round. -/
structure CoreHead (w wr : World) (br : Nat) (Ar : Option Addr) (c : Nat) (start : Int) (rs : List S42) (P : Nat → Nat) (i : Nat) : Prop where
  bel : Below w.heap.size w wr
  box : Blk wr w.heap.size 24 [.slice Ar rs.length c, .int .i64 start]
  res : ∃ z, z.length = 2 ∧ Blk wr (w.heap.size + 1) 24 z
  rows : ∃ rest, Blk wr br 42 (rowsTo rs P i ++ rest) ∧ rest.length = (rs.length + 1 - i) * 2
  rules : RulesIn wr w.heap.size rs P i
  lt : w.heap.size + 1 < br
theorem CoreHead.next {w wr w3 w7 : World} {br : Nat} {Ar : Option Addr} {c : Nat} {start : Int} {rs : List S42} {P : Nat → Nat} {i b : Nat} (h : CoreHead w wr br Ar c start rs P i) (hi : i < rs.length)
    (h3 : Below wr.heap.size wr w3) (hb : wr.heap.size ≤ b) (hl : Lent k47 47 w3 b (cr rs i).f1 holdC)
    (e : w7 = ((w3.setCell ⟨br, i * 2, none⟩ (.string (cr rs i).f0)).setCell ⟨br, i * 2 + 1, none⟩ (.slice (some ⟨b, 0, none⟩) (cr rs i).f1.length ((cr rs i).f1.length + 1))).drew) :
    CoreHead w w7 br Ar c start rs (upd P i b) (i + 1) := by
  subst e
  obtain ⟨k1, k2, ⟨z, hz, k3⟩, ⟨rest, k5, hrl⟩, k6, k7⟩ := h
  have B3 : Blk w3 br 42 (rowsTo rs P i ++ rest) := k5.below h3 k5.lt
  have h13 : Below w.heap.size w w3 := k1.trans (h3.mono k1.size)
  have hd : ∀ {p : Nat}, ((w3.setCell ⟨br, i * 2, none⟩ (.string (cr rs i).f0)).setCell ⟨br, i * 2 + 1, none⟩ (.slice (some ⟨b, 0, none⟩) (cr rs i).f1.length ((cr rs i).f1.length + 1))).drew.heap[p]? = ((w3.setCell ⟨br, i * 2, none⟩ (.string (cr rs i).f0)).setCell ⟨br, i * 2 + 1, none⟩ (.slice (some ⟨b, 0, none⟩) (cr rs i).f1.length ((cr rs i).f1.length + 1))).heap[p]? := rfl
  refine ⟨((h13.setCell (by show w.heap.size ≤ br; omega) _).setCell (by show w.heap.size ≤ br; omega) _).drew, ?_, ⟨z, hz, ?_⟩, ?_, ?_, k7⟩
  · exact (hd.trans (far2h (by omega))).trans (k2.below h3 k2.lt)
  · exact (hd.trans (far2h (by omega))).trans (k3.below h3 k3.lt)
  · obtain ⟨r0, r1, rest, rfl⟩ : ∃ r0 r1 r, rest = r0 :: r1 :: r := by
      match rest, hrl with
      | r0 :: r1 :: r, _ => exact ⟨r0, r1, r, rfl⟩
      | [], hl => simp at hl; omega
      | [_], hl => simp at hl; omega
    refine ⟨rest, ?_, ?_⟩
    · have := (B3.setCell (i * 2) (.string (cr rs i).f0)).setCell (i * 2 + 1) (.slice (some ⟨b, 0, none⟩) (cr rs i).f1.length ((cr rs i).f1.length + 1))
      rw [set2c _ _ _ _ _ _ _ (rowsTo_length rs P i).symm] at this
      rw [rowsTo, upd_self, rowsTo_congr rs (P' := P) i (fun j hj => upd_lt P hj), List.append_assoc]
      exact this
    · simp at hrl; omega
  · intro j hj
    rcases Nat.lt_or_ge j i with hji | hji
    · obtain ⟨a1, a2, a3⟩ := k6 j hji
      rw [upd_lt P hji]
      exact ⟨a1, Lent.flat flat55 (Lent.below a2 h3) (hd.trans (far2h (Lent.ne a2 k5 (by decide)))), fun j' hj' => by rw [upd_lt P (by omega)]; exact a3 j' hj'⟩
    · obtain rfl : j = i := by omega
      rw [upd_self]
      refine ⟨Nat.le_trans k1.size hb, Lent.flat flat55 hl (hd.trans (far2h (Lent.ne hl B3 (by decide)))), fun j' hj' => ?_⟩
      rw [upd_lt P hj']
      have := Lent.lt (k6 j' hj').2.1
      omega
theorem far2c {w : World} {br i j : Nat} {x y v : Value} {p : Addr} (h : br ≠ p.block) (hp : w.cell? p = some v) : ((w.setCell ⟨br, i, none⟩ x).setCell ⟨br, j, none⟩ y).cell? p = some v := far1 h (far1 h hp)
set_option maxRecDepth 100000 in
set_option maxHeartbeats 4000000 in
theorem LendCore.calls (Ar : Option Addr) (c : Nat) (start : Int) (rs : List S42) (w : World) (hr : Kd.C k42 w Ar rs.length rs) (mr : rs.length ≤ 1048576) (mb : ∀ x ∈ rs, x.f1.length ≤ 1048576) :
    Calls Tryd.prog 9 #[.agg #[.slice Ar rs.length c, .int .i64 start]] w (LentCore w start rs) := by
  have HR := Lib.hid hr; clear hr
  have HMB := Lib.hid mb; clear mb
  have HMR := Lib.hid mr
  have HW : ∀ wa : World, wa = (w.alloc (.cells #[.slice Ar rs.length c, .int .i64 start] 24)).alloc (.cells #[.slice none 0 0, .int .i64 0] 24) →
      Hid (Below w.heap.size w wa ∧ Blk wa w.heap.size 24 [.slice Ar rs.length c, .int .i64 start] ∧ Blk wa (w.heap.size + 1) 24 [.slice none 0 0, .int .i64 0]) := by
    rintro wa rfl
    generalize hw1 : w.alloc (.cells #[.slice Ar rs.length c, .int .i64 start] 24) = w1
    have z1 : w1.heap.size = w.heap.size + 1 := by rw [← hw1]; simp
    have g1 : Below w.heap.size w w1 ∧ Blk w1 w.heap.size 24 [.slice Ar rs.length c, .int .i64 start] := by rw [← hw1]; exact ⟨(Below.refl _ w).alloc (Nat.le_refl _) _, Blk.alloc w _ _⟩
    have g2 := World.grownBy_alloc w1 (.cells #[.slice none 0 0, .int .i64 0] 24) none
    have k2 := Blk.alloc w1 #[.slice none 0 0, .int .i64 0] 24
    rw [z1] at k2
    exact ⟨g1.1.grown g2 g1.1.size (fun k hk => by cases hk), g1.2.grown g2 (by simp), k2⟩
  go_enter Tryd.func9, Tryd.ntmps9
  go_upto_region 1 with (fail)
  generalize hwa : (w.alloc (.cells #[.slice Ar rs.length c, .int .i64 start] 24)).alloc (.cells #[.slice none 0 0, .int .i64 0] 24) = wa
  have HA := HW wa hwa.symm
  clear HW hwa
  have a0 : wa.cell? ⟨w.heap.size, 0, none⟩ = some (.slice Ar rs.length c) := HA.out.2.1.cell 0
  go_wp2_with (first
    | (at_make; refine X.make rfl _ _ 22 rfl 42 _ 2 40 Tryd.underlying22 info42 .i64 .i64 _ _ (rs.length + 1) rfl rfl (by simp) (by simp) (by omega) (by simp only [maxLen]; omega) ?_; intro w1 hb1 hg1; obtain ⟨z, hz, hz1⟩ := X.Blk.ex hb1 (size_madeCells _ _); clear hb1
       have HH : Hid (CoreHead w w1 wa.heap.size Ar c start rs (fun _ => 0) 0) :=
         ⟨HA.out.1.grown hg1 HA.out.1.size (by simp), HA.out.2.1.grown hg1 (by simp), ⟨_, rfl, HA.out.2.2.grown hg1 (by simp)⟩, ⟨z, hz1, by rw [hz]; rfl⟩, fun i hi => absurd hi (Nat.not_lt_zero _), HA.out.2.2.lt⟩
       clear hz hz1 hg1 HA a0)
    | fail)
  generalize wa.heap.size = br at *
  clear mr
  have HNB : Hid (∀ ad, Ar = some ad → 0 < rs.length → w.heap.size + 1 < br → ad.block ≠ br) := fun ad e h0 hlt => by
    obtain ⟨ad', _, _, e', cc, _⟩ := cr_at HR.out 0 h0
    rw [e] at e'
    injection e' with e'
    subst e'
    have h1 := World.block_lt_of_cell? w _ cc
    rw [add_blk] at h1
    omega
  go_loopg [4] rs.length (fun q v wr => ∃ (i : Nat) (P : Nat → Nat), q + i = rs.length ∧ v = .int .i64 (i : Nat) ∧ Hid (CoreHead w wr br Ar c start rs P i))
  case atStart => exact ⟨0, _, by simp, rfl, HH.out⟩
  case round =>
    clear HH
    obtain ⟨i, P, hi, rfl, HI⟩ := hrel
    have a0 : wr.cell? ⟨w.heap.size, 0, none⟩ = some (.slice Ar rs.length c) := HI.out.box.cell 0
    by_cases hlt : i < rs.length
    · obtain ⟨ad, A1, c1, eA, e0, e1, _, hc1⟩ := cr_at (Kd.C_below HR.out HI.out.bel) i hlt
      subst eA
      have hm1 := HMB.out _ (cr_mem hlt)
      obtain ⟨x, hx⟩ : ∃ x, cr rs i = x := ⟨_, rfl⟩
      rw [hx] at e0 e1 hc1 hm1
      have HX := Lib.hid hx; clear hx
      obtain ⟨cs, hreps, hcells⟩ := X.C_cells hc1
      have hlen : cs.length = x.f1.length * 7 := hreps.1
      have hone := X.Reps_oneCell hreps
      have HRE := Lib.hid hreps; clear hreps
      have HL := Lib.hid hlen; clear hlen
      have HCE := Lib.hid hcells; clear hcells
      have HO := Lib.hid hone; clear hone hc1
      have HM1 := Lib.hid hm1; clear hm1
      obtain ⟨rest, hrest⟩ := HI.out.rows
      have HRS := Lib.hid hrest; clear hrest
      have HIL := Lib.hid hlt
      have hi0 : (0 : Int) ≤ (i : Int) := Int.natCast_nonneg _
      have hi1 : (i : Int) < (rs.length : Int) := Int.ofNat_lt.2 hlt
      have hi2 : (i : Int) < (rs.length : Int) + 1 := by omega
      have hxl : (x.f1.length : Int) ≤ 1048576 := by have := HM1.out; omega
      go_wp2_with (first
        | (at_make; refine X.make rfl _ _ 40 rfl 47 _ 7 64 Tryd.underlying40 info47 .i64 .i64 _ _ (x.f1.length + 1) rfl rfl (by simp) (by simp) (by have := HM1.out; omega) (by have := HM1.out; simp only [maxLen]; omega) ?_; intro w1 hb1 hg1; obtain ⟨z, hz, hz1⟩ := X.Blk.ex hb1 (size_madeCells _ _); clear hb1; have HZ := Lib.hid hz; clear hz; have HB1 := Lib.hid hz1; clear hz1; have HG1 := Lib.hid hg1; clear hg1
           have a01 : w1.cell? ⟨w.heap.size, 0, none⟩ = some (.slice (some ad) rs.length c) := HG1.out.cell a0 (by simp)
           have e11 : w1.cell? ⟨(ad.add (i * 2)).block, (ad.add (i * 2)).off + 1, none⟩ = some (.slice A1 x.f1.length c1) := HG1.out.cell e1 (by simp))
        | (with_reducible refine X.copy rfl (.tmp 27) (.tmp 33) 40 40 rfl 47 7 Tryd.underlying40 sz55 wr.heap.size 0 _ _ _ _ _ rfl rfl _ _ HB1.out cs ?_ ?_ ?_ ?_ ?_)
        | fail)
      · have := HL.out; rw [show x.f1.length.min (x.f1.length + 1) = x.f1.length from Nat.min_eq_left (by omega)]; exact this
      · intro h0
        obtain ⟨ad', e, hc⟩ := HCE.out h0
        exact ⟨ad', e, fun j v hj => HG1.out.cell (hc j v hj) (by simp)⟩
      · have := HL.out; have := HZ.out; omega
      · exact HO.out
      intro w2 hb2 hg2
      have HB2 := Lib.hid hb2; clear hb2
      have HG2 := Lib.hid hg2; clear hg2
      clear a01 e11
      go_wp2_with (first
        | (with_reducible refine X.store rfl 47 (.tmp 40) (.tmp 39) rfl wr.heap.size (x.f1.length * 7) (.agg holdC.toArray) ?_ ?_ _ _ HB2.out ?_ ?_ ?_ ?_)
        | fail)
      · rfl
      · rfl
      · exact sz55
      · have h1 := HL.out; have h2 := HZ.out
        rw [length_splice _ _ _ (by omega), h2]
        show x.f1.length * 7 + 7 ≤ _
        omega
      · intro u hu
        simp [Value.cells, holdC] at hu
        rcases hu with rfl | rfl | rfl | rfl | rfl | rfl <;> rfl
      intro w3 hb3 hg3
      have HB3 : Hid (Below wr.heap.size wr w3) := (((Below.refl _ wr).grown HG1.out (Nat.le_refl _) (by simp)).grown HG2.out HG1.out.size (by simp)).grown hg3 (Nat.le_trans HG1.out.size HG2.out.size) (by simp)
      have HLN : Hid (Lent k47 47 w3 wr.heap.size x.f1 holdC) := by
        have h1 := HL.out; have h2 := HZ.out
        have e : splice (splice z 0 cs) (x.f1.length * 7) holdC = cs ++ holdC := by
          rw [X.splice_begin, ← h1, X.splice_end]
          rw [List.length_drop, h2, h1]
          show _ = 7
          omega
        refine ⟨cs, HRE.out.imp_ (fun _ _ hk => k47.K_below HB3.out hk), ?_⟩
        rw [← e]
        exact hb3
      clear hb3 hg3 HB1 HB2 HG1 HG2 HZ HL HCE HO HRE
      have p0 : w3.cell? ⟨w.heap.size, 0, none⟩ = some (.slice (some ad) rs.length c) := Below.cell_some HB3.out a0
      have p1 : w3.cell? (ad.add (i * 2)) = some (.string x.f0) := Below.cell_some HB3.out e0
      clear a0 e0 e1
      obtain ⟨o0, o1, HOS⟩ : ∃ o0 o1, Hid (w3.cell? ⟨br, i * 2, none⟩ = some o0 ∧ w3.cell? ⟨br, i * 2 + 1, none⟩ = some o1) := by
        have hl : (rowsTo rs P i ++ rest).length = i * 2 + (rs.length + 1 - i) * 2 := by rw [List.length_append, rowsTo_length, HRS.out.2]
        have hb := HRS.out.1.below HB3.out HRS.out.1.lt
        exact ⟨_, _, (hb.cell _).trans (List.getElem?_eq_getElem (by omega)), (hb.cell _).trans (List.getElem?_eq_getElem (by omega))⟩
      have hs0 := HOS.out.1
      have hs1 := HOS.out.2
      have HB6 : Hid (Blk w3 br 42 (rowsTo rs P i ++ rest)) := HRS.out.1.below HB3.out HRS.out.1.lt
      have hf0 := HB6.out.frozen (i * 2)
      have hf1 := HB6.out.frozen (i * 2 + 1)
      have HN1 : Hid (br ≠ w.heap.size) := by have := HI.out.lt; show _ ≠ _; omega
      have HN2 : Hid (br ≠ (ad.add (i * 2)).block) := by rw [add_blk]; exact fun e => HNB.out ad rfl (by omega) HI.out.lt e.symm
      have hsl : IntKind.i64.wrap (x.f1.length : Int) = (x.f1.length : Int) := by rw [IntWalk.i64_in _ (by omega)]
      have hl0 : (0 : Int) ≤ (x.f1.length : Int) := Int.natCast_nonneg _
      have hl1 : (x.f1.length : Int) ≤ (x.f1.length : Int) + 1 := by omega
      go_wp2
      go_region_held3 (fun w' => w'.cell? ⟨w.heap.size, 0, none⟩ = some (.slice (some ad) rs.length c) ∧ w'.cell? (ad.add (i * 2)) = some (.string x.f0))
        (first
          | with_reducible exact ⟨farD (far2c HN1.out p0), farD (far2c HN2.out p1)⟩
          | with_reducible exact ⟨far2c HN1.out p0, far2c HN2.out p1⟩
          | go_keep)
        (first | fail)
      rename_i hHeld
      clear hHeld
      have hN : ∀ w7 : World, w7 = ((w3.setCell ⟨br, i * 2, none⟩ (.string x.f0)).setCell ⟨br, i * 2 + 1, none⟩ (.slice (some ⟨wr.heap.size, 0, none⟩) x.f1.length (x.f1.length + 1))).drew → Hid (CoreHead w w7 br (some ad) c start rs (upd P i wr.heap.size) (i + 1)) := by
        intro w7 e
        have hx := HX.out
        subst hx
        exact HI.out.next HIL.out HB3.out (Nat.le_refl _) HLN.out e
      clear hs0 hs1 hf0 hf1 p0 p1 hi0 hi1 hi2 HOS HB6 HLN HI hsl hl0 hl1 hxl
      generalize hw7 : ((w3.setCell ⟨br, i * 2, none⟩ (.string x.f0)).setCell ⟨br, i * 2 + 1, none⟩ (.slice (some ⟨wr.heap.size, 0, none⟩) x.f1.length (x.f1.length + 1))).drew = w7
      have HF := hN w7 hw7.symm
      clear hN hw7
      have hiw : wrap64 ((i : Int) + 1) = ((i + 1 : Nat) : Int) := by have := HMR.out; rw [IntWalk.wrap64_in _ (by omega)]; rfl
      go_wp2
      go_roundg (rs.length - (i + 1))
      case measure => clear hiw; omega
      case rel => exact ⟨i + 1, _, by clear hiw; omega, by first | rfl | rw [hiw], HF.out⟩
    · obtain rfl : i = rs.length := by omega
      obtain ⟨rest, hrest⟩ := HI.out.rows
      have HRS := Lib.hid hrest; clear hrest
      go_wp2_with (first
        | (with_reducible refine X.store rfl 42 (.tmp 61) (.tmp 60) rfl br (rs.length * 2) (.agg holdR.toArray) ?_ ?_ _ _ HRS.out.1 ?_ ?_ ?_ ?_)
        | fail)
      · rfl
      · rfl
      · exact sz45
      · have h2 := HRS.out.2
        rw [List.length_append, rowsTo_length, h2]
        show rs.length * 2 + 2 ≤ _
        omega
      · intro u hu
        simp [Value.cells, holdR] at hu
        rcases hu with rfl | rfl <;> rfl
      intro w5 hb5 hg5
      have HG : Hid (CoreAt w5 w.heap.size br rs P ∧ Below w.heap.size w w5 ∧ Blk w5 w.heap.size 24 [.slice Ar rs.length c, .int .i64 start] ∧ ∃ z0 z1, Blk w5 (w.heap.size + 1) 24 [z0, z1]) := by
        obtain ⟨k1, k2, ⟨z, hz, k3⟩, _, k6, k7⟩ := HI.out
        have hh : ∀ k, k < wr.heap.size → k ≠ br → w5.heap[k]? = wr.heap[k]? := fun k hk hne => hg5.block k hk (fun e => hne (by injection e))
        obtain ⟨z0, z1, rfl⟩ : ∃ z0 z1, z = [z0, z1] := by
          match z, hz with
          | [z0, z1], _ => exact ⟨z0, z1, rfl⟩
        refine ⟨⟨?_, fun j hj => ?_⟩, k1.grown hg5 k1.size (fun k e => by injection e with e; omega), k2.grown hg5 (by simp; omega), z0, z1, k3.grown hg5 (by simp; omega)⟩
        · have h2 := HRS.out.2
          have e : splice (rowsTo rs P rs.length ++ rest) (rs.length * 2) holdR = rowsTo rs P rs.length ++ holdR := by
            rw [← rowsTo_length rs P rs.length, X.splice_end]
            show _ = 2
            omega
          rw [← e]
          exact hb5
        · obtain ⟨a1, a2, a3⟩ := k6 j hj
          exact ⟨a1, Lent.flat flat55 a2 (hh _ (Lent.lt a2) (Lent.ne a2 HRS.out.1 (by decide))), a3⟩
      have HLT : Hid (w.heap.size + 1 < br) := HI.out.lt
      clear hb5 hg5 a0 HI HRS
      have c0 : w5.cell? ⟨w.heap.size, 0, none⟩ = some (.slice Ar rs.length c) := HG.out.2.2.1.cell 0
      have c1 : w5.cell? ⟨w.heap.size, 1, none⟩ = some (.int .i64 start) := HG.out.2.2.1.cell 1
      obtain ⟨z0, z1, HZ1⟩ : ∃ z0 z1, Hid (Blk w5 (w.heap.size + 1) 24 [z0, z1]) := HG.out.2.2.2
      have d0 : w5.cell? ⟨w.heap.size + 1, 0, none⟩ = some z0 := HZ1.out.cell 0
      have d1 : w5.cell? ⟨w.heap.size + 1, 1, none⟩ = some z1 := HZ1.out.cell 1
      have f0 := HZ1.out.frozen 0
      have f1 := HZ1.out.frozen 1
      have hr0 : (0 : Int) ≤ (rs.length : Int) := Int.natCast_nonneg _
      have hr1 : (rs.length : Int) ≤ (rs.length : Int) + 1 := by omega
      have d0' : w5.drew.cell? ⟨w.heap.size + 1, 0, none⟩ = some z0 := d0
      have d1' : w5.drew.cell? ⟨w.heap.size + 1, 1, none⟩ = some z1 := d1
      have f0' : w5.drew.frozen? ⟨w.heap.size + 1, 0, none⟩ = false := f0
      have f1' : w5.drew.frozen? ⟨w.heap.size + 1, 1, none⟩ = false := f1
      go_wp2
      go_region_held3 (fun w' => w'.cell? ⟨w.heap.size, 0, none⟩ = some (.slice Ar rs.length c) ∧ w'.cell? ⟨w.heap.size, 1, none⟩ = some (.int .i64 start)) (first | go_keep) (first | fail)
      have hF : ∀ w6 : World, w6 = ((w5.setCell ⟨w.heap.size + 1, 0, none⟩ (.slice (some ⟨br, 0, none⟩) rs.length (rs.length + 1))).setCell ⟨w.heap.size + 1, 1, none⟩ (.int .i64 start)).drew →
          Hid (CoreAt w6 w.heap.size br rs P ∧ Below w.heap.size w w6 ∧ Blk w6 (w.heap.size + 1) 24 [.slice (some ⟨br, 0, none⟩) rs.length (rs.length + 1), .int .i64 start]) := by
        rintro w6 rfl
        have hh : ∀ k, k ≠ w.heap.size + 1 → ((w5.setCell ⟨w.heap.size + 1, 0, none⟩ (.slice (some ⟨br, 0, none⟩) rs.length (rs.length + 1))).setCell ⟨w.heap.size + 1, 1, none⟩ (.int .i64 start)).drew.heap[k]? = w5.heap[k]? := fun k hk => by
          show (((w5.setCell _ _).setCell _ _)).heap[k]? = _
          rw [Below.heap_setCell _ _ _ _ hk, Below.heap_setCell _ _ _ _ hk]
        refine ⟨⟨(hh _ (by have := HLT.out; omega)).trans HG.out.1.rows, fun j hj => ?_⟩, ((HG.out.2.1.setCell (by simp) _).setCell (by simp) _).drew, ?_⟩
        · obtain ⟨a1, a2, a3⟩ := HG.out.1.rules j hj
          exact ⟨a1, Lent.flat flat55 a2 (hh _ (Lent.ne a2 HZ1.out (by decide))), a3⟩
        · exact (HZ1.out.setCell 0 (.slice (some ⟨br, 0, none⟩) rs.length (rs.length + 1))).setCell 1 (.int .i64 start)
      clear d0' d1' f0' f1' c0 c1 HG d0 d1 f0 f1 HZ1
      go_wp2
      generalize hw6 : ((w5.setCell ⟨w.heap.size + 1, 0, none⟩ (.slice (some ⟨br, 0, none⟩) rs.length (rs.length + 1))).setCell ⟨w.heap.size + 1, 1, none⟩ (.int .i64 start)).drew = w6
      have HL := hF _ hw6.symm
      have r0 : w6.cell? ⟨w.heap.size + 1, 0, none⟩ = some (.slice (some ⟨br, 0, none⟩) rs.length (rs.length + 1)) := HL.out.2.2.cell 0
      have r1 : w6.cell? ⟨w.heap.size + 1, 1, none⟩ = some (.int .i64 start) := HL.out.2.2.cell 1
      clear hF hw6
      (try simp only [Exit.inBlock, Exit.then])
      refine bodyPost_ret (v := .agg #[.slice (some ⟨br, 0, none⟩) rs.length (rs.length + 1), .int .i64 start]) (by simp [results, Tryd.results9, go_sem, r0, r1]) rfl ?_
      exact ⟨br, P, rfl, HL.out.1, by have := HLT.out; omega, HL.out.2.1⟩
end Go.Proofs.YtmpkkphohilkoaaDoor.B
/- Limits: what was used are the least limits. Plain. -/
namespace Go.Ma
/-- A run from its beginning. -/
def run (e : Env) (t : T) (p : Nat) (l : Lim) : Res × St := ev e l (2 * l.steps + 1) t p 1 ⟨0, 0, 0⟩
end Go.Ma
namespace Go.Proofs.YtmpkkphohilkoaaDoor.B
open Go Go.RowKit Go.X Go.Ma Go.Proofs.YtmpkkphohilkoaaDoorW.PrintWords Go.Proofs.YtmpkkphohilkoaaDoor.F
theorem ansSt_err (x : Res × St) : (ansSt x).err = x.2.err := by
  unfold ansSt
  split
  · rfl
  · rfl
end Go.Proofs.YtmpkkphohilkoaaDoor.B
/- Answers that are kept, compared; the shared parts of the laws' walks. -/
namespace Go.Proofs.YtmpkkphohilkoaaDoor.B
open Go Go.RowKit Go.X Go.Ma Go.Proofs.YtmpkkphohilkoaaDoorW.PrintWords Go.Proofs.YtmpkkphohilkoaaDoor.F

theorem rowsTo_get (rs : List S42) (P : Nat → Nat) (n i j : Nat) (h : i < n) (hj : j < 2) (r : List Value) : (rowsTo rs P n ++ r)[i * 2 + j]? = (ruleAt (cr rs i) (P i))[j]? := by
  rw [List.getElem?_append_left (by rw [rowsTo_length]; omega)]
  induction n with
  | zero => omega
  | succ n ih =>
    rw [rowsTo]
    by_cases hi : i < n
    · rw [List.getElem?_append_left (by rw [rowsTo_length]; omega)]
      exact ih hi
    · obtain rfl : i = n := by omega
      rw [List.getElem?_append_right (by rw [rowsTo_length]; omega), rowsTo_length, Nat.add_sub_cancel_left]
theorem Reps_rows {w : World} {base : Nat} {rs : List S42} {P : Nat → Nat} {N : Nat} (h : RulesIn w base rs P N) (hb : ∀ i, i < N → (cr rs i).f1.length ≤ 1048576) : ∀ n, n ≤ N → n ≤ rs.length → Reps (k42.K w) k42.sz (rs.take n) (rowsTo rs P n)
  | 0, _, _ => Reps.none _ _
  | n + 1, hn, hl => by
    rw [List.take_succ_eq_append_getElem (by omega), rowsTo]
    obtain ⟨_, a3, _⟩ := h n (by omega)
    have hbn := hb n (by omega)
    have e : rs[n]'(by omega) = cr rs n := by rw [cr, List.getD_eq_getElem?_getD, List.getElem?_eq_getElem (by omega)]; rfl
    rw [e]
    exact (Reps_rows h hb n (by omega) (by omega)).snoc (k42_mk w (cr rs n) (by omega) (Lent.C a3 (by omega))) rfl
/-- A lent core grammar is read as what it was made of. -/
theorem CoreAt.C {w : World} {base br : Nat} {rs : List S42} {P : Nat → Nat} (h : CoreAt w base br rs P) (hl : rs.length ≤ 1048576) (hb : ∀ x ∈ rs, x.f1.length ≤ 1048576) : Kd.C k42 w (some ⟨br, 0, none⟩) rs.length rs := by
  have := Reps_rows h.rules (fun i hi => hb _ (cr_mem hi)) rs.length (Nat.le_refl _) (Nat.le_refl _)
  rw [List.take_length] at this
  exact C_of_blk h.rows this (by omega)
theorem eqA32 (d : Nat) (w : World) (x0 y0 : Int) (x1 y1 : Int) :
    (Op.equalIn (d + 2) 32 (.agg #[.int .i64 x0, .int .i64 x1]) (.agg #[.int .i64 y0, .int .i64 y1])).run Tryd.prog w = .ok (x0 == y0 && (x1 == y1)) w := by
  refine eqA_of Tryd.underlying32 (by kernel_rfl) ?_
  refine eqf_cons (by rfl) (by go_simp; rfl) (by go_simp; rfl) (by go_simp) ?_
  exact eqf_last (by rfl) (by go_simp; rfl) (by go_simp; rfl) (by go_simp)
def two (w : World) (k : Int) (en : Nat) (lb : ByteArray) (v : Value) (dp st : Nat) : World := (w.alloc (.cells #[.int .i64 k, .int .i64 (en : Nat), .string lb, v] 31)).alloc (.cells #[.int .i64 (dp : Nat), .int .i64 (st : Nat)] 32)
theorem two_below (w : World) (k : Int) (en : Nat) (lb : ByteArray) (v : Value) (dp st : Nat) : Below w.heap.size w (two w k en lb v dp st) := ((Below.refl _ w).alloc (Nat.le_refl _) _).alloc (by simp) _
theorem RunAns.at {x : Res × St} {k : Int} {en : Nat} {lb : ByteArray} {F : List Cap} {t st dp : Nat} {er : Int} (h1 : ansRes x = ⟨k, en, lb, F, t⟩) (h2 : ansSt x = ⟨st, dp, er⟩) {w w' : World} {e : Ending} (h : RunAns w x e w') :
    ∃ A c, e = .returned (.tuple #[.agg #[.int .i64 k, .int .i64 (en : Nat), .string lb, .slice A F.length c], .agg #[.int .i64 (dp : Nat), .int .i64 (st : Nat)], .int .i64 er]) ∧ Below w.heap.size w w' ∧ OwnF w' w.heap.size (.slice A F.length c) F := by
  obtain ⟨v, he, hb, ho⟩ := h
  rw [h1] at he ho
  rw [h2] at he
  obtain ⟨A, c, rfl⟩ := Go.X.own_slice ho
  exact ⟨A, c, he, hb, ho⟩
theorem runOf_few (rs : List S42) (inp : ByteArray) (r p : Nat) (D S : Int) : (runOf rs inp r p D S).1.forest.length ≤ 1048576 := by
  have h := ev_ok (envOf rs inp) (clamp D S) (2 * (clamp D S).steps + 1) (tre rs r) p 1 st0 (by simp only [st0]; omega)
  have h1 := h.few
  have h2 := h.max (Nat.zero_le _)
  have h3 := (clamp_le D S).2
  unfold runOf
  omega
theorem atAns_few (rs : List S42) (start rule : Int) (inp : ByteArray) (at_ D S : Int) : (ansRes (atAns rs start rule inp at_ D S)).forest.length ≤ 1048576 := by
  have hz : ∀ e : Int, (ansRes ((.zero, ⟨0, 0, e⟩) : Res × St)).forest.length ≤ 1048576 := fun e => by
    rw [ansRes]
    split <;> exact Nat.zero_le _
  unfold atAns
  split
  · split
    · split
      · split
        · rw [ansRes]
          split
          · exact runOf_few _ _ _ _ _ _
          · exact Nat.zero_le _
        · exact hz 5
      · exact hz 1
    · exact hz 5
  · exact hz 6
theorem heavy_no {rs : List S42} (h : decide (4096 < rs.length ∨ 1048576 < sz rs) = false) : rs.length ≤ 1048576 ∧ ∀ x ∈ rs, x.f1.length ≤ 1048576 := by
  have h' := of_decide_eq_false h
  exact ⟨by omega, fun x hx => by have := sz_mem hx; omega⟩
/-- The package's variable. -/
structure GA (w : World) : Prop where
  lt : 0 < w.heap.size
  c0 : w.cell? ⟨0, 0, none⟩ = some (.int .u64 0)
  c1 : w.cell? ⟨0, 1, none⟩ = some (.int .u64 8589934592)
  c2 : w.cell? ⟨0, 2, none⟩ = some (.int .u64 0)
  c3 : w.cell? ⟨0, 3, none⟩ = some (.int .u64 0)
theorem GA.below {w w' : World} (h : GA w) (hb : Below w.heap.size w w') : GA w' :=
  ⟨Nat.lt_of_lt_of_le h.lt hb.size, Below.cell_some hb h.c0, Below.cell_some hb h.c1, Below.cell_some hb h.c2, Below.cell_some hb h.c3⟩
end Go.Proofs.YtmpkkphohilkoaaDoor.B
/- What the rows of this seat share: the listed variable; a world that holds it. -/
namespace Go.Proofs.YtmpkkphohilkoaaDoor.rows
open Go.RowKit Go.ChangeShapes Go.WideShapes Go.ChangeAt Go.X Go.Proofs.YtmpkkphohilkoaaDoor.B Go.Proofs.YtmpkkphohilkoaaDoorW.PrintWords
theorem laidOut : laidOutB Tryd.prog = true := by kernel_rfl
theorem own : ownKnob Tryd.prog.godebug = none := by kernel_rfl
theorem gTab : Tryd.prog.globalNamed "dowel/dowellaw14.a" = some 0 := by kernel_rfl
theorem gTabType : (Tryd.prog.globals[0]?).map (·.type) = some 45 := by kernel_rfl
theorem cellsT : Tryd.prog.cellsOf 45 = 4 := by kernel_rfl
theorem cellsE : Tryd.prog.cellsOf 43 = 1 := by kernel_rfl
/-- What the row's list gives. -/
theorem table {W : World} (h : laidMetH Tryd.prog [("dowel/dowellaw14.a", Rows.laid_dowel_dowellaw14_a)] W) : GA W := by
  have t : Lib.TabIs Tryd.prog W "dowel/dowellaw14.a" .u64 [0, 8589934592, 0, 0] := Lib.tabIs_of_head (rest := []) gTab gTabType Tryd.underlying45 Tryd.underlying43 cellsE cellsT h
  have c0 : W.cell? ⟨0, 0, none⟩ = some (.int .u64 0) := t.cell gTab 0 (by decide)
  exact ⟨World.block_lt_of_cell? W ⟨0, 0, none⟩ c0, c0, t.cell gTab 1 (by decide), t.cell gTab 2 (by decide), t.cell gTab 3 (by decide)⟩
/-- A world for the witness: the settled one, the variable holding what its initialiser lays. -/
noncomputable def laidWorld (os : Os) : World :=
  { World.holding Tryd.prog os ⟨#[], #[], []⟩ with heap := (World.holding Tryd.prog os ⟨#[], #[], []⟩).heap.modify 0 fun
      | .cells _ t frozen => .cells #[.int .u64 0, .int .u64 8589934592, .int .u64 0, .int .u64 0] t frozen
      | o => o }
end Go.Proofs.YtmpkkphohilkoaaDoor.rows
/- works: the law's own example. -/
namespace Go.Proofs.YtmpkkphohilkoaaDoor.B
open Go Go.RowKit Go.X Go.Ma Go.Proofs.YtmpkkphohilkoaaDoorW.PrintWords Go.Proofs.YtmpkkphohilkoaaDoor.F

def nd (op : Int) (c1 : Int) (nm : ByteArray) : S47 := ⟨op, ⟨0, c1, 0, 0⟩, 0, nm⟩
def rsW : List S42 := [⟨⟨#[65]⟩, [nd 1 8589934592 ⟨#[]⟩, nd 8 0 ⟨#[110]⟩, nd 2 0 ⟨#[]⟩, nd 4 0 ⟨#[]⟩, nd 0 0 ⟨#[]⟩, nd 5 0 ⟨#[]⟩]⟩]
theorem works_ans : ansRes (atAns rsW 0 0 ⟨#[97, 97, 98]⟩ 0 100 100) = ⟨1, 2, ⟨#[]⟩, [⟨⟨#[110]⟩, 0, 1, 0⟩, ⟨⟨#[110]⟩, 1, 2, 0⟩], 2⟩ ∧ ansSt (atAns rsW 0 0 ⟨#[97, 97, 98]⟩ 0 100 100) = ⟨15, 10, 0⟩ := by
  constructor <;> kernel_rfl
theorem nd_cells (w : World) (op c1 : Int) (nm : ByteArray) : k47.K w (nd op c1 nm) [.int .i64 op, .int .u64 0, .int .u64 c1, .int .u64 0, .int .u64 0, .int .i64 0, .string nm] := k47_mk w (nd op c1 nm)
def bodyC : List Value := [.int .i64 1, .int .u64 0, .int .u64 8589934592, .int .u64 0, .int .u64 0, .int .i64 0, .string ⟨#[]⟩, .int .i64 8, .int .u64 0, .int .u64 0, .int .u64 0, .int .u64 0, .int .i64 0, .string ⟨#[110]⟩, .int .i64 2, .int .u64 0, .int .u64 0, .int .u64 0, .int .u64 0, .int .i64 0, .string ⟨#[]⟩, .int .i64 4, .int .u64 0, .int .u64 0, .int .u64 0, .int .u64 0, .int .i64 0, .string ⟨#[]⟩, .int .i64 0, .int .u64 0, .int .u64 0, .int .u64 0, .int .u64 0, .int .i64 0, .string ⟨#[]⟩, .int .i64 5, .int .u64 0, .int .u64 0, .int .u64 0, .int .u64 0, .int .i64 0, .string ⟨#[]⟩]
theorem rsW_C {w : World} {b : Nat} (h : Blk w b 47 bodyC)
    (h2 : Blk w (b + 1) 42 [.string ⟨#[65]⟩, .slice (some ⟨b, 0, none⟩) 6 6]) : Kd.C k42 w (some ⟨b + 1, 0, none⟩) 1 rsW := by
  have r1 := ((((((Reps.none (k47.K w) k47.sz).snoc (nd_cells w 1 8589934592 ⟨#[]⟩) rfl).snoc (nd_cells w 8 0 ⟨#[110]⟩) rfl).snoc (nd_cells w 2 0 ⟨#[]⟩) rfl).snoc (nd_cells w 4 0 ⟨#[]⟩) rfl).snoc (nd_cells w 0 0 ⟨#[]⟩) rfl).snoc (nd_cells w 5 0 ⟨#[]⟩) rfl
  have c1 : Kd.C k47 w (some ⟨b, 0, none⟩) 6 [nd 1 8589934592 ⟨#[]⟩, nd 8 0 ⟨#[110]⟩, nd 2 0 ⟨#[]⟩, nd 4 0 ⟨#[]⟩, nd 0 0 ⟨#[]⟩, nd 5 0 ⟨#[]⟩] := X.C_of_blk (rest := []) h r1 (by decide)
  have r2 := (Reps.none (k42.K w) k42.sz).snoc (k42_mk w ⟨⟨#[65]⟩, [nd 1 8589934592 ⟨#[]⟩, nd 8 0 ⟨#[110]⟩, nd 2 0 ⟨#[]⟩, nd 4 0 ⟨#[]⟩, nd 0 0 ⟨#[]⟩, nd 5 0 ⟨#[]⟩]⟩ (A1 := some ⟨b, 0, none⟩) (c1 := 6) (by decide) c1) rfl
  exact X.C_of_blk (rest := []) h2 r2 (by decide)
theorem own2 {w : World} {lo c : Nat} {A : Option Addr} (h : OwnF w lo (.slice A 2 c) [⟨⟨#[110]⟩, 0, 1, 0⟩, ⟨⟨#[110]⟩, 1, 2, 0⟩]) : ∃ g, A = some ⟨g, 0, none⟩ ∧ w.cell? ⟨g, 4, none⟩ = some (.string ⟨#[110]⟩) ∧ w.cell? ⟨g, 5, none⟩ = some (.int .i64 1) ∧ w.cell? ⟨g, 6, none⟩ = some (.int .i64 2) ∧ w.cell? ⟨g, 7, none⟩ = some (.int .i64 0) := by
  have hc := h
  rcases h.2 with ⟨_, h0⟩ | ⟨g, cap, cur, h1, _, _, _, _, _, _⟩
  · cases h0
  · injection h1 with h1 _ _
    subst h1
    have k := World.ownsRow.cells hc (g := g) rfl
    exact ⟨g, rfl, k 4 _ rfl, k 5 _ rfl, k 6 _ rfl, k 7 _ rfl⟩
set_option maxRecDepth 100000 in
set_option maxHeartbeats 4000000 in
attribute [local go_sem high] eqA49 in
theorem works.calls (w : World) (g0 : w.cell? ⟨0, 0, none⟩ = some (.int .u64 0)) (g1 : w.cell? ⟨0, 1, none⟩ = some (.int .u64 8589934592)) (g2 : w.cell? ⟨0, 2, none⟩ = some (.int .u64 0)) (g3 : w.cell? ⟨0, 3, none⟩ = some (.int .u64 0)) :
    Calls Tryd.prog 6 #[] w fun e w' => e = .returned (.bool true) ∧ Below w.heap.size w w' := by
  go_enter Tryd.func6, Tryd.ntmps6
  go_wp2_with (fail)
  clear g0 g1 g2 g3
  generalize hw1 : w.alloc (.cells #[.int .i64 1, .int .u64 0, .int .u64 8589934592, .int .u64 0, .int .u64 0, .int .i64 0, .string ⟨#[]⟩, .int .i64 8, .int .u64 0, .int .u64 0, .int .u64 0, .int .u64 0, .int .i64 0, .string ⟨#[110]⟩, .int .i64 2, .int .u64 0, .int .u64 0, .int .u64 0, .int .u64 0, .int .i64 0, .string ⟨#[]⟩, .int .i64 4, .int .u64 0, .int .u64 0, .int .u64 0, .int .u64 0, .int .i64 0, .string ⟨#[]⟩, .int .i64 0, .int .u64 0, .int .u64 0, .int .u64 0, .int .u64 0, .int .i64 0, .string ⟨#[]⟩, .int .i64 5, .int .u64 0, .int .u64 0, .int .u64 0, .int .u64 0, .int .i64 0, .string ⟨#[]⟩] 47) = w1
  have z1 : w1.heap.size = w.heap.size + 1 := by rw [← hw1]; simp
  have k1 : Blk w1 w.heap.size 47 bodyC := by rw [← hw1]; exact Blk.alloc w _ _
  have b1 : Below w.heap.size w w1 := by rw [← hw1]; exact (Below.refl _ w).alloc (Nat.le_refl _) _
  clear hw1
  generalize hw2 : w1.alloc (.cells #[.string ⟨#[65]⟩, .slice (some ⟨w.heap.size, 0, none⟩) 6 6] 42) = w2
  have b2 : Below w1.heap.size w1 w2 := by rw [← hw2]; exact (Below.refl _ w1).alloc (Nat.le_refl _) _
  have k2 : Blk w2 (w.heap.size + 1) 42 [.string ⟨#[65]⟩, .slice (some ⟨w.heap.size, 0, none⟩) 6 6] := by rw [← hw2, ← z1]; exact Blk.alloc w1 _ _
  clear hw2
  have k1' := k1.below b2 k1.lt
  generalize hw3 : w2.alloc (.cells #[.slice (some ⟨w.heap.size + 1, 0, none⟩) 1 1, .int .i64 0] 24) = w3
  have b3 : Below w2.heap.size w2 w3 := by rw [← hw3]; exact (Below.refl _ w2).alloc (Nat.le_refl _) _
  clear hw3
  have hC := rsW_C (k1'.below b3 k1'.lt) (k2.below b3 k2.lt)
  have HB : Hid (Below w.heap.size w w3) := by
    have b12 := b1.trans (b2.mono b1.size)
    exact b12.trans (b3.mono b12.size)
  clear k1 k1' k2 b1 b2 b3 z1
  refine (mrun.calls (some ⟨w.heap.size + 1, 0, none⟩) 1 0 rsW ⟨#[97, 97, 98]⟩ 100 100 w3 hC (by decide) (by decide)).mono ?_
  rintro e w4 hans
  obtain ⟨A, c, rfl, hbw, hown⟩ := RunAns.at works_ans.1 works_ans.2 hans
  clear hans hC
  obtain ⟨g, rfl, h4, h5, h6, h7⟩ := own2 hown
  clear hown
  have HB4 : Hid (Below w.heap.size w w4) := HB.out.trans (hbw.mono HB.out.size)
  clear HB hbw
  dsimp only
  have HZ : Hid (Below w4.heap.size w4 ((w4.alloc (.cells #[.int .i64 1, .int .i64 2, .string ⟨#[]⟩, .slice (some ⟨g, 0, none⟩) 2 c] 31)).alloc (.cells #[.int .i64 10, .int .i64 15] 32))) := two_below w4 1 2 ⟨#[]⟩ (.slice (some ⟨g, 0, none⟩) 2 c) 10 15
  have z4 : ((w4.alloc (.cells #[.int .i64 1, .int .i64 2, .string ⟨#[]⟩, .slice (some ⟨g, 0, none⟩) 2 c] 31)).alloc (.cells #[.int .i64 10, .int .i64 15] 32)).cell? ⟨g, 4, none⟩ = some (.string ⟨#[110]⟩) := Below.cell_some HZ.out h4
  have z5 : ((w4.alloc (.cells #[.int .i64 1, .int .i64 2, .string ⟨#[]⟩, .slice (some ⟨g, 0, none⟩) 2 c] 31)).alloc (.cells #[.int .i64 10, .int .i64 15] 32)).cell? ⟨g, 5, none⟩ = some (.int .i64 1) := Below.cell_some HZ.out h5
  have z6 : ((w4.alloc (.cells #[.int .i64 1, .int .i64 2, .string ⟨#[]⟩, .slice (some ⟨g, 0, none⟩) 2 c] 31)).alloc (.cells #[.int .i64 10, .int .i64 15] 32)).cell? ⟨g, 6, none⟩ = some (.int .i64 2) := Below.cell_some HZ.out h6
  have z7 : ((w4.alloc (.cells #[.int .i64 1, .int .i64 2, .string ⟨#[]⟩, .slice (some ⟨g, 0, none⟩) 2 c] 31)).alloc (.cells #[.int .i64 10, .int .i64 15] 32)).cell? ⟨g, 7, none⟩ = some (.int .i64 0) := Below.cell_some HZ.out h7
  clear h4 h5 h6 h7
  go_wp2
  go_ret
  exact ⟨rfl, HB4.out.trans (HZ.out.mono HB4.out.size)⟩
end Go.Proofs.YtmpkkphohilkoaaDoor.B
/- Regions that run match.Run: what the steps share. -/
namespace Go.Proofs.YtmpkkphohilkoaaDoor.B
open Go Go.RowKit Go.X Go.Ma Go.Proofs.YtmpkkphohilkoaaDoorW.PrintWords Go.Proofs.YtmpkkphohilkoaaDoor.F
/-- An answer of this shape. -/
theorem RunAns.any {x : Res × St} {w w' : World} {e : Ending} (h : RunAns w x e w') :
    ∃ A c, e = .returned (.tuple #[.agg #[.int .i64 (ansRes x).kind, .int .i64 ((ansRes x).en : Nat), .string (ansRes x).label, .slice A (ansRes x).forest.length c], .agg #[.int .i64 ((ansSt x).depth : Nat), .int .i64 ((ansSt x).steps : Nat)], .int .i64 (ansSt x).err]) ∧ Below w.heap.size w w' ∧ OwnF w' w.heap.size (.slice A (ansRes x).forest.length c) (ansRes x).forest := by
  obtain ⟨v, he, hb, ho⟩ := h
  obtain ⟨a, c, rfl⟩ := Go.X.own_slice ho
  exact ⟨a, c, he, hb, ho⟩
theorem lendRun.calls (Ar : Option Addr) (c : Nat) (start : Int) (rs : List S42) (w : World) (hr : Kd.C k42 w Ar rs.length rs) (mr : rs.length ≤ 1048576) (mb : ∀ x ∈ rs, x.f1.length ≤ 1048576) :
    Calls Tryd.prog 9 #[.agg #[.slice Ar rs.length c, .int .i64 start]] w fun e w' => ∃ br, e = .returned (.agg #[.slice (some ⟨br, 0, none⟩) rs.length (rs.length + 1), .int .i64 start]) ∧ Kd.C k42 w' (some ⟨br, 0, none⟩) rs.length rs ∧ Below w.heap.size w w' :=
  (LendCore.calls Ar c start rs w hr mr mb).mono fun _ _ ⟨br, _, h1, h2, _, h3⟩ => ⟨br, h1, h2.C mr mb, h3⟩
theorem zero31 : (Tryd.prog.info? 31).map (·.zero) = some (some (.agg #[.int .i64 0, .int .i64 0, .string ⟨#[]⟩, .slice none 0 0])) := by kernel_rfl
theorem zero32 : (Tryd.prog.info? 32).map (·.zero) = some (some (.agg #[.int .i64 0, .int .i64 0])) := by kernel_rfl
/-- The answer's parts, as cells. -/
abbrev oC (X : Res × St) (v : Value) : List Value := [.int .i64 (ansRes X).kind, .int .i64 ((ansRes X).en : Nat), .string (ansRes X).label, v]
abbrev uC (X : Res × St) : List Value := [.int .i64 ((ansSt X).depth : Nat), .int .i64 ((ansSt X).steps : Nat)]
abbrev ansV (X : Res × St) (A : Option Addr) (c : Nat) : Value := .tuple #[.agg (oC X (.slice A (ansRes X).forest.length c)).toArray, .agg (uC X).toArray, .int .i64 (ansSt X).err]
end Go.Proofs.YtmpkkphohilkoaaDoor.B
namespace Go.Proofs.YtmpkkphohilkoaaDoor.F
open Go.RowKit Go.Proofs.YtmpkkphohilkoaaDoorW.PrintWords Go.Proofs.YtmpkkphohilkoaaDoorW.PrintLast Go.Proofs.YtmpkkphohilkoaaDoorW.PrintMore
attribute [local go_sem] max2_int min2_int max_two min_two max_three min_three max_four min_four   -- for this text's walks alone
set_option linter.unusedVariables false
set_option linter.unusedSimpArgs false

/-! ### forest_ends: function 21 -/

/-! ### forest_roots: function 22 -/

/-! ### forest_own: function 33 -/

-- NOT PRINTED: function 23 (forest_nested)

-- NOT PRINTED: function 14 (forest_Check)

-- NOT PRINTED: function 5 (dowellaw14_MatchWithin)

end Go.Proofs.YtmpkkphohilkoaaDoor.F
/- Forests by their places; what ends, roots and own answer of them; the names in a right core grammar. Plain. -/
namespace Go.Proofs.YtmpkkphohilkoaaDoor.B
open Go Go.RowKit Go.X Go.Ma Go.Proofs.YtmpkkphohilkoaaDoorW.PrintWords Go.Proofs.YtmpkkphohilkoaaDoorW.PrintLast Go.Proofs.YtmpkkphohilkoaaDoorW.PrintMore Go.Proofs.YtmpkkphohilkoaaDoor.F Go.Proofs.YtmpkkphohilkoaaDoor.Nm
set_option linter.unusedSimpArgs false

def Own (s : ByteArray) : Prop := nameOK s = true ∧ plainS s = true
theorem Own.ne {s : ByteArray} (h : Own s) : s ≠ ⟨#[]⟩ := by
  rintro rfl
  have := h.1
  simp [nameOK] at this
  exact this.1 rfl

theorem nodeN_of {N : Nat} {x : S47} (h : nodeOK N x = true) : (x.f0 = 3 → x.f3 ≠ ⟨#[]⟩) ∧ (x.f0 = 8 → Own x.f3) ∧ 0 ≤ x.f0 ∧ x.f0 ≤ 8 := by
  unfold nodeOK at h
  rw [Bool.and_eq_true] at h
  obtain ⟨h1, h2⟩ := h
  have h1 := of_decide_eq_true h1
  refine ⟨fun e => ?_, fun e => ?_, h1.1, h1.2.1⟩
  · rw [if_pos (.inl e), Bool.and_eq_true] at h2
    exact Own.ne h2
  · rw [if_pos (.inr e), Bool.and_eq_true] at h2
    exact h2

theorem rdT {xs : List S49} {i : Nat} {x : S49} (h : xs[i]? = some x) : rd_T49 xs (i : Int) = x := by
  rw [rd_T49, Int.toNat_natCast, List.getD_eq_getElem?_getD, h]; rfl
end Go.Proofs.YtmpkkphohilkoaaDoor.B
