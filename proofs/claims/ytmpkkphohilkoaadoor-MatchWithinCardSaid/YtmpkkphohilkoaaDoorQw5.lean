/- Texts joined and shortened (wip/tools/shrink.py): MName, Fx3, Fx7, Fx8, Fx9, Fx1, Fx10, Fx11, Fx12, Fx4, MPure, MCheck, Fx2, Fx5. -/
import Derived.Test.YtmpkkphohilkoaaDoorProg
import Derived.WalkKit
import Derived.Lib.Hide
import Derived.Test.YtmpkkphohilkoaaDoorQw4
import Derived.Test.YtmpkkphohilkoaaDoorQw2
/- Names: letter, digit, own, numbered, named, Name of lexis (the same text as wip/lib/CName, with this seat's numbers). -/
namespace Go.Proofs.YtmpkkphohilkoaaDoor.Nm
open Go Go.RowKit Go.X Go.Proofs.YtmpkkphohilkoaaDoorW.PrintWords

def letterZ (c : Int) : Bool := (decide (97 ≤ c) && decide (c ≤ 122)) || (decide (65 ≤ c) && decide (c ≤ 90)) || decide (c = 95)
def digitZ (c : Int) : Bool := decide (48 ≤ c) && decide (c ≤ 57)
def ldZ (c : Int) : Bool := letterZ c || digitZ c
def bl (s : ByteArray) : List Int := s.data.toList.map fun c => (c.toNat : Int)
theorem bl_length (s : ByteArray) : (bl s).length = s.size := by simp [bl]
theorem bl_get (s : ByteArray) {i : Nat} (h : i < s.size) : ((s[i]'h).toNat : Int) = (bl s).getD i 0 := by
  have h' : i < s.data.size := h
  rw [List.getD_eq_getElem?_getD, bl, List.getElem?_map, Array.getElem?_toList, Array.getElem?_eq_getElem h']
  rfl
theorem drop_bl (s : ByteArray) {i : Nat} (h : i < s.size) : (bl s).drop i = (bl s).getD i 0 :: (bl s).drop (i + 1) := by
  have h' : i < (bl s).length := by rw [bl_length]; exact h
  rw [List.drop_eq_getElem_cons h', List.getD_eq_getElem?_getD, List.getElem?_eq_getElem h']
  rfl
theorem drop_bl_nil (s : ByteArray) {i : Nat} (h : s.size ≤ i) : (bl s).drop i = [] := List.drop_of_length_le (by rw [bl_length]; exact h)
def run (p : Int → Bool) (l : List Int) : Nat := (l.takeWhile p).length
theorem run_nil (p : Int → Bool) : run p [] = 0 := rfl
theorem run_cons (p : Int → Bool) (c : Int) (r : List Int) : run p (c :: r) = if p c then 1 + run p r else 0 := by
  unfold run
  cases h : p c <;> simp [h, Nat.add_comm]
def ownL : List Int → Nat
  | [] => 0
  | c :: r => if letterZ c then 1 + run ldZ r else 0
set_option maxHeartbeats 1000000 in
theorem letter.calls (c : Int) (w : World) : Calls Tryd.prog 48 #[.int .u8 c] w fun e w' => e = .returned (.bool (letterZ c)) ∧ w' = w := by
  go_enter Tryd.func48, Tryd.ntmps48
  by_cases h1 : 97 ≤ c <;> by_cases h2 : c ≤ 122 <;> by_cases h3 : 65 ≤ c <;> by_cases h4 : c ≤ 90 <;> by_cases h5 : c = 95 <;>
  (first | (exfalso; omega) | (go_wp2; go_ret; refine ⟨congrArg (fun b => Ending.returned (.bool b)) (?_ : _ = letterZ _), rfl⟩; rw [Bool.eq_iff_iff]; simp [letterZ] <;> omega))
set_option maxHeartbeats 1000000 in
theorem digit.calls (c : Int) (w : World) : Calls Tryd.prog 49 #[.int .u8 c] w fun e w' => e = .returned (.bool (digitZ c)) ∧ w' = w := by
  go_enter Tryd.func49, Tryd.ntmps49
  by_cases h1 : 48 ≤ c <;> by_cases h2 : c ≤ 57 <;> (go_wp2; go_ret; exact ⟨by simp [digitZ, *], rfl⟩)
set_option maxHeartbeats 1000000 in
theorem ownN.calls (s : ByteArray) (at_ : Nat) (w : World) (hs : s.size ≤ 9223372036854775807) (hat : at_ ≤ s.size) : Calls Tryd.prog 42 #[.string s, .int .i64 at_] w fun e w' => e = .returned (.int .i64 (ownL ((bl s).drop at_))) ∧ w' = w := by
  go_enter Tryd.func42, Tryd.ntmps42
  go_wp2
  go_loopg [5] (s.size - at_) (fun q v wr => ∃ n : Nat, q + (at_ + n) = s.size ∧ v = .int .i64 n ∧ Hid ((n = 0 ∨ ownL ((bl s).drop at_) = n + run ldZ ((bl s).drop (at_ + n)))) ∧ wr = w)
  case atStart => exact ⟨0, by omega, rfl, .inl rfl, rfl⟩
  case round =>
    obtain ⟨n, hn, rfl, HO, rfl⟩ := hrel
    have h1 : IntKind.i64.wrap ((at_ : Int) + n) = (at_ : Int) + n := IntWalk.i64_in _ (by omega)
    by_cases hlt : at_ + n < s.size
    · have hd := drop_bl s hlt
      have hc := bl_get s hlt
      generalize (bl s).getD (at_ + n) 0 = c at *
      have HD := Lib.hid hd; clear hd
      by_cases hl : letterZ c = true
      · go_wp2_with (first | (go_at_call 48; refine (letter.calls _ _).mono ?_; rintro e w1 ⟨rfl, rfl⟩; dsimp only) | fail)
        go_roundg (s.size - (at_ + (n + 1)))
        case measure => omega
        case rel =>
          refine ⟨n + 1, by omega, by go_num, .inr ?_, rfl⟩
          rcases HO.out with rfl | h
          · have hd := HD.out
            rw [Nat.add_zero] at hd
            rw [hd, ownL, if_pos hl]
          · rw [h, HD.out, run_cons, if_pos (by simp [ldZ, hl])]; show _ = n + 1 + run ldZ ((bl s).drop (at_ + n + 1)); omega
      · by_cases h0 : n = 0
        · subst h0
          simp only [Nat.add_zero] at hc
          go_wp2_with (first | (go_at_call 48; refine (letter.calls _ _).mono ?_; rintro e w1 ⟨rfl, rfl⟩; dsimp only) | fail)
          go_ret
          have hd := HD.out
          rw [Nat.add_zero] at hd
          rw [hd, ownL, if_neg hl]
          exact ⟨rfl, rfl⟩
        · have hpos : 0 < n := Nat.pos_of_ne_zero h0
          have ho : Hid (ownL ((bl s).drop at_) = n + run ldZ ((bl s).drop (at_ + n))) := HO.out.resolve_left h0
          by_cases hdg : digitZ c = true
          · go_wp2_with (first | (go_at_call 48; refine (letter.calls _ _).mono ?_; rintro e w1 ⟨rfl, rfl⟩; dsimp only) | (go_at_call 49; refine (digit.calls _ _).mono ?_; rintro e w1 ⟨rfl, rfl⟩; dsimp only) | fail)
            go_roundg (s.size - (at_ + (n + 1)))
            case measure => omega
            case rel =>
              refine ⟨n + 1, by omega, by go_num, .inr ?_, rfl⟩
              rw [ho.out, HD.out, run_cons, if_pos (by simp [ldZ, hdg])]; show _ = n + 1 + run ldZ ((bl s).drop (at_ + n + 1)); omega
          · go_wp2_with (first | (go_at_call 48; refine (letter.calls _ _).mono ?_; rintro e w1 ⟨rfl, rfl⟩; dsimp only) | (go_at_call 49; refine (digit.calls _ _).mono ?_; rintro e w1 ⟨rfl, rfl⟩; dsimp only) | fail)
            go_ret
            rw [ho.out, HD.out, run_cons, if_neg (by simp [ldZ, hdg, hl])]
            exact ⟨rfl, rfl⟩
    · go_wp2
      go_ret
      refine ⟨?_, rfl⟩
      have e : (bl s).drop (at_ + n) = [] := drop_bl_nil s (by omega)
      rcases HO.out with rfl | h
      · rw [Nat.add_zero] at e
        rw [e]
        rfl
      · rw [h, e]
        rfl
set_option maxHeartbeats 2000000 in
def numL (l : List Int) : Nat :=
  match l with
  | [] => 0
  | c :: r => if c = 126 ∧ run digitZ r ≠ 0 ∧ run digitZ r ≤ 5 ∧ r.getD 0 0 ≠ 48 then 1 + run digitZ r else 0
theorem numL_of {l r : List Int} (h : l = 126 :: r) (n : Nat) (hn : n = 1 + run digitZ r) :
    (n = 1 → numL l = 0) ∧ (6 < n → numL l = 0) ∧ (n ≠ 1 → n ≤ 6 → (l.getD 1 0 = 48 → numL l = 0) ∧ (l.getD 1 0 ≠ 48 → numL l = n)) := by
  subst h
  rw [numL]
  refine ⟨fun h => if_neg (by omega), fun h => if_neg (by omega), fun h h6 => ⟨fun h48 => if_neg (fun hx => hx.2.2.2 h48), fun h48 => ?_⟩⟩
  rw [if_pos ⟨rfl, by omega, by omega, h48⟩, hn]
theorem run_le (p : Int → Bool) (l : List Int) : run p l ≤ l.length := (List.takeWhile_sublist p).length_le
set_option maxHeartbeats 2000000 in
theorem numbered.calls (s : ByteArray) (w : World) (hs : s.size ≤ 9223372036854775807) : Calls Tryd.prog 44 #[.string s] w fun e w' => e = .returned (.int .i64 (numL (bl s))) ∧ w' = w := by
  go_enter Tryd.func44, Tryd.ntmps44
  by_cases h0 : s.size = 0
  · have e : bl s = [] := by have := drop_bl_nil s (i := 0) (by omega); simpa using this
    have es : s = ⟨#[]⟩ := by cases s with | mk d => cases d with | mk l => cases l <;> simp_all [ByteArray.size]
    subst es
    clear h0
    go_wp2
    go_ret
    rw [e]
    exact ⟨rfl, rfl⟩
  · have hp : 0 < s.size := by omega
    have hd := drop_bl s hp
    have hc := bl_get s hp
    rw [List.drop_zero] at hd
    generalize (bl s).getD 0 0 = c at *
    have HD0 : Hid (bl s = c :: (bl s).drop 1) := hd
    clear hd
    have hne : (s.toList == []) = false := by
      have h2 : s.toList.length = s.size := by rw [ByteArray.toList_eq]; rfl
      cases h : s.toList with
      | nil => rw [h] at h2; simp at h2; omega
      | cons a r => rfl
    by_cases h1 : c = 126
    · subst h1
      go_wp2
      clear hc
      go_loopg [3] (s.size - 1) (fun q v wr => ∃ n : Nat, q + n = s.size ∧ v = .int .i64 n ∧ 1 ≤ n ∧ Hid (1 + run digitZ ((bl s).drop 1) = n + run digitZ ((bl s).drop n)) ∧ wr = w)
      case atStart => exact ⟨1, by omega, rfl, by omega, rfl, rfl⟩
      case round =>
        obtain ⟨n, hn, rfl, h1n, HO, rfl⟩ := hrel
        by_cases hlt : n < s.size
        · have hd := drop_bl s hlt
          have hc := bl_get s hlt
          generalize (bl s).getD n 0 = c at *
          have HD := Lib.hid hd; clear hd
          by_cases hdg : digitZ c = true
          · go_wp2_with (first | (go_at_call 49; refine (digit.calls _ _).mono ?_; rintro e w1 ⟨rfl, rfl⟩; dsimp only) | fail)
            go_roundg (s.size - (n + 1))
            case measure => omega
            case rel => exact ⟨n + 1, by omega, by go_num, by omega, by have := HO.out; rw [HD.out, run_cons, if_pos (by simp [hdg])] at this; show _ = _; omega, rfl⟩
          · have hdg' : digitZ c = false := by simpa using hdg
            clear hdg
            have hF := numL_of HD0.out n (by have := HO.out; rw [HD.out, run_cons, if_neg (by simp [hdg'])] at this; omega)
            by_cases a1 : n = 1
            · have HV := Lib.hid (hF.1 a1); clear hF
              subst a1
              go_wp2_with (first | (go_at_call 49; refine (digit.calls _ _).mono ?_; rintro e w1 ⟨rfl, rfl⟩; dsimp only) | fail)
              go_ret
              rw [HV.out]
              exact ⟨rfl, rfl⟩
            · have a1' : ((n : Int) == 1) = false := by rw [beq_eq_false_iff_ne]; omega
              by_cases a2 : 6 < n
              · have a2' : (6 : Int) < (n : Int) := by omega
                have HV := Lib.hid (hF.2.1 a2); clear hF
                go_wp2_with (first | (go_at_call 49; refine (digit.calls _ _).mono ?_; rintro e w1 ⟨rfl, rfl⟩; dsimp only) | fail)
                go_ret
                rw [HV.out]
                exact ⟨rfl, rfl⟩
              · have a2' : ¬ ((6 : Int) < (n : Int)) := by omega
                have hs1 : 1 < s.size := by omega
                have hc1 := bl_get s hs1
                have hG := hF.2.2 a1 (by omega)
                clear hF
                generalize (bl s).getD 1 0 = d at *
                have HG := Lib.hid hG; clear hG
                have hs1' : (1 : Int) < (s.size : Int) := by omega
                by_cases a3 : d = 48
                · have HV := Lib.hid (HG.out.1 a3)
                  subst a3
                  go_wp2_with (first | (go_at_call 49; refine (digit.calls _ _).mono ?_; rintro e w1 ⟨rfl, rfl⟩; dsimp only) | fail)
                  go_ret
                  rw [HV.out]
                  exact ⟨rfl, rfl⟩
                · have a3' : (d == 48) = false := by rw [beq_eq_false_iff_ne]; exact a3
                  go_wp2_with (first | (go_at_call 49; refine (digit.calls _ _).mono ?_; rintro e w1 ⟨rfl, rfl⟩; dsimp only) | fail)
                  go_ret
                  rw [HG.out.2 a3]
                  exact ⟨rfl, rfl⟩
        · skip
          have hF := numL_of HD0.out n (by have := HO.out; rw [drop_bl_nil s (i := n) (by omega), run_nil] at this; omega)
          by_cases a1 : n = 1
          · have HV := Lib.hid (hF.1 a1); clear hF
            subst a1
            go_wp2_with (first | (go_at_call 49; refine (digit.calls _ _).mono ?_; rintro e w1 ⟨rfl, rfl⟩; dsimp only) | fail)
            go_ret
            rw [HV.out]
            exact ⟨rfl, rfl⟩
          · have a1' : ((n : Int) == 1) = false := by rw [beq_eq_false_iff_ne]; omega
            by_cases a2 : 6 < n
            · have a2' : (6 : Int) < (n : Int) := by omega
              have HV := Lib.hid (hF.2.1 a2); clear hF
              go_wp2_with (first | (go_at_call 49; refine (digit.calls _ _).mono ?_; rintro e w1 ⟨rfl, rfl⟩; dsimp only) | fail)
              go_ret
              rw [HV.out]
              exact ⟨rfl, rfl⟩
            · have a2' : ¬ ((6 : Int) < (n : Int)) := by omega
              have hs1 : 1 < s.size := by omega
              have hc1 := bl_get s hs1
              have hG := hF.2.2 a1 (by omega)
              clear hF
              generalize (bl s).getD 1 0 = d at *
              have HG := Lib.hid hG; clear hG
              have hs1' : (1 : Int) < (s.size : Int) := by omega
              by_cases a3 : d = 48
              · have HV := Lib.hid (HG.out.1 a3)
                subst a3
                go_wp2_with (first | (go_at_call 49; refine (digit.calls _ _).mono ?_; rintro e w1 ⟨rfl, rfl⟩; dsimp only) | fail)
                go_ret
                rw [HV.out]
                exact ⟨rfl, rfl⟩
              · have a3' : (d == 48) = false := by rw [beq_eq_false_iff_ne]; exact a3
                go_wp2_with (first | (go_at_call 49; refine (digit.calls _ _).mono ?_; rintro e w1 ⟨rfl, rfl⟩; dsimp only) | fail)
                go_ret
                rw [HG.out.2 a3]
                exact ⟨rfl, rfl⟩
    · go_wp2
      go_ret
      rw [HD0.out, numL, if_neg (by simp [h1])]
      exact ⟨rfl, rfl⟩

theorem bl_extract (s : ByteArray) (i j : Nat) : bl (s.extract i j) = ((bl s).drop i).take (j - i) := by
  simp only [bl, ByteArray.data_extract, Array.toList_extract, List.extract_eq_take_drop, List.map_take, List.map_drop]
theorem bl_rest (s : ByteArray) (i : Nat) : bl (s.extract i s.size) = (bl s).drop i := by
  rw [bl_extract, List.take_of_length_le (by rw [List.length_drop, bl_length]; omega)]
theorem size_extract (s : ByteArray) (i j : Nat) (h : j ≤ s.size) : (s.extract i j).size = j - i := by
  rw [ByteArray.size_extract]; omega
theorem colons_iff (s : ByteArray) : (s.toList == [58, 58]) = decide (bl s = [58, 58]) := by
  rw [ByteArray.toList_eq, bl, Bool.eq_iff_iff]
  generalize s.data.toList = l
  simp only [beq_iff_eq, decide_eq_true_eq]
  constructor
  · rintro rfl; rfl
  · intro h
    match l, h with
    | [a, b], h =>
      simp only [List.map_cons, List.map_nil, List.cons.injEq, and_true] at h
      obtain ⟨h1, h2⟩ := h
      have e1 : a = 58 := UInt8.toNat_inj.1 (by simpa using Int.ofNat_inj.1 h1)
      have e2 : b = 58 := UInt8.toNat_inj.1 (by simpa using Int.ofNat_inj.1 h2)
      rw [e1, e2]
    | [], h => simp at h
    | [_], h => simp at h
    | _ :: _ :: _ :: _, h => simp at h
set_option maxHeartbeats 1000000 in
theorem hasPrefix0.calls (s : ByteArray) (w : World) (hs : s.size ≤ 9223372036854775807) : Calls Tryd.prog 50 #[.string s, .string ⟨#[58, 58]⟩] w fun e w' => e = .returned (.bool (decide ((bl s).take 2 = [58, 58]))) ∧ w' = w := by
  go_enter Tryd.func50, Tryd.ntmps50
  by_cases h : 2 ≤ s.size
  · have h' : (2 : Int) ≤ (s.size : Int) := by omega
    go_wp2
    go_ret
    refine ⟨congrArg (fun b => Ending.returned (.bool b)) ?_, rfl⟩
    show ((s.extract 0 2).toList == [58, 58]) = _
    rw [colons_iff, bl_extract]
    rfl
  · go_wp2
    go_ret
    refine ⟨congrArg (fun b => Ending.returned (.bool b)) ?_, rfl⟩
    symm
    rw [decide_eq_false_iff_not]
    intro h2
    have := congrArg List.length h2
    rw [List.length_take, bl_length] at this
    simp at this
    omega
set_option maxHeartbeats 1000000 in
theorem hasPrefix.calls (s : ByteArray) (w : World) (hs : s.size ≤ 9223372036854775807) : Calls Tryd.prog 43 #[.string s, .string ⟨#[58, 58]⟩] w fun e w' => e = .returned (.bool (decide ((bl s).take 2 = [58, 58]))) ∧ w' = w := by
  go_enter Tryd.func43, Tryd.ntmps43
  go_wp2_with (fail)
  refine (hasPrefix0.calls s w hs).mono ?_
  rintro e w1 ⟨rfl, rfl⟩
  dsimp only
  go_wp2
  go_ret
  exact ⟨rfl, rfl⟩
theorem ownL_le (l : List Int) : ownL l ≤ l.length := by
  cases l with
  | nil => exact Nat.le_refl _
  | cons c r =>
    rw [ownL]
    split
    · have := run_le ldZ r
      simp only [List.length_cons]
      omega
    · omega
def mid (l : List Int) (n : Nat) : Nat := if (l.drop n).take 2 = [58, 58] ∧ ownL (l.drop (n + 2)) ≠ 0 then n + 2 + ownL (l.drop (n + 2)) else n
def namedL (l : List Int) : Nat := if ownL l = 0 then 0 else mid l (ownL l) + numL (l.drop (mid l (ownL l)))
theorem colons_len {l : List Int} {n : Nat} (h : (l.drop n).take 2 = [58, 58]) : n + 2 ≤ l.length := by
  have := congrArg List.length h
  rw [List.length_take, List.length_drop] at this
  simp at this
  omega
theorem numL_le (l : List Int) : numL l ≤ l.length := by
  cases l with
  | nil => exact Nat.le_refl _
  | cons c r =>
    rw [numL]
    split
    · have := run_le digitZ r
      simp only [List.length_cons]
      omega
    · omega
set_option maxHeartbeats 2000000 in
theorem named.calls (s : ByteArray) (w : World) (hs : s.size ≤ 9223372036854775807) : Calls Tryd.prog 34 #[.string s, .int .i64 0] w fun e w' => e = .returned (.int .i64 (namedL (bl s))) ∧ w' = w := by
  go_enter Tryd.func34, Tryd.ntmps34
  go_wp2_with (fail)
  refine (ownN.calls s 0 w hs (by omega)).mono ?_
  rintro e w1 ⟨rfl, rfl⟩
  dsimp only
  rw [List.drop_zero]
  have hle := ownL_le (bl s)
  rw [bl_length] at hle
  by_cases h0 : ownL (bl s) = 0
  · rw [h0]
    go_wp2
    go_ret
    rw [namedL, if_pos h0]
    exact ⟨rfl, rfl⟩
  have HN : Hid (namedL (bl s) = mid (bl s) (ownL (bl s)) + numL ((bl s).drop (mid (bl s) (ownL (bl s))))) := by
    show _ = _
    rw [namedL, if_neg h0]
  generalize ownL (bl s) = n at *
  have h0' : ((n : Int) == 0) = false := by rw [beq_eq_false_iff_ne]; omega
  have hw : wrap64 (n : Int) = n := IntWalk.wrap64_in _ (by omega)
  have hb : (0 : Int) ≤ (n : Int) ∧ (n : Int) ≤ (s.size : Int) := by omega
  have ht : ((n : Int)).toNat = n := Int.toNat_natCast n
  go_wp2_with (fail)
  refine (hasPrefix.calls _ w1 (by rw [size_extract _ _ _ (Nat.le_refl _)]; omega)).mono ?_
  rintro e w2 ⟨rfl, rfl⟩
  dsimp only
  rw [bl_rest]
  by_cases hc : ((bl s).drop n).take 2 = [58, 58]
  · have hl := colons_len hc
    rw [bl_length] at hl
    have HM : Hid (mid (bl s) n = if ownL ((bl s).drop (n + 2)) = 0 then n else n + 2 + ownL ((bl s).drop (n + 2))) := by
      show _ = _
      rw [mid]
      by_cases hz : ownL ((bl s).drop (n + 2)) = 0
      · rw [if_neg (fun h => h.2 hz), if_pos hz]
      · rw [if_pos ⟨hc, hz⟩, if_neg hz]
    rw [decide_eq_true hc]
    clear hc
    have hw2 : wrap64 ((n : Int) + 2) = ((n + 2 : Nat) : Int) := by rw [IntWalk.wrap64_in _ (by omega)]; rfl
    have hle2 := ownL_le ((bl s).drop (n + 2))
    rw [List.length_drop, bl_length] at hle2
    go_wp2_with (fail)
    refine (ownN.calls s (n + 2) w2 hs (by omega)).mono ?_
    rintro e w3 ⟨rfl, rfl⟩
    dsimp only
    generalize ownL ((bl s).drop (n + 2)) = m at *
    by_cases hm : m = 0
    · subst hm
      have HM2 : Hid (mid (bl s) n = n) := HM.out
      clear HM
      go_wp2_with (fail)
      refine (numbered.calls _ w3 (by rw [size_extract _ _ _ (Nat.le_refl _)]; omega)).mono ?_
      rintro e w4 ⟨rfl, rfl⟩
      dsimp only
      have hnum := numL_le ((bl s).drop n)
      rw [List.length_drop, bl_length] at hnum
      rw [bl_rest]
      have hN := HN.out
      rw [HM2.out] at hN
      have HN2 := Lib.hid hN
      clear hN HN
      generalize numL ((bl s).drop n) = q at *
      have hw3 : wrap64 ((n : Int) + q) = ((n + q : Nat) : Int) := by rw [IntWalk.wrap64_in _ (by omega)]; rfl
      go_wp2
      go_ret
      rw [HN2.out]
      exact ⟨rfl, rfl⟩
    · have hm' : (0 : Int) < (m : Int) := by omega
      have HM2 : Hid (mid (bl s) n = n + 2 + m) := by have := HM.out; rw [if_neg hm] at this; exact this
      clear HM
      have hw4 : wrap64 (2 + (m : Int)) = 2 + (m : Int) := IntWalk.wrap64_in _ (by omega)
      have hw5 : wrap64 ((n : Int) + (2 + (m : Int))) = ((n + 2 + m : Nat) : Int) := by rw [IntWalk.wrap64_in _ (by omega)]; omega
      have hw6 : wrap64 ((n + 2 + m : Nat) : Int) = ((n + 2 + m : Nat) : Int) := IntWalk.wrap64_in _ (by omega)
      have hb2 : (0 : Int) ≤ ((n + 2 + m : Nat) : Int) ∧ ((n + 2 + m : Nat) : Int) ≤ (s.size : Int) := by omega
      have ht2 : (((n + 2 + m : Nat) : Int)).toNat = n + 2 + m := Int.toNat_natCast _
      go_wp2_with (fail)
      refine (numbered.calls _ w3 (by rw [size_extract _ _ _ (Nat.le_refl _)]; omega)).mono ?_
      rintro e w4 ⟨rfl, rfl⟩
      dsimp only
      have hnum := numL_le ((bl s).drop (n + (2 + m)))
      rw [List.length_drop, bl_length] at hnum
      rw [bl_rest]
      have hN := HN.out
      rw [HM2.out, show n + 2 + m = n + (2 + m) by omega] at hN
      have HN2 := Lib.hid hN
      clear hN HN
      generalize numL ((bl s).drop (n + (2 + m))) = q at *
      have hw7 : wrap64 ((n : Int) + (2 + (m : Int)) + (q : Int)) = ((n + (2 + m) + q : Nat) : Int) := by rw [IntWalk.wrap64_in _ (by omega)]; omega
      go_wp2
      go_ret
      rw [HN2.out]
      refine ⟨?_, rfl⟩
      show Ending.returned (.int .i64 (wrap64 ((n : Int) + (2 + (m : Int)) + (q : Int)))) = _
      rw [hw7]
  · rw [decide_eq_false hc]
    have HM2 : Hid (mid (bl s) n = n) := by show _ = _; rw [mid, if_neg (fun h => hc h.1)]
    clear hc
    go_wp2_with (fail)
    refine (numbered.calls _ w2 (by rw [size_extract _ _ _ (Nat.le_refl _)]; omega)).mono ?_
    rintro e w4 ⟨rfl, rfl⟩
    dsimp only
    have hnum := numL_le ((bl s).drop n)
    rw [List.length_drop, bl_length] at hnum
    rw [bl_rest]
    have hN := HN.out
    rw [HM2.out] at hN
    have HN2 := Lib.hid hN
    clear hN HN
    generalize numL ((bl s).drop n) = q at *
    have hw3 : wrap64 ((n : Int) + q) = ((n + q : Nat) : Int) := by rw [IntWalk.wrap64_in _ (by omega)]; rfl
    go_wp2
    go_ret
    rw [HN2.out]
    exact ⟨rfl, rfl⟩
def nameOK (s : ByteArray) : Bool := decide (s.size ≠ 0 ∧ s.size ≤ 64 ∧ namedL (bl s) = s.size)
theorem empty_iff (s : ByteArray) : (s.toList == []) = decide (s.size = 0) := by
  rw [ByteArray.toList_eq, Bool.eq_iff_iff]
  cases s with | mk d => cases d with | mk l => cases l <;> simp [ByteArray.size]
set_option maxHeartbeats 2000000 in
theorem name.calls (s : ByteArray) (w : World) : Calls Tryd.prog 25 #[.string s] w fun e w' => e = .returned (.bool (nameOK s)) ∧ w' = w := by
  go_enter Tryd.func25, Tryd.ntmps25
  have he := empty_iff s
  by_cases h0 : s.size = 0
  · have h0' : decide (s.size = 0) = true := by simp [h0]
    rw [h0'] at he
    have HV : Hid (nameOK s = false) := by show _ = _; simp [nameOK, h0]
    clear h0 h0'
    go_wp2
    go_ret
    rw [HV.out]
    exact ⟨rfl, rfl⟩
  · have h0' : decide (s.size = 0) = false := by simp [h0]
    rw [h0'] at he
    by_cases h1 : s.size ≤ 64
    · have h1' : (s.size : Int) ≤ 64 := by omega
      go_wp2_with (fail)
      refine (named.calls s w (by omega)).mono ?_
      rintro e w1 ⟨rfl, rfl⟩
      dsimp only
      go_wp2
      go_ret
      refine ⟨congrArg (fun b => Ending.returned (.bool b)) (?_ : _ = nameOK s), rfl⟩
      rw [Bool.eq_iff_iff]
      simp [nameOK, h0, h1]
      omega
    · have h1' : ¬ (s.size : Int) ≤ 64 := by omega
      have HV : Hid (nameOK s = false) := by show _ = _; simp [nameOK, h1]
      go_wp2
      go_ret
      rw [HV.out]
      exact ⟨rfl, rfl⟩

end Go.Proofs.YtmpkkphohilkoaaDoor.Nm
namespace Go.Proofs.YtmpkkphohilkoaaDoor.F
open Go.RowKit Go.Proofs.YtmpkkphohilkoaaDoorW.PrintWords Go.Proofs.YtmpkkphohilkoaaDoorW.PrintLast Go.Proofs.YtmpkkphohilkoaaDoorW.PrintMore
attribute [local go_sem] max2_int min2_int max_two min_two max_three min_three max_four min_four   -- for this text's walks alone
set_option linter.unusedVariables false
set_option linter.unusedSimpArgs false

theorem eqA49 (d : Nat) (w : World) (x0 y0 : ByteArray) (x1 y1 : Int) (x2 y2 : Int) (x3 y3 : Int) :
    (Op.equalIn (d + 2) 49 (.agg #[.string x0, .int .i64 x1, .int .i64 x2, .int .i64 x3]) (.agg #[.string y0, .int .i64 y1, .int .i64 y2, .int .i64 y3])).run Tryd.prog w = .ok (x0.toList == y0.toList && (x1 == y1 && (x2 == y2 && (x3 == y3)))) w := by
  refine eqA_of Tryd.underlying49 (by kernel_rfl) ?_
  refine eqf_cons (by rfl) (by go_simp; rfl) (by go_simp; rfl) (by go_simp) ?_
  refine eqf_cons (by rfl) (by go_simp; rfl) (by go_simp; rfl) (by go_simp) ?_
  refine eqf_cons (by rfl) (by go_simp; rfl) (by go_simp; rfl) (by go_simp) ?_
  exact eqf_last (by rfl) (by go_simp; rfl) (by go_simp; rfl) (by go_simp)
end Go.Proofs.YtmpkkphohilkoaaDoor.F
namespace Go.Proofs.YtmpkkphohilkoaaDoor.F
open Go.RowKit Go.Proofs.YtmpkkphohilkoaaDoorW.PrintWords Go.Proofs.YtmpkkphohilkoaaDoorW.PrintLast Go.Proofs.YtmpkkphohilkoaaDoorW.PrintMore
attribute [local go_sem] max2_int min2_int max_two min_two max_three min_three max_four min_four   -- for this text's walks alone
set_option linter.unusedVariables false
set_option linter.unusedSimpArgs false

attribute [local go_sem high] eqA49
-- NOT PRINTED: function 16 (core_Check)

/-! ### match_bounded: function 27 -/

-- NOT PRINTED: function 28 (match_laid)

-- NOT PRINTED: function 38 (match_run_begin)

-- NOT PRINTED: function 29 (match_step)

-- NOT PRINTED: function 17 (match_evaluate)

-- NOT PRINTED: function 8 (match_Run)

-- NOT PRINTED: function 6 (dowellaw14_works)

/-! ### dowelref09_Size: function 15 -/
def dowelref09_Size.l0 : Nat → Int → Int → List (S42) → Int → Option (Int)
  | 0, _, _, _, _ => none
  | k + 1, x3, x4, x135000, x135001 => if x4 < (x135000.length : Int) then (if 0 ≤ x4 then (dowelref09_Size.l0 k (wrap64 (x3 + (((rd_T42 x135000 x4).f1).length : Int))) (wrap64 (x4 + 1)) x135000 x135001) else (none)) else (some x3)
def dowelref09_Size.f (k : Nat) (l0_0 : List (S42)) (a0_1 : Int) : Option (Int) := dowelref09_Size.l0 k 0 0 l0_0 a0_1
set_option maxHeartbeats 8000000 in
set_option maxRecDepth 100000 in
theorem dowelref09_Size.calls (k : Nat) (A0_0 : Option Addr) (c0_0 : Nat) (l0_0 : List (S42)) (a0_1 : Int) (r : Int) (w : World) (hr0_0 : Kd.C k42 w A0_0 l0_0.length l0_0) (hc0_0 : l0_0.length ≤ c0_0) (h : dowelref09_Size.f k l0_0 a0_1 = some r) :
    Calls Tryd.prog 15 #[.agg #[.slice A0_0 l0_0.length c0_0, .int .i64 a0_1]] w fun e w' => e = .returned (.int .i64 r) ∧ Below w.heap.size w w' := by
  have hu24 := Tryd.underlying24
  have HR0_0 := Aside0.mk hr0_0
  have HC0_0 := Aside0.mk hc0_0
  clear hr0_0 hc0_0
  have HB := Aside0.mk (Below.refl w.heap.size w)
  have H : (dowelref09_Size.l0 k 0 0 l0_0 a0_1) = some r := h
  clear h
  have H' := Aside0.mk H
  clear H
  go_enter Tryd.func15, Tryd.ntmps15
  go_wp2_with (first | ((with_reducible refine gate_dst (N := 1) rfl ?_); refine box_event ?hg (N := 1) ?hd (cs := #[.slice A0_0 l0_0.length c0_0, .int .i64 a0_1]) (t := 24) ?hr ?_; (case hd => rfl); (case hg => rfl); (case hr => first | (go_simp; done) | (go_simp; rfl)); intro gb134 hg w2 hbox hb; have n0_ := Aside0.mk (below_step (by repeat (first | (with_reducible first | exact HB.out | apply below_alloc | apply pw_below_drewN | apply below_drew1) | exact HB.out)) hb); have n1_ := Aside0.mk (hbox); have n2_ := Aside0.mk ((by rw [hg]; exact (below_size (by repeat (first | (with_reducible first | exact HB.out | apply below_alloc | apply pw_below_drewN | apply below_drew1) | exact HB.out))) : w.heap.size ≤ gb134)); have n3_ := Aside0.mk ((by rw [hg]; exact (below_size (by repeat (first | (with_reducible first | exact HB.out | apply below_alloc | apply pw_below_drewN | apply below_drew1) | exact HB.out))) : w.heap.size ≤ gb134)); clear HB; have HB := n0_; have BK134 := n1_; have GW134 := n2_; have GE134 := n3_; clear n0_ n1_ n2_ n3_; clear hb hbox hg))
  go_loopg [3, 4] k (fun kq v3 v4 w' => ∃ (x3_1 : Int) (x4_1 : Int), v3 = .int .i64 x3_1 ∧ v4 = .int .i64 x4_1 ∧ Aside0 (dowelref09_Size.l0 kq x3_1 x4_1 l0_0 a0_1 = some r) ∧ Aside0 (kq ≤ k) ∧ Aside0 (w'.heap[gb134]? = some (.cells #[(.slice A0_0 l0_0.length c0_0), .int .i64 a0_1] 24 (0, 0))) ∧ Aside0 (Below w.heap.size w w'))
  case atStart => exact ⟨(0), (0), (by first | rfl | (simp; done) | (simp [*]; done)), (by first | rfl | (simp; done) | (simp [*]; done)), H', ⟨Nat.le_refl _⟩, ⟨by (with_reducible repeat (first | refine blk_drewN ?_ _ | refine blk_drew ?_ | refine blk_alloc ?_ _)); exact BK134.out⟩, ⟨by repeat (first | (with_reducible first | exact HB.out | apply below_alloc | apply pw_below_drewN | apply below_drew1 | refine below_set ?_ GE134.out) | exact HB.out)⟩⟩
  case round =>
    clear H'
    try clear c1
    try clear p2
    obtain ⟨x3_1, x4_1, rfl, rfl, HA, HK1, BK134, HB⟩ := hrel
    cases gk with
    | zero => exact absurd HA.out (by simp [dowelref09_Size.l0])
    | succ k1 =>
      have H := HA.out
      clear HA
      simp only [dowelref09_Size.l0] at H
      by_cases c3 : x4_1 < (l0_0.length : Int)
      · rw [if_pos c3] at H
        have c3b0 : decide (x4_1 < (l0_0.length : Int)) = true := decide_eq_true c3
        clear c3
        by_cases c4 : 0 ≤ x4_1
        · rw [if_pos c4] at H
          have c4b0 : decide (0 ≤ x4_1) = true := decide_eq_true c4
          clear c4
          have H' := Aside0.mk H
          clear H
          have hcz5_0 : wr.cell? ⟨gb134, 0, none⟩ = some (.slice A0_0 l0_0.length c0_0) := (blk_cell BK134.out 0).trans rfl
          have hcz5_1 : wr.cell? ⟨gb134, 1, none⟩ = some (.int .i64 a0_1) := (blk_cell BK134.out 1).trans rfl
          have hfz5_0 := blk_frozen BK134.out 0
          have hfz5_1 := blk_frozen BK134.out 1
          have p135 : 0 ≤ (x4_1 : Int) := of_decide_eq_true (by first | (with_reducible assumption) | assumption)
          have q135 : x4_1 < (l0_0.length : Int) := of_decide_eq_true (by first | (with_reducible assumption) | assumption)
          obtain ⟨ad135, A135_1, c135_1, e135, hx135_0, hx135_1, hl135_1, hi135_1⟩ := at_T42 HR0_0.out x4_1 p135 q135
          cases e135
          replace hx135_0 := (HB.out.cell (World.block_lt_of_cell? w _ hx135_0)).trans hx135_0
          replace hx135_1 := (HB.out.cell (World.block_lt_of_cell? w _ hx135_1)).trans hx135_1
          have HR135_1 := Aside0.mk hi135_1
          have HC135_1 := Aside0.mk hl135_1
          clear hi135_1 hl135_1
          replace p135 := eq_true p135
          replace q135 := eq_true q135
          go_wp2
          go_roundg k1
          case measure => have := HK1.out; omega
          case rel => exact ⟨(wrap64 (x3_1 + (((rd_T42 l0_0 x4_1).f1).length : Int))), (wrap64 (x4_1 + 1)), (by first | rfl | (simp; done) | (simp [*]; done)), (by first | rfl | (simp; done) | (simp [*]; done)), H', ⟨by have := HK1.out; omega⟩, ⟨by (with_reducible repeat (first | refine blk_drewN ?_ _ | refine blk_drew ?_ | refine blk_alloc ?_ _)); exact BK134.out⟩, ⟨by repeat (first | (with_reducible first | exact HB.out | apply below_alloc | apply pw_below_drewN | apply below_drew1 | refine below_set ?_ GE134.out) | exact HB.out)⟩⟩
        · rw [if_neg c4] at H
          exact absurd H (by simp)
      · rw [if_neg c3] at H
        have c3b0 : decide (x4_1 < (l0_0.length : Int)) = false := decide_eq_false c3
        clear c3
        obtain rfl := Option.some.inj H
        have hcz6_0 : wr.cell? ⟨gb134, 0, none⟩ = some (.slice A0_0 l0_0.length c0_0) := (blk_cell BK134.out 0).trans rfl
        have hcz6_1 : wr.cell? ⟨gb134, 1, none⟩ = some (.int .i64 a0_1) := (blk_cell BK134.out 1).trans rfl
        have hfz6_0 := blk_frozen BK134.out 0
        have hfz6_1 := blk_frozen BK134.out 1
        go_wp2
        go_ret
        exact ⟨by first | rfl | (simp [errW_none, errW_some] <;> rfl) | (simp [*, errW_none, errW_some] <;> rfl), by repeat (first | (with_reducible first | exact HB.out | apply below_alloc | apply pw_below_drewN | apply below_drew1 | refine below_set ?_ GE134.out) | exact HB.out)⟩

/-! ### dowellaw14_heavy: function 7 -/
def dowellaw14_heavy.f (k : Nat) (l0_0 : List (S42)) (a0_1 : Int) : Option (Bool) := if (l0_0.length : Int) > 4096 then (some true) else ((dowelref09_Size.f k l0_0 a0_1).bind fun t137 => (some (decide (t137 > 1048576))))
set_option maxHeartbeats 8000000 in
set_option maxRecDepth 100000 in
theorem dowellaw14_heavy.calls (k : Nat) (A0_0 : Option Addr) (c0_0 : Nat) (l0_0 : List (S42)) (a0_1 : Int) (r : Bool) (w : World) (hr0_0 : Kd.C k42 w A0_0 l0_0.length l0_0) (hc0_0 : l0_0.length ≤ c0_0) (h : dowellaw14_heavy.f k l0_0 a0_1 = some r) :
    Calls Tryd.prog 7 #[.agg #[.slice A0_0 l0_0.length c0_0, .int .i64 a0_1]] w fun e w' => e = .returned (.bool r) ∧ Below w.heap.size w w' := by
  have hu24 := Tryd.underlying24
  have HR0_0 := Aside0.mk hr0_0
  have HC0_0 := Aside0.mk hc0_0
  clear hr0_0 hc0_0
  have HB := Aside0.mk (Below.refl w.heap.size w)
  have H : (if (l0_0.length : Int) > 4096 then (some true) else ((dowelref09_Size.f k l0_0 a0_1).bind fun t137 => (some (decide (t137 > 1048576))))) = some r := h
  clear h
  by_cases c2 : (l0_0.length : Int) > 4096
  · rw [if_pos c2] at H
    have c2b0 : decide (4096 < (l0_0.length : Int)) = true := decide_eq_true c2
    have c2b1 : decide (4096 < l0_0.length) = true := decide_eq_true (by omega)
    clear c2
    obtain rfl := Option.some.inj H
    go_enter Tryd.func7, Tryd.ntmps7
    go_wp2_with (first | ((with_reducible refine gate_dst (N := 1) rfl ?_); refine box_event ?hg (N := 1) ?hd (cs := #[.slice A0_0 l0_0.length c0_0, .int .i64 a0_1]) (t := 24) ?hr ?_; (case hd => rfl); (case hg => rfl); (case hr => first | (go_simp; done) | (go_simp; rfl)); intro gb136 hg w3 hbox hb; have n0_ := Aside0.mk (below_step (by repeat (first | (with_reducible first | exact HB.out | apply below_alloc | apply pw_below_drewN | apply below_drew1) | exact HB.out)) hb); have n1_ := Aside0.mk (hbox); have n2_ := Aside0.mk ((by rw [hg]; exact (below_size (by repeat (first | (with_reducible first | exact HB.out | apply below_alloc | apply pw_below_drewN | apply below_drew1) | exact HB.out))) : w.heap.size ≤ gb136)); have n3_ := Aside0.mk ((by rw [hg]; exact (below_size (by repeat (first | (with_reducible first | exact HB.out | apply below_alloc | apply pw_below_drewN | apply below_drew1) | exact HB.out))) : w.heap.size ≤ gb136)); clear HB; have HB := n0_; have BK136 := n1_; have GW136 := n2_; have GE136 := n3_; clear n0_ n1_ n2_ n3_; clear hb hbox hg; have hcz4_0 : w3.cell? ⟨gb136, 0, none⟩ = some (.slice A0_0 l0_0.length c0_0) := (blk_cell BK136.out 0).trans rfl; have hcz4_1 : w3.cell? ⟨gb136, 1, none⟩ = some (.int .i64 a0_1) := (blk_cell BK136.out 1).trans rfl; have hfz4_0 := blk_frozen BK136.out 0; have hfz4_1 := blk_frozen BK136.out 1))
    go_ret
    exact ⟨by first | rfl | (simp [errW_none, errW_some] <;> rfl) | (simp [*, errW_none, errW_some] <;> rfl), by repeat (first | (with_reducible first | exact HB.out | apply below_alloc | apply pw_below_drewN | apply below_drew1 | refine below_set ?_ GE136.out) | exact HB.out)⟩
  · rw [if_neg c2] at H
    have c2b0 : decide (4096 < (l0_0.length : Int)) = false := decide_eq_false c2
    have c2b1 : decide (4096 < l0_0.length) = false := decide_eq_false (by omega)
    clear c2
    replace H := Option.bind_eq_some_iff.mp H
    obtain ⟨t137, A50, H⟩ := H
    replace H : (some (decide (t137 > 1048576))) = some r := H
    have A5 := Aside0.mk A50
    clear A50
    obtain rfl := Option.some.inj H
    go_enter Tryd.func7, Tryd.ntmps7
    go_wp2_with (first | ((with_reducible refine gate_dst (N := 1) rfl ?_); refine box_event ?hg (N := 1) ?hd (cs := #[.slice A0_0 l0_0.length c0_0, .int .i64 a0_1]) (t := 24) ?hr ?_; (case hd => rfl); (case hg => rfl); (case hr => first | (go_simp; done) | (go_simp; rfl)); intro gb136 hg w6 hbox hb; have n0_ := Aside0.mk (below_step (by repeat (first | (with_reducible first | exact HB.out | apply below_alloc | apply pw_below_drewN | apply below_drew1) | exact HB.out)) hb); have n1_ := Aside0.mk (hbox); have n2_ := Aside0.mk ((by rw [hg]; exact (below_size (by repeat (first | (with_reducible first | exact HB.out | apply below_alloc | apply pw_below_drewN | apply below_drew1) | exact HB.out))) : w.heap.size ≤ gb136)); have n3_ := Aside0.mk ((by rw [hg]; exact (below_size (by repeat (first | (with_reducible first | exact HB.out | apply below_alloc | apply pw_below_drewN | apply below_drew1) | exact HB.out))) : w.heap.size ≤ gb136)); clear HB; have HB := n0_; have BK136 := n1_; have GW136 := n2_; have GE136 := n3_; clear n0_ n1_ n2_ n3_; clear hb hbox hg; have hcz7_0 : w6.cell? ⟨gb136, 0, none⟩ = some (.slice A0_0 l0_0.length c0_0) := (blk_cell BK136.out 0).trans rfl; have hcz7_1 : w6.cell? ⟨gb136, 1, none⟩ = some (.int .i64 a0_1) := (blk_cell BK136.out 1).trans rfl; have hfz7_0 := blk_frozen BK136.out 0; have hfz7_1 := blk_frozen BK136.out 1) | (go_at_call 15; (with_reducible refine (dowelref09_Size.calls k _ _ l0_0 a0_1 t137 _ ?side1 ?side2 A5.out).mono ?_); (case side1 => repeat (first | exact (Kd.C_below HR0_0.out HB.out) | (with_reducible refine Kd.C_alloc ?_ _) | (with_reducible refine Kd.C_drewN ?_ _) | (with_reducible refine Kd.C_drew ?_))); (case side2 => exact HC0_0.out); rintro e w8 ⟨rfl, hb⟩; have n0_ := Aside0.mk (blk_below (g := gb136) (o := .cells #[.slice A0_0 l0_0.length c0_0, .int .i64 a0_1] 24 (0, 0)) (by (with_reducible repeat (first | refine blk_drewN ?_ _ | refine blk_drew ?_ | refine blk_alloc ?_ _)); exact BK136.out) hb); have n1_ := Aside0.mk (below_step (by repeat (first | (with_reducible first | exact HB.out | apply below_alloc | apply pw_below_drewN | apply below_drew1 | refine below_set ?_ GE136.out) | exact HB.out)) hb); clear BK136; clear HB; have BK136 := n0_; have HB := n1_; clear n0_ n1_; (try clear hb); (try clear hb2); (try clear hk); (try clear hi)))
    go_ret
    exact ⟨by first | rfl | (simp [errW_none, errW_some] <;> rfl) | (simp [*, errW_none, errW_some] <;> rfl), by repeat (first | (with_reducible first | exact HB.out | apply below_alloc | apply pw_below_drewN | apply below_drew1 | refine below_set ?_ GE136.out) | exact HB.out)⟩

-- NOT PRINTED: function 9 (dowelbook_LendCore)

/-! ### dowelbook_Captures: function 18 -/
def dowelbook_Captures.l0 : Nat → List (S49) → List (S49) → Int → Option (Bool)
  | 0, _, _, _ => none
  | k + 1, x0, x1, x5 => if x5 < (x0.length : Int) then (if 0 ≤ x5 then (if x5 < (x1.length : Int) then (if (!((((rd_T49 x0 x5).f0).toList) == (((rd_T49 x1 x5).f0).toList)) || (!(((rd_T49 x0 x5).f1) == ((rd_T49 x1 x5).f1)) || (!(((rd_T49 x0 x5).f2) == ((rd_T49 x1 x5).f2)) || (!(((rd_T49 x0 x5).f3) == ((rd_T49 x1 x5).f3)))))) = true then (some false) else (dowelbook_Captures.l0 k x0 x1 (wrap64 (x5 + 1)))) else (none)) else (none)) else (some true)
def dowelbook_Captures.f (k : Nat) (l0 : List (S49)) (l1 : List (S49)) : Option (Bool) := if (l0.length : Int) = (l1.length : Int) then (dowelbook_Captures.l0 k l0 l1 0) else (some false)
set_option maxHeartbeats 8000000 in
set_option maxRecDepth 100000 in
theorem dowelbook_Captures.calls (k : Nat) (A0 : Option Addr) (c0 : Nat) (l0 : List (S49)) (A1 : Option Addr) (c1 : Nat) (l1 : List (S49)) (r : Bool) (w : World) (hr0 : Kd.C k49 w A0 l0.length l0) (hc0 : l0.length ≤ c0) (hr1 : Kd.C k49 w A1 l1.length l1) (hc1 : l1.length ≤ c1) (h : dowelbook_Captures.f k l0 l1 = some r) :
    Calls Tryd.prog 18 #[.slice A0 l0.length c0, .slice A1 l1.length c1] w fun e w' => e = .returned (.bool r) ∧ Drawn0 w w' := by
  have hu49 := Tryd.underlying49
  have HR0 := Aside0.mk hr0
  have HC0 := Aside0.mk hc0
  clear hr0 hc0
  have HR1 := Aside0.mk hr1
  have HC1 := Aside0.mk hc1
  clear hr1 hc1
  have H : (if (l0.length : Int) = (l1.length : Int) then (dowelbook_Captures.l0 k l0 l1 0) else (some false)) = some r := h
  clear h
  by_cases c3 : (l0.length : Int) = (l1.length : Int)
  · rw [if_pos c3] at H
    have c3b0 : ((l0.length : Int) == (l1.length : Int)) = true := beq_iff_eq.mpr c3
    have c3b1 : ((l0.length : Int) != (l1.length : Int)) = false := bne_eq_false_iff_eq.mpr c3
    have c3b2 : (l0.length == l1.length) = true := by first | simpa using c3 | (simp at c3 ⊢; omega)
    clear c3
    have H' := Aside0.mk H
    clear H
    go_enter Tryd.func18, Tryd.ntmps18
    go_wp2
    repeat (go_quiet (fail); try go_wp2)
    go_loopg [5] k (fun kq v5 w' => ∃ (x5_1 : Int), v5 = .int .i64 x5_1 ∧ Aside0 (dowelbook_Captures.l0 kq l0 l1 x5_1 = some r) ∧ Aside0 (kq ≤ k) ∧ Drawn0 w w')
    case atStart => exact ⟨(0), (by first | rfl | (simp; done) | (simp [*]; done)), H', ⟨Nat.le_refl _⟩, by repeat (first | exact Drawn0.refl _ | apply Drawn0.step)⟩
    case round =>
      clear H'
      try clear c1
      try clear p2
      try clear c3
      try clear c3b0
      try clear c3b1
      try clear c3b2
      obtain ⟨x5_1, rfl, HA, HK1, ⟨m1, rfl⟩⟩ := hrel
      cases gk with
      | zero => exact absurd HA.out (by simp [dowelbook_Captures.l0])
      | succ k1 =>
        have H := HA.out
        clear HA
        simp only [dowelbook_Captures.l0] at H
        by_cases c4 : x5_1 < (l0.length : Int)
        · rw [if_pos c4] at H
          have c4b0 : decide (x5_1 < (l0.length : Int)) = true := decide_eq_true c4
          clear c4
          by_cases c5 : 0 ≤ x5_1
          · rw [if_pos c5] at H
            have c5b0 : decide (0 ≤ x5_1) = true := decide_eq_true c5
            clear c5
            by_cases c6 : x5_1 < (l1.length : Int)
            · rw [if_pos c6] at H
              have c6b0 : decide (x5_1 < (l1.length : Int)) = true := decide_eq_true c6
              clear c6
              by_cases c7 : (!((((rd_T49 l0 x5_1).f0).toList) == (((rd_T49 l1 x5_1).f0).toList)) || (!(((rd_T49 l0 x5_1).f1) == ((rd_T49 l1 x5_1).f1)) || (!(((rd_T49 l0 x5_1).f2) == ((rd_T49 l1 x5_1).f2)) || (!(((rd_T49 l0 x5_1).f3) == ((rd_T49 l1 x5_1).f3)))))) = true
              · rw [if_pos c7] at H
                have c7b0 : (!((((rd_T49 l0 x5_1).f0).toList) == (((rd_T49 l1 x5_1).f0).toList)) || (!(((rd_T49 l0 x5_1).f1) == ((rd_T49 l1 x5_1).f1)) || (!(((rd_T49 l0 x5_1).f2) == ((rd_T49 l1 x5_1).f2)) || (!(((rd_T49 l0 x5_1).f3) == ((rd_T49 l1 x5_1).f3)))))) = true := c7
                clear c7
                obtain rfl := Option.some.inj H
                have p148 : 0 ≤ (x5_1 : Int) := of_decide_eq_true (by first | (with_reducible assumption) | assumption)
                have q148 : x5_1 < (l0.length : Int) := of_decide_eq_true (by first | (with_reducible assumption) | assumption)
                obtain ⟨ad148, e148, hx148_0, hx148_1, hx148_2, hx148_3⟩ := at_T49 HR0.out x5_1 p148 q148
                cases e148
                replace p148 := eq_true p148
                replace q148 := eq_true q148
                have p149 : 0 ≤ (x5_1 : Int) := of_decide_eq_true (by first | (with_reducible assumption) | assumption)
                have q149 : x5_1 < (l1.length : Int) := of_decide_eq_true (by first | (with_reducible assumption) | assumption)
                obtain ⟨ad149, e149, hx149_0, hx149_1, hx149_2, hx149_3⟩ := at_T49 HR1.out x5_1 p149 q149
                cases e149
                replace p149 := eq_true p149
                replace q149 := eq_true q149
                go_wp2
                repeat (go_quiet (fail); try go_wp2)
                go_ret
                exact ⟨by first | rfl | (simp; done) | (simp [*]; done), by repeat (first | exact Drawn0.refl _ | apply Drawn0.step)⟩
              · rw [if_neg c7] at H
                have c7b0 : (!((((rd_T49 l0 x5_1).f0).toList) == (((rd_T49 l1 x5_1).f0).toList)) || (!(((rd_T49 l0 x5_1).f1) == ((rd_T49 l1 x5_1).f1)) || (!(((rd_T49 l0 x5_1).f2) == ((rd_T49 l1 x5_1).f2)) || (!(((rd_T49 l0 x5_1).f3) == ((rd_T49 l1 x5_1).f3)))))) = false := by simpa using c7
                clear c7
                have H' := Aside0.mk H
                clear H
                have p148 : 0 ≤ (x5_1 : Int) := of_decide_eq_true (by first | (with_reducible assumption) | assumption)
                have q148 : x5_1 < (l0.length : Int) := of_decide_eq_true (by first | (with_reducible assumption) | assumption)
                obtain ⟨ad148, e148, hx148_0, hx148_1, hx148_2, hx148_3⟩ := at_T49 HR0.out x5_1 p148 q148
                cases e148
                replace p148 := eq_true p148
                replace q148 := eq_true q148
                have p149 : 0 ≤ (x5_1 : Int) := of_decide_eq_true (by first | (with_reducible assumption) | assumption)
                have q149 : x5_1 < (l1.length : Int) := of_decide_eq_true (by first | (with_reducible assumption) | assumption)
                obtain ⟨ad149, e149, hx149_0, hx149_1, hx149_2, hx149_3⟩ := at_T49 HR1.out x5_1 p149 q149
                cases e149
                replace p149 := eq_true p149
                replace q149 := eq_true q149
                go_wp2
                repeat (go_quiet (fail); try go_wp2)
                go_roundg k1
                case measure => have := HK1.out; omega
                case rel => exact ⟨(wrap64 (x5_1 + 1)), (by first | rfl | (simp; done) | (simp [*]; done)), H', ⟨by have := HK1.out; omega⟩, by repeat (first | exact Drawn0.refl _ | apply Drawn0.step)⟩
            · rw [if_neg c6] at H
              exact absurd H (by simp)
          · rw [if_neg c5] at H
            exact absurd H (by simp)
        · rw [if_neg c4] at H
          have c4b0 : decide (x5_1 < (l0.length : Int)) = false := decide_eq_false c4
          clear c4
          obtain rfl := Option.some.inj H
          go_wp2
          repeat (go_quiet (fail); try go_wp2)
          go_ret
          exact ⟨by first | rfl | (simp; done) | (simp [*]; done), by repeat (first | exact Drawn0.refl _ | apply Drawn0.step)⟩
  · rw [if_neg c3] at H
    have c3b0 : ((l0.length : Int) == (l1.length : Int)) = false := beq_eq_false_iff_ne.mpr c3
    have c3b1 : ((l0.length : Int) != (l1.length : Int)) = true := bne_iff_ne.mpr c3
    have c3b2 : (l0.length == l1.length) = false := by first | simpa using c3 | (simp at c3 ⊢; omega)
    obtain rfl := Option.some.inj H
    go_enter Tryd.func18, Tryd.ntmps18
    go_wp2
    repeat (go_quiet (fail); try go_wp2)
    go_ret
    exact ⟨by first | rfl | (simp; done) | (simp [*]; done), by repeat (first | exact Drawn0.refl _ | apply Drawn0.step)⟩

/-! ### dowelbook_Outcomes: function 10 -/
def dowelbook_Outcomes.f (k : Nat) (a0_0 : Int) (a0_1 : Int) (a0_2 : ByteArray) (l0_3 : List (S49)) (a1_0 : Int) (a1_1 : Int) (a1_2 : ByteArray) (l1_3 : List (S49)) : Option (Bool) := if a0_0 = a1_0 then (if a0_1 = a1_1 then (if a0_2.toList = a1_2.toList then ((dowelbook_Captures.f k l0_3 l1_3).bind fun t152 => (some t152)) else (some false)) else (some false)) else (some false)
set_option maxHeartbeats 8000000 in
set_option maxRecDepth 100000 in
theorem dowelbook_Outcomes.calls (k : Nat) (a0_0 : Int) (a0_1 : Int) (a0_2 : ByteArray) (A0_3 : Option Addr) (c0_3 : Nat) (l0_3 : List (S49)) (a1_0 : Int) (a1_1 : Int) (a1_2 : ByteArray) (A1_3 : Option Addr) (c1_3 : Nat) (l1_3 : List (S49)) (r : Bool) (w : World) (hr0_3 : Kd.C k49 w A0_3 l0_3.length l0_3) (hc0_3 : l0_3.length ≤ c0_3) (hr1_3 : Kd.C k49 w A1_3 l1_3.length l1_3) (hc1_3 : l1_3.length ≤ c1_3) (h : dowelbook_Outcomes.f k a0_0 a0_1 a0_2 l0_3 a1_0 a1_1 a1_2 l1_3 = some r) :
    Calls Tryd.prog 10 #[.agg #[.int .i64 a0_0, .int .i64 a0_1, .string a0_2, .slice A0_3 l0_3.length c0_3], .agg #[.int .i64 a1_0, .int .i64 a1_1, .string a1_2, .slice A1_3 l1_3.length c1_3]] w fun e w' => e = .returned (.bool r) ∧ Below w.heap.size w w' := by
  have hu31 := Tryd.underlying31
  have HR0_3 := Aside0.mk hr0_3
  have HC0_3 := Aside0.mk hc0_3
  clear hr0_3 hc0_3
  have HR1_3 := Aside0.mk hr1_3
  have HC1_3 := Aside0.mk hc1_3
  clear hr1_3 hc1_3
  have HB := Aside0.mk (Below.refl w.heap.size w)
  have H : (if a0_0 = a1_0 then (if a0_1 = a1_1 then (if a0_2.toList = a1_2.toList then ((dowelbook_Captures.f k l0_3 l1_3).bind fun t152 => (some t152)) else (some false)) else (some false)) else (some false)) = some r := h
  clear h
  by_cases c3 : a0_0 = a1_0
  · rw [if_pos c3] at H
    have c3b0 : (a0_0 == a1_0) = true := beq_iff_eq.mpr c3
    have c3b1 : (a0_0 != a1_0) = false := bne_eq_false_iff_eq.mpr c3
    clear c3
    by_cases c4 : a0_1 = a1_1
    · rw [if_pos c4] at H
      have c4b0 : (a0_1 == a1_1) = true := beq_iff_eq.mpr c4
      have c4b1 : (a0_1 != a1_1) = false := bne_eq_false_iff_eq.mpr c4
      clear c4
      by_cases c5 : a0_2.toList = a1_2.toList
      · rw [if_pos c5] at H
        have c5b0 : (a0_2.toList == a1_2.toList) = true := beq_iff_eq.mpr c5
        have c5b1 : (a0_2.toList != a1_2.toList) = false := bne_eq_false_iff_eq.mpr c5
        clear c5
        replace H := Option.bind_eq_some_iff.mp H
        obtain ⟨t152, A60, H⟩ := H
        replace H : (some t152) = some r := H
        have A6 := Aside0.mk A60
        clear A60
        obtain rfl := Option.some.inj H
        go_enter Tryd.func10, Tryd.ntmps10
        go_wp2_with (first | ((with_reducible refine gate_dst (N := 2) rfl ?_); refine box_event ?hg (N := 2) ?hd (cs := #[.int .i64 a0_0, .int .i64 a0_1, .string a0_2, .slice A0_3 l0_3.length c0_3]) (t := 31) ?hr ?_; (case hd => rfl); (case hg => rfl); (case hr => first | (go_simp; done) | (go_simp; rfl)); intro gb150 hg w7 hbox hb; have n0_ := Aside0.mk (below_step (by repeat (first | (with_reducible first | exact HB.out | apply below_alloc | apply pw_below_drewN | apply below_drew1) | exact HB.out)) hb); have n1_ := Aside0.mk (hbox); have n2_ := Aside0.mk ((by rw [hg]; exact (below_size (by repeat (first | (with_reducible first | exact HB.out | apply below_alloc | apply pw_below_drewN | apply below_drew1) | exact HB.out))) : w.heap.size ≤ gb150)); have n3_ := Aside0.mk ((by rw [hg]; exact (below_size (by repeat (first | (with_reducible first | exact HB.out | apply below_alloc | apply pw_below_drewN | apply below_drew1) | exact HB.out))) : w.heap.size ≤ gb150)); clear HB; have HB := n0_; have BK150 := n1_; have GW150 := n2_; have GE150 := n3_; clear n0_ n1_ n2_ n3_; clear hb hbox hg) | ((with_reducible refine gate_dst (N := 3) rfl ?_); refine box_event ?hg (N := 3) ?hd (cs := #[.int .i64 a1_0, .int .i64 a1_1, .string a1_2, .slice A1_3 l1_3.length c1_3]) (t := 31) ?hr ?_; (case hd => rfl); (case hg => rfl); (case hr => first | (go_simp; done) | (go_simp; rfl)); intro gb151 hg w8 hbox hb; have n0_ := Aside0.mk (blk_below (g := gb150) (o := .cells #[.int .i64 a0_0, .int .i64 a0_1, .string a0_2, .slice A0_3 l0_3.length c0_3] 31 (0, 0)) (by (with_reducible repeat (first | refine blk_drewN ?_ _ | refine blk_drew ?_ | refine blk_alloc ?_ _)); exact BK150.out) hb); have n1_ := Aside0.mk (below_step (by repeat (first | (with_reducible first | exact HB.out | apply below_alloc | apply pw_below_drewN | apply below_drew1 | refine below_set ?_ GE150.out) | exact HB.out)) hb); have n2_ := Aside0.mk (hbox); have n3_ := Aside0.mk ((by rw [hg]; exact (below_size (by repeat (first | (with_reducible first | exact HB.out | apply below_alloc | apply pw_below_drewN | apply below_drew1 | refine below_set ?_ GE150.out) | exact HB.out))) : w.heap.size ≤ gb151)); have n4_ := Aside0.mk ((by rw [hg]; exact (below_size (by repeat (first | (with_reducible first | exact HB.out | apply below_alloc | apply pw_below_drewN | apply below_drew1 | refine below_set ?_ GE150.out) | exact HB.out))) : w.heap.size ≤ gb151)); have n5_ := Aside0.mk ((by rw [hg]; exact Nat.ne_of_lt (blk_lt (g := gb150) (o := .cells #[.int .i64 a0_0, .int .i64 a0_1, .string a0_2, .slice A0_3 l0_3.length c0_3] 31 (0, 0)) (by (with_reducible repeat (first | refine blk_drewN ?_ _ | refine blk_drew ?_ | refine blk_alloc ?_ _)); exact BK150.out)) : gb150 ≠ gb151)); have n6_ := Aside0.mk ((by rw [hg]; exact Nat.ne_of_gt (blk_lt (g := gb150) (o := .cells #[.int .i64 a0_0, .int .i64 a0_1, .string a0_2, .slice A0_3 l0_3.length c0_3] 31 (0, 0)) (by (with_reducible repeat (first | refine blk_drewN ?_ _ | refine blk_drew ?_ | refine blk_alloc ?_ _)); exact BK150.out)) : gb151 ≠ gb150)); clear BK150; clear HB; have BK150 := n0_; have HB := n1_; have BK151 := n2_; have GW151 := n3_; have GE151 := n4_; have NB150_151 := n5_; have NB151_150 := n6_; clear n0_ n1_ n2_ n3_ n4_ n5_ n6_; clear hb hbox hg; have hnb9 := NB150_151.out; have hnc9 := NB151_150.out; have hcz10_0 : w8.cell? ⟨gb150, 0, none⟩ = some (.int .i64 a0_0) := (blk_cell BK150.out 0).trans rfl; have hcz10_1 : w8.cell? ⟨gb150, 1, none⟩ = some (.int .i64 a0_1) := (blk_cell BK150.out 1).trans rfl; have hcz10_2 : w8.cell? ⟨gb150, 2, none⟩ = some (.string a0_2) := (blk_cell BK150.out 2).trans rfl; have hcz10_3 : w8.cell? ⟨gb150, 3, none⟩ = some (.slice A0_3 l0_3.length c0_3) := (blk_cell BK150.out 3).trans rfl; have hfz10_0 := blk_frozen BK150.out 0; have hfz10_1 := blk_frozen BK150.out 1; have hfz10_2 := blk_frozen BK150.out 2; have hfz10_3 := blk_frozen BK150.out 3; have hcz11_0 : w8.cell? ⟨gb151, 0, none⟩ = some (.int .i64 a1_0) := (blk_cell BK151.out 0).trans rfl; have hcz11_1 : w8.cell? ⟨gb151, 1, none⟩ = some (.int .i64 a1_1) := (blk_cell BK151.out 1).trans rfl; have hcz11_2 : w8.cell? ⟨gb151, 2, none⟩ = some (.string a1_2) := (blk_cell BK151.out 2).trans rfl; have hcz11_3 : w8.cell? ⟨gb151, 3, none⟩ = some (.slice A1_3 l1_3.length c1_3) := (blk_cell BK151.out 3).trans rfl; have hfz11_0 := blk_frozen BK151.out 0; have hfz11_1 := blk_frozen BK151.out 1; have hfz11_2 := blk_frozen BK151.out 2; have hfz11_3 := blk_frozen BK151.out 3) | (go_at_call 18; (with_reducible refine (dowelbook_Captures.calls k _ _ l0_3 _ _ l1_3 t152 _ ?side1 ?side2 ?side3 ?side4 A6.out).mono ?_); (case side1 => repeat (first | exact (Kd.C_below HR0_3.out HB.out) | (with_reducible refine Kd.C_alloc ?_ _) | (with_reducible refine Kd.C_drewN ?_ _) | (with_reducible refine Kd.C_drew ?_))); (case side2 => exact HC0_3.out); (case side3 => repeat (first | exact (Kd.C_below HR1_3.out HB.out) | (with_reducible refine Kd.C_alloc ?_ _) | (with_reducible refine Kd.C_drewN ?_ _) | (with_reducible refine Kd.C_drew ?_))); (case side4 => exact HC1_3.out); rintro e w' ⟨rfl, ⟨nd, rfl⟩⟩))
        go_ret
        exact ⟨by first | rfl | (simp [errW_none, errW_some] <;> rfl) | (simp [*, errW_none, errW_some] <;> rfl), by repeat (first | (with_reducible first | exact HB.out | apply below_alloc | apply pw_below_drewN | apply below_drew1 | refine below_set ?_ GE150.out | refine below_set ?_ GE151.out) | exact HB.out)⟩
      · rw [if_neg c5] at H
        have c5b0 : (a0_2.toList == a1_2.toList) = false := beq_eq_false_iff_ne.mpr c5
        have c5b1 : (a0_2.toList != a1_2.toList) = true := bne_iff_ne.mpr c5
        obtain rfl := Option.some.inj H
        go_enter Tryd.func10, Tryd.ntmps10
        go_wp2_with (first | ((with_reducible refine gate_dst (N := 2) rfl ?_); refine box_event ?hg (N := 2) ?hd (cs := #[.int .i64 a0_0, .int .i64 a0_1, .string a0_2, .slice A0_3 l0_3.length c0_3]) (t := 31) ?hr ?_; (case hd => rfl); (case hg => rfl); (case hr => first | (go_simp; done) | (go_simp; rfl)); intro gb150 hg w12 hbox hb; have n0_ := Aside0.mk (below_step (by repeat (first | (with_reducible first | exact HB.out | apply below_alloc | apply pw_below_drewN | apply below_drew1) | exact HB.out)) hb); have n1_ := Aside0.mk (hbox); have n2_ := Aside0.mk ((by rw [hg]; exact (below_size (by repeat (first | (with_reducible first | exact HB.out | apply below_alloc | apply pw_below_drewN | apply below_drew1) | exact HB.out))) : w.heap.size ≤ gb150)); have n3_ := Aside0.mk ((by rw [hg]; exact (below_size (by repeat (first | (with_reducible first | exact HB.out | apply below_alloc | apply pw_below_drewN | apply below_drew1) | exact HB.out))) : w.heap.size ≤ gb150)); clear HB; have HB := n0_; have BK150 := n1_; have GW150 := n2_; have GE150 := n3_; clear n0_ n1_ n2_ n3_; clear hb hbox hg) | ((with_reducible refine gate_dst (N := 3) rfl ?_); refine box_event ?hg (N := 3) ?hd (cs := #[.int .i64 a1_0, .int .i64 a1_1, .string a1_2, .slice A1_3 l1_3.length c1_3]) (t := 31) ?hr ?_; (case hd => rfl); (case hg => rfl); (case hr => first | (go_simp; done) | (go_simp; rfl)); intro gb151 hg w13 hbox hb; have n0_ := Aside0.mk (blk_below (g := gb150) (o := .cells #[.int .i64 a0_0, .int .i64 a0_1, .string a0_2, .slice A0_3 l0_3.length c0_3] 31 (0, 0)) (by (with_reducible repeat (first | refine blk_drewN ?_ _ | refine blk_drew ?_ | refine blk_alloc ?_ _)); exact BK150.out) hb); have n1_ := Aside0.mk (below_step (by repeat (first | (with_reducible first | exact HB.out | apply below_alloc | apply pw_below_drewN | apply below_drew1 | refine below_set ?_ GE150.out) | exact HB.out)) hb); have n2_ := Aside0.mk (hbox); have n3_ := Aside0.mk ((by rw [hg]; exact (below_size (by repeat (first | (with_reducible first | exact HB.out | apply below_alloc | apply pw_below_drewN | apply below_drew1 | refine below_set ?_ GE150.out) | exact HB.out))) : w.heap.size ≤ gb151)); have n4_ := Aside0.mk ((by rw [hg]; exact (below_size (by repeat (first | (with_reducible first | exact HB.out | apply below_alloc | apply pw_below_drewN | apply below_drew1 | refine below_set ?_ GE150.out) | exact HB.out))) : w.heap.size ≤ gb151)); have n5_ := Aside0.mk ((by rw [hg]; exact Nat.ne_of_lt (blk_lt (g := gb150) (o := .cells #[.int .i64 a0_0, .int .i64 a0_1, .string a0_2, .slice A0_3 l0_3.length c0_3] 31 (0, 0)) (by (with_reducible repeat (first | refine blk_drewN ?_ _ | refine blk_drew ?_ | refine blk_alloc ?_ _)); exact BK150.out)) : gb150 ≠ gb151)); have n6_ := Aside0.mk ((by rw [hg]; exact Nat.ne_of_gt (blk_lt (g := gb150) (o := .cells #[.int .i64 a0_0, .int .i64 a0_1, .string a0_2, .slice A0_3 l0_3.length c0_3] 31 (0, 0)) (by (with_reducible repeat (first | refine blk_drewN ?_ _ | refine blk_drew ?_ | refine blk_alloc ?_ _)); exact BK150.out)) : gb151 ≠ gb150)); clear BK150; clear HB; have BK150 := n0_; have HB := n1_; have BK151 := n2_; have GW151 := n3_; have GE151 := n4_; have NB150_151 := n5_; have NB151_150 := n6_; clear n0_ n1_ n2_ n3_ n4_ n5_ n6_; clear hb hbox hg; have hnb14 := NB150_151.out; have hnc14 := NB151_150.out; have hcz15_0 : w13.cell? ⟨gb150, 0, none⟩ = some (.int .i64 a0_0) := (blk_cell BK150.out 0).trans rfl; have hcz15_1 : w13.cell? ⟨gb150, 1, none⟩ = some (.int .i64 a0_1) := (blk_cell BK150.out 1).trans rfl; have hcz15_2 : w13.cell? ⟨gb150, 2, none⟩ = some (.string a0_2) := (blk_cell BK150.out 2).trans rfl; have hcz15_3 : w13.cell? ⟨gb150, 3, none⟩ = some (.slice A0_3 l0_3.length c0_3) := (blk_cell BK150.out 3).trans rfl; have hfz15_0 := blk_frozen BK150.out 0; have hfz15_1 := blk_frozen BK150.out 1; have hfz15_2 := blk_frozen BK150.out 2; have hfz15_3 := blk_frozen BK150.out 3; have hcz16_0 : w13.cell? ⟨gb151, 0, none⟩ = some (.int .i64 a1_0) := (blk_cell BK151.out 0).trans rfl; have hcz16_1 : w13.cell? ⟨gb151, 1, none⟩ = some (.int .i64 a1_1) := (blk_cell BK151.out 1).trans rfl; have hcz16_2 : w13.cell? ⟨gb151, 2, none⟩ = some (.string a1_2) := (blk_cell BK151.out 2).trans rfl; have hcz16_3 : w13.cell? ⟨gb151, 3, none⟩ = some (.slice A1_3 l1_3.length c1_3) := (blk_cell BK151.out 3).trans rfl; have hfz16_0 := blk_frozen BK151.out 0; have hfz16_1 := blk_frozen BK151.out 1; have hfz16_2 := blk_frozen BK151.out 2; have hfz16_3 := blk_frozen BK151.out 3))
        go_ret
        exact ⟨by first | rfl | (simp [errW_none, errW_some] <;> rfl) | (simp [*, errW_none, errW_some] <;> rfl), by repeat (first | (with_reducible first | exact HB.out | apply below_alloc | apply pw_below_drewN | apply below_drew1 | refine below_set ?_ GE150.out | refine below_set ?_ GE151.out) | exact HB.out)⟩
    · rw [if_neg c4] at H
      have c4b0 : (a0_1 == a1_1) = false := beq_eq_false_iff_ne.mpr c4
      have c4b1 : (a0_1 != a1_1) = true := bne_iff_ne.mpr c4
      obtain rfl := Option.some.inj H
      go_enter Tryd.func10, Tryd.ntmps10
      go_wp2_with (first | ((with_reducible refine gate_dst (N := 2) rfl ?_); refine box_event ?hg (N := 2) ?hd (cs := #[.int .i64 a0_0, .int .i64 a0_1, .string a0_2, .slice A0_3 l0_3.length c0_3]) (t := 31) ?hr ?_; (case hd => rfl); (case hg => rfl); (case hr => first | (go_simp; done) | (go_simp; rfl)); intro gb150 hg w17 hbox hb; have n0_ := Aside0.mk (below_step (by repeat (first | (with_reducible first | exact HB.out | apply below_alloc | apply pw_below_drewN | apply below_drew1) | exact HB.out)) hb); have n1_ := Aside0.mk (hbox); have n2_ := Aside0.mk ((by rw [hg]; exact (below_size (by repeat (first | (with_reducible first | exact HB.out | apply below_alloc | apply pw_below_drewN | apply below_drew1) | exact HB.out))) : w.heap.size ≤ gb150)); have n3_ := Aside0.mk ((by rw [hg]; exact (below_size (by repeat (first | (with_reducible first | exact HB.out | apply below_alloc | apply pw_below_drewN | apply below_drew1) | exact HB.out))) : w.heap.size ≤ gb150)); clear HB; have HB := n0_; have BK150 := n1_; have GW150 := n2_; have GE150 := n3_; clear n0_ n1_ n2_ n3_; clear hb hbox hg) | ((with_reducible refine gate_dst (N := 3) rfl ?_); refine box_event ?hg (N := 3) ?hd (cs := #[.int .i64 a1_0, .int .i64 a1_1, .string a1_2, .slice A1_3 l1_3.length c1_3]) (t := 31) ?hr ?_; (case hd => rfl); (case hg => rfl); (case hr => first | (go_simp; done) | (go_simp; rfl)); intro gb151 hg w18 hbox hb; have n0_ := Aside0.mk (blk_below (g := gb150) (o := .cells #[.int .i64 a0_0, .int .i64 a0_1, .string a0_2, .slice A0_3 l0_3.length c0_3] 31 (0, 0)) (by (with_reducible repeat (first | refine blk_drewN ?_ _ | refine blk_drew ?_ | refine blk_alloc ?_ _)); exact BK150.out) hb); have n1_ := Aside0.mk (below_step (by repeat (first | (with_reducible first | exact HB.out | apply below_alloc | apply pw_below_drewN | apply below_drew1 | refine below_set ?_ GE150.out) | exact HB.out)) hb); have n2_ := Aside0.mk (hbox); have n3_ := Aside0.mk ((by rw [hg]; exact (below_size (by repeat (first | (with_reducible first | exact HB.out | apply below_alloc | apply pw_below_drewN | apply below_drew1 | refine below_set ?_ GE150.out) | exact HB.out))) : w.heap.size ≤ gb151)); have n4_ := Aside0.mk ((by rw [hg]; exact (below_size (by repeat (first | (with_reducible first | exact HB.out | apply below_alloc | apply pw_below_drewN | apply below_drew1 | refine below_set ?_ GE150.out) | exact HB.out))) : w.heap.size ≤ gb151)); have n5_ := Aside0.mk ((by rw [hg]; exact Nat.ne_of_lt (blk_lt (g := gb150) (o := .cells #[.int .i64 a0_0, .int .i64 a0_1, .string a0_2, .slice A0_3 l0_3.length c0_3] 31 (0, 0)) (by (with_reducible repeat (first | refine blk_drewN ?_ _ | refine blk_drew ?_ | refine blk_alloc ?_ _)); exact BK150.out)) : gb150 ≠ gb151)); have n6_ := Aside0.mk ((by rw [hg]; exact Nat.ne_of_gt (blk_lt (g := gb150) (o := .cells #[.int .i64 a0_0, .int .i64 a0_1, .string a0_2, .slice A0_3 l0_3.length c0_3] 31 (0, 0)) (by (with_reducible repeat (first | refine blk_drewN ?_ _ | refine blk_drew ?_ | refine blk_alloc ?_ _)); exact BK150.out)) : gb151 ≠ gb150)); clear BK150; clear HB; have BK150 := n0_; have HB := n1_; have BK151 := n2_; have GW151 := n3_; have GE151 := n4_; have NB150_151 := n5_; have NB151_150 := n6_; clear n0_ n1_ n2_ n3_ n4_ n5_ n6_; clear hb hbox hg; have hnb19 := NB150_151.out; have hnc19 := NB151_150.out; have hcz20_0 : w18.cell? ⟨gb150, 0, none⟩ = some (.int .i64 a0_0) := (blk_cell BK150.out 0).trans rfl; have hcz20_1 : w18.cell? ⟨gb150, 1, none⟩ = some (.int .i64 a0_1) := (blk_cell BK150.out 1).trans rfl; have hcz20_2 : w18.cell? ⟨gb150, 2, none⟩ = some (.string a0_2) := (blk_cell BK150.out 2).trans rfl; have hcz20_3 : w18.cell? ⟨gb150, 3, none⟩ = some (.slice A0_3 l0_3.length c0_3) := (blk_cell BK150.out 3).trans rfl; have hfz20_0 := blk_frozen BK150.out 0; have hfz20_1 := blk_frozen BK150.out 1; have hfz20_2 := blk_frozen BK150.out 2; have hfz20_3 := blk_frozen BK150.out 3; have hcz21_0 : w18.cell? ⟨gb151, 0, none⟩ = some (.int .i64 a1_0) := (blk_cell BK151.out 0).trans rfl; have hcz21_1 : w18.cell? ⟨gb151, 1, none⟩ = some (.int .i64 a1_1) := (blk_cell BK151.out 1).trans rfl; have hcz21_2 : w18.cell? ⟨gb151, 2, none⟩ = some (.string a1_2) := (blk_cell BK151.out 2).trans rfl; have hcz21_3 : w18.cell? ⟨gb151, 3, none⟩ = some (.slice A1_3 l1_3.length c1_3) := (blk_cell BK151.out 3).trans rfl; have hfz21_0 := blk_frozen BK151.out 0; have hfz21_1 := blk_frozen BK151.out 1; have hfz21_2 := blk_frozen BK151.out 2; have hfz21_3 := blk_frozen BK151.out 3))
      go_ret
      exact ⟨by first | rfl | (simp [errW_none, errW_some] <;> rfl) | (simp [*, errW_none, errW_some] <;> rfl), by repeat (first | (with_reducible first | exact HB.out | apply below_alloc | apply pw_below_drewN | apply below_drew1 | refine below_set ?_ GE150.out | refine below_set ?_ GE151.out) | exact HB.out)⟩
  · rw [if_neg c3] at H
    have c3b0 : (a0_0 == a1_0) = false := beq_eq_false_iff_ne.mpr c3
    have c3b1 : (a0_0 != a1_0) = true := bne_iff_ne.mpr c3
    obtain rfl := Option.some.inj H
    go_enter Tryd.func10, Tryd.ntmps10
    go_wp2_with (first | ((with_reducible refine gate_dst (N := 2) rfl ?_); refine box_event ?hg (N := 2) ?hd (cs := #[.int .i64 a0_0, .int .i64 a0_1, .string a0_2, .slice A0_3 l0_3.length c0_3]) (t := 31) ?hr ?_; (case hd => rfl); (case hg => rfl); (case hr => first | (go_simp; done) | (go_simp; rfl)); intro gb150 hg w22 hbox hb; have n0_ := Aside0.mk (below_step (by repeat (first | (with_reducible first | exact HB.out | apply below_alloc | apply pw_below_drewN | apply below_drew1) | exact HB.out)) hb); have n1_ := Aside0.mk (hbox); have n2_ := Aside0.mk ((by rw [hg]; exact (below_size (by repeat (first | (with_reducible first | exact HB.out | apply below_alloc | apply pw_below_drewN | apply below_drew1) | exact HB.out))) : w.heap.size ≤ gb150)); have n3_ := Aside0.mk ((by rw [hg]; exact (below_size (by repeat (first | (with_reducible first | exact HB.out | apply below_alloc | apply pw_below_drewN | apply below_drew1) | exact HB.out))) : w.heap.size ≤ gb150)); clear HB; have HB := n0_; have BK150 := n1_; have GW150 := n2_; have GE150 := n3_; clear n0_ n1_ n2_ n3_; clear hb hbox hg) | ((with_reducible refine gate_dst (N := 3) rfl ?_); refine box_event ?hg (N := 3) ?hd (cs := #[.int .i64 a1_0, .int .i64 a1_1, .string a1_2, .slice A1_3 l1_3.length c1_3]) (t := 31) ?hr ?_; (case hd => rfl); (case hg => rfl); (case hr => first | (go_simp; done) | (go_simp; rfl)); intro gb151 hg w23 hbox hb; have n0_ := Aside0.mk (blk_below (g := gb150) (o := .cells #[.int .i64 a0_0, .int .i64 a0_1, .string a0_2, .slice A0_3 l0_3.length c0_3] 31 (0, 0)) (by (with_reducible repeat (first | refine blk_drewN ?_ _ | refine blk_drew ?_ | refine blk_alloc ?_ _)); exact BK150.out) hb); have n1_ := Aside0.mk (below_step (by repeat (first | (with_reducible first | exact HB.out | apply below_alloc | apply pw_below_drewN | apply below_drew1 | refine below_set ?_ GE150.out) | exact HB.out)) hb); have n2_ := Aside0.mk (hbox); have n3_ := Aside0.mk ((by rw [hg]; exact (below_size (by repeat (first | (with_reducible first | exact HB.out | apply below_alloc | apply pw_below_drewN | apply below_drew1 | refine below_set ?_ GE150.out) | exact HB.out))) : w.heap.size ≤ gb151)); have n4_ := Aside0.mk ((by rw [hg]; exact (below_size (by repeat (first | (with_reducible first | exact HB.out | apply below_alloc | apply pw_below_drewN | apply below_drew1 | refine below_set ?_ GE150.out) | exact HB.out))) : w.heap.size ≤ gb151)); have n5_ := Aside0.mk ((by rw [hg]; exact Nat.ne_of_lt (blk_lt (g := gb150) (o := .cells #[.int .i64 a0_0, .int .i64 a0_1, .string a0_2, .slice A0_3 l0_3.length c0_3] 31 (0, 0)) (by (with_reducible repeat (first | refine blk_drewN ?_ _ | refine blk_drew ?_ | refine blk_alloc ?_ _)); exact BK150.out)) : gb150 ≠ gb151)); have n6_ := Aside0.mk ((by rw [hg]; exact Nat.ne_of_gt (blk_lt (g := gb150) (o := .cells #[.int .i64 a0_0, .int .i64 a0_1, .string a0_2, .slice A0_3 l0_3.length c0_3] 31 (0, 0)) (by (with_reducible repeat (first | refine blk_drewN ?_ _ | refine blk_drew ?_ | refine blk_alloc ?_ _)); exact BK150.out)) : gb151 ≠ gb150)); clear BK150; clear HB; have BK150 := n0_; have HB := n1_; have BK151 := n2_; have GW151 := n3_; have GE151 := n4_; have NB150_151 := n5_; have NB151_150 := n6_; clear n0_ n1_ n2_ n3_ n4_ n5_ n6_; clear hb hbox hg; have hnb24 := NB150_151.out; have hnc24 := NB151_150.out; have hcz25_0 : w23.cell? ⟨gb150, 0, none⟩ = some (.int .i64 a0_0) := (blk_cell BK150.out 0).trans rfl; have hcz25_1 : w23.cell? ⟨gb150, 1, none⟩ = some (.int .i64 a0_1) := (blk_cell BK150.out 1).trans rfl; have hcz25_2 : w23.cell? ⟨gb150, 2, none⟩ = some (.string a0_2) := (blk_cell BK150.out 2).trans rfl; have hcz25_3 : w23.cell? ⟨gb150, 3, none⟩ = some (.slice A0_3 l0_3.length c0_3) := (blk_cell BK150.out 3).trans rfl; have hfz25_0 := blk_frozen BK150.out 0; have hfz25_1 := blk_frozen BK150.out 1; have hfz25_2 := blk_frozen BK150.out 2; have hfz25_3 := blk_frozen BK150.out 3; have hcz26_0 : w23.cell? ⟨gb151, 0, none⟩ = some (.int .i64 a1_0) := (blk_cell BK151.out 0).trans rfl; have hcz26_1 : w23.cell? ⟨gb151, 1, none⟩ = some (.int .i64 a1_1) := (blk_cell BK151.out 1).trans rfl; have hcz26_2 : w23.cell? ⟨gb151, 2, none⟩ = some (.string a1_2) := (blk_cell BK151.out 2).trans rfl; have hcz26_3 : w23.cell? ⟨gb151, 3, none⟩ = some (.slice A1_3 l1_3.length c1_3) := (blk_cell BK151.out 3).trans rfl; have hfz26_0 := blk_frozen BK151.out 0; have hfz26_1 := blk_frozen BK151.out 1; have hfz26_2 := blk_frozen BK151.out 2; have hfz26_3 := blk_frozen BK151.out 3))
    go_ret
    exact ⟨by first | rfl | (simp [errW_none, errW_some] <;> rfl) | (simp [*, errW_none, errW_some] <;> rfl), by repeat (first | (with_reducible first | exact HB.out | apply below_alloc | apply pw_below_drewN | apply below_drew1 | refine below_set ?_ GE150.out | refine below_set ?_ GE151.out) | exact HB.out)⟩

-- NOT PRINTED: function 3 (dowellaw14_MatchLimits)

/-! ### dowelref04_letter: function 46 -/

/-! ### dowelref04_digit: function 47 -/

/-! ### dowelref04_own: function 39 -/

end Go.Proofs.YtmpkkphohilkoaaDoor.F
namespace Go.Proofs.YtmpkkphohilkoaaDoor.F
open Go.RowKit Go.Proofs.YtmpkkphohilkoaaDoorW.PrintWords Go.Proofs.YtmpkkphohilkoaaDoorW.PrintLast Go.Proofs.YtmpkkphohilkoaaDoorW.PrintMore
attribute [local go_sem] max2_int min2_int max_two min_two max_three min_three max_four min_four   -- for this text's walks alone
set_option linter.unusedVariables false
set_option linter.unusedSimpArgs false

/-! ### dowelref04_digits: function 40 -/

/-! ### dowelref04_named: function 30 -/

/-! ### dowelref04_Name: function 19 -/

end Go.Proofs.YtmpkkphohilkoaaDoor.F
namespace Go.Proofs.YtmpkkphohilkoaaDoor.F
open Go.RowKit Go.Proofs.YtmpkkphohilkoaaDoorW.PrintWords Go.Proofs.YtmpkkphohilkoaaDoorW.PrintLast Go.Proofs.YtmpkkphohilkoaaDoorW.PrintMore
attribute [local go_sem] max2_int min2_int max_two min_two max_three min_three max_four min_four   -- for this text's walks alone
set_option linter.unusedVariables false
set_option linter.unusedSimpArgs false

/-! ### dowelref09_count: function 31 -/

/-! ### dowelbase_Own: function 41 -/

end Go.Proofs.YtmpkkphohilkoaaDoor.F
namespace Go.Proofs.YtmpkkphohilkoaaDoor.F
open Go.RowKit Go.Proofs.YtmpkkphohilkoaaDoorW.PrintWords Go.Proofs.YtmpkkphohilkoaaDoorW.PrintLast Go.Proofs.YtmpkkphohilkoaaDoorW.PrintMore
attribute [local go_sem] max2_int min2_int max_two min_two max_three min_three max_four min_four   -- for this text's walks alone
set_option linter.unusedVariables false
set_option linter.unusedSimpArgs false

theorem eqA45 (d : Nat) (w : World) (x0 y0 : Int) (x1 y1 : Int) (x2 y2 : Int) (x3 y3 : Int) :
    (Op.equalIn (d + 2) 45 (.agg #[.int .u64 x0, .int .u64 x1, .int .u64 x2, .int .u64 x3]) (.agg #[.int .u64 y0, .int .u64 y1, .int .u64 y2, .int .u64 y3])).run Tryd.prog w = .ok (x0 == y0 && (x1 == y1 && (x2 == y2 && (x3 == y3)))) w := by
  obtain ⟨i, hi⟩ := Option.isSome_iff_exists.1 (show (Tryd.prog.info? 43).isSome = true by kernel_rfl)
  exact eqArr4 (e := 43) (k := .u64) (i := i) (by kernel_rfl) hi (by kernel_rfl) (by kernel_rfl) d w x0 y0 x1 y1 x2 y2 x3 y3
end Go.Proofs.YtmpkkphohilkoaaDoor.F
namespace Go.Proofs.YtmpkkphohilkoaaDoor.F
open Go.RowKit Go.Proofs.YtmpkkphohilkoaaDoorW.PrintWords Go.Proofs.YtmpkkphohilkoaaDoorW.PrintLast Go.Proofs.YtmpkkphohilkoaaDoorW.PrintMore
attribute [local go_sem] max2_int min2_int max_two min_two max_three min_three max_four min_four   -- for this text's walks alone
set_option linter.unusedVariables false
set_option linter.unusedSimpArgs false

attribute [local go_sem high] eqA45
/-! ### dowelref09_clean: function 32 -/

end Go.Proofs.YtmpkkphohilkoaaDoor.F
namespace Go.Proofs.YtmpkkphohilkoaaDoor.F
open Go.RowKit Go.Proofs.YtmpkkphohilkoaaDoorW.PrintWords Go.Proofs.YtmpkkphohilkoaaDoorW.PrintLast Go.Proofs.YtmpkkphohilkoaaDoorW.PrintMore
attribute [local go_sem] max2_int min2_int max_two min_two max_three min_three max_four min_four   -- for this text's walks alone
set_option linter.unusedVariables false
set_option linter.unusedSimpArgs false

/-! ### dowelref09_body: function 20 -/

end Go.Proofs.YtmpkkphohilkoaaDoor.F
namespace Go.Proofs.YtmpkkphohilkoaaDoor.F
open Go.RowKit Go.Proofs.YtmpkkphohilkoaaDoorW.PrintWords Go.Proofs.YtmpkkphohilkoaaDoorW.PrintLast Go.Proofs.YtmpkkphohilkoaaDoorW.PrintMore
attribute [local go_sem] max2_int min2_int max_two min_two max_three min_three max_four min_four   -- for this text's walks alone
set_option linter.unusedVariables false
set_option linter.unusedSimpArgs false

/-! ### dowelref09_Check: function 11 -/

end Go.Proofs.YtmpkkphohilkoaaDoor.F
namespace Go.Proofs.YtmpkkphohilkoaaDoor.F
open Go.RowKit Go.Proofs.YtmpkkphohilkoaaDoorW.PrintWords Go.Proofs.YtmpkkphohilkoaaDoorW.PrintLast Go.Proofs.YtmpkkphohilkoaaDoorW.PrintMore
attribute [local go_sem] max2_int min2_int max_two min_two max_three min_three max_four min_four   -- for this text's walks alone
set_option linter.unusedVariables false
set_option linter.unusedSimpArgs false

/-! ### core_Size: function 24 -/
def core_Size.l0 : Nat → Int → List (S42) → Int → Int → Option (Int)
  | 0, _, _, _, _ => none
  | k + 1, x3, x7, x8, x9 => if x9 < x8 then (if 0 ≤ x9 then (if x9 < (x7.length : Int) then (core_Size.l0 k (wrap64 (x3 + (((rd_T42 x7 x9).f1).length : Int))) x7 x8 (wrap64 (x9 + 1))) else (none)) else (none)) else (some x3)
def core_Size.f (k : Nat) (l0_0 : List (S42)) (a0_1 : Int) : Option (Int) := core_Size.l0 k 0 l0_0 (l0_0.length : Int) 0
set_option maxHeartbeats 8000000 in
set_option maxRecDepth 100000 in
theorem core_Size.calls (k : Nat) (A0_0 : Option Addr) (c0_0 : Nat) (l0_0 : List (S42)) (a0_1 : Int) (r : Int) (w : World) (hr0_0 : Kd.C k42 w A0_0 l0_0.length l0_0) (hc0_0 : l0_0.length ≤ c0_0) (h : core_Size.f k l0_0 a0_1 = some r) :
    Calls Tryd.prog 24 #[.agg #[.slice A0_0 l0_0.length c0_0, .int .i64 a0_1]] w fun e w' => e = .returned (.int .i64 r) ∧ Below w.heap.size w w' := by
  have hu24 := Tryd.underlying24
  have hu42 := Tryd.underlying42
  have HR0_0 := Aside0.mk hr0_0
  have HC0_0 := Aside0.mk hc0_0
  clear hr0_0 hc0_0
  have HB := Aside0.mk (Below.refl w.heap.size w)
  have H : (core_Size.l0 k 0 l0_0 (l0_0.length : Int) 0) = some r := h
  clear h
  have H' := Aside0.mk H
  clear H
  go_enter Tryd.func24, Tryd.ntmps24
  go_wp2_with (first | ((with_reducible refine gate_dst (N := 1) rfl ?_); refine box_event ?hg (N := 1) ?hd (cs := #[.slice A0_0 l0_0.length c0_0, .int .i64 a0_1]) (t := 24) ?hr ?_; (case hd => rfl); (case hg => rfl); (case hr => first | (go_simp; done) | (go_simp; rfl)); intro gb101 hg w2 hbox hb; have n0_ := Aside0.mk (below_step (by repeat (first | (with_reducible first | exact HB.out | apply below_alloc | apply pw_below_drewN | apply below_drew1) | exact HB.out)) hb); have n1_ := Aside0.mk (hbox); have n2_ := Aside0.mk ((by rw [hg]; exact (below_size (by repeat (first | (with_reducible first | exact HB.out | apply below_alloc | apply pw_below_drewN | apply below_drew1) | exact HB.out))) : w.heap.size ≤ gb101)); have n3_ := Aside0.mk ((by rw [hg]; exact (below_size (by repeat (first | (with_reducible first | exact HB.out | apply below_alloc | apply pw_below_drewN | apply below_drew1) | exact HB.out))) : w.heap.size ≤ gb101)); clear HB; have HB := n0_; have BK101 := n1_; have GW101 := n2_; have GE101 := n3_; clear n0_ n1_ n2_ n3_; clear hb hbox hg; have hcz3_0 : w2.cell? ⟨gb101, 0, none⟩ = some (.slice A0_0 l0_0.length c0_0) := (blk_cell BK101.out 0).trans rfl; have hcz3_1 : w2.cell? ⟨gb101, 1, none⟩ = some (.int .i64 a0_1) := (blk_cell BK101.out 1).trans rfl; have hfz3_0 := blk_frozen BK101.out 0; have hfz3_1 := blk_frozen BK101.out 1))
  go_loopg [3, 9] k (fun kq v3 v9 w' => ∃ (x3_1 : Int) (x9_1 : Int), v3 = .int .i64 x3_1 ∧ v9 = .int .i64 x9_1 ∧ Aside0 (core_Size.l0 kq x3_1 l0_0 (l0_0.length : Int) x9_1 = some r) ∧ Aside0 (kq ≤ k) ∧ Aside0 (w'.heap[gb101]? = some (.cells #[(.slice A0_0 l0_0.length c0_0), .int .i64 a0_1] 24 (0, 0))) ∧ Aside0 (Below w.heap.size w w'))
  case atStart => exact ⟨(0), (0), (by first | rfl | (simp; done) | (simp [*]; done)), (by first | rfl | (simp; done) | (simp [*]; done)), H', ⟨Nat.le_refl _⟩, ⟨by (with_reducible repeat (first | refine blk_drewN ?_ _ | refine blk_drew ?_ | refine blk_alloc ?_ _)); exact BK101.out⟩, ⟨by repeat (first | (with_reducible first | exact HB.out | apply below_alloc | apply pw_below_drewN | apply below_drew1 | refine below_set ?_ GE101.out) | exact HB.out)⟩⟩
  case round =>
    clear H'
    try clear c2
    try clear p2
    try clear hcz3_0
    try clear hcz3_1
    try clear hfz3_0
    try clear hfz3_1
    obtain ⟨x3_1, x9_1, rfl, rfl, HA, HK1, BK101, HB⟩ := hrel
    cases gk with
    | zero => exact absurd HA.out (by simp [core_Size.l0])
    | succ k1 =>
      have H := HA.out
      clear HA
      simp only [core_Size.l0] at H
      by_cases c4 : x9_1 < (l0_0.length : Int)
      · rw [if_pos c4] at H
        have c4b0 : decide (x9_1 < (l0_0.length : Int)) = true := decide_eq_true c4
        clear c4
        by_cases c5 : 0 ≤ x9_1
        · rw [if_pos c5] at H
          have c5b0 : decide (0 ≤ x9_1) = true := decide_eq_true c5
          clear c5
          by_cases c6 : x9_1 < (l0_0.length : Int)
          · rw [if_pos c6] at H
            have c6b0 : decide (x9_1 < (l0_0.length : Int)) = true := decide_eq_true c6
            clear c6
            have H' := Aside0.mk H
            clear H
            have p102 : 0 ≤ (x9_1 : Int) := of_decide_eq_true (by first | (with_reducible assumption) | assumption)
            have q102 : x9_1 < (l0_0.length : Int) := of_decide_eq_true (by first | (with_reducible assumption) | assumption)
            obtain ⟨ad102, A102_1, c102_1, e102, hx102_0, hx102_1, hl102_1, hi102_1⟩ := at_T42 HR0_0.out x9_1 p102 q102
            cases e102
            replace hx102_0 := (HB.out.cell (World.block_lt_of_cell? w _ hx102_0)).trans hx102_0
            replace hx102_1 := (HB.out.cell (World.block_lt_of_cell? w _ hx102_1)).trans hx102_1
            have HR102_1 := Aside0.mk hi102_1
            have HC102_1 := Aside0.mk hl102_1
            clear hi102_1 hl102_1
            replace p102 := eq_true p102
            replace q102 := eq_true q102
            go_wp2_with (first | ((with_reducible refine gate_dst (N := 5) rfl ?_); refine box_event ?hg (N := 5) ?hd (cs := #[.string (⟨#[]⟩ : ByteArray), .slice none 0 0]) (t := 42) ?hr ?_; (case hd => rfl); (case hg => rfl); (case hr => first | (go_simp; done) | (go_simp; rfl)); intro gb103 hg w7 hbox hb; have n0_ := Aside0.mk (blk_below (g := gb101) (o := .cells #[.slice (some ad102) l0_0.length c0_0, .int .i64 a0_1] 24 (0, 0)) (by (with_reducible repeat (first | refine blk_drewN ?_ _ | refine blk_drew ?_ | refine blk_alloc ?_ _)); exact BK101.out) hb); have n1_ := Aside0.mk (below_step (by repeat (first | (with_reducible first | exact HB.out | apply below_alloc | apply pw_below_drewN | apply below_drew1 | refine below_set ?_ GE101.out) | exact HB.out)) hb); have n2_ := Aside0.mk (hbox); have n3_ := Aside0.mk ((by rw [hg]; exact (below_size (by repeat (first | (with_reducible first | exact HB.out | apply below_alloc | apply pw_below_drewN | apply below_drew1 | refine below_set ?_ GE101.out) | exact HB.out))) : w.heap.size ≤ gb103)); have n4_ := Aside0.mk ((by rw [hg]; exact (below_size (by repeat (first | (with_reducible first | exact HB.out | apply below_alloc | apply pw_below_drewN | apply below_drew1 | refine below_set ?_ GE101.out) | exact HB.out))) : w.heap.size ≤ gb103)); have n5_ := Aside0.mk ((by rw [hg]; exact Nat.ne_of_lt (blk_lt (g := gb101) (o := .cells #[.slice (some ad102) l0_0.length c0_0, .int .i64 a0_1] 24 (0, 0)) (by (with_reducible repeat (first | refine blk_drewN ?_ _ | refine blk_drew ?_ | refine blk_alloc ?_ _)); exact BK101.out)) : gb101 ≠ gb103)); have n6_ := Aside0.mk ((by rw [hg]; exact Nat.ne_of_gt (blk_lt (g := gb101) (o := .cells #[.slice (some ad102) l0_0.length c0_0, .int .i64 a0_1] 24 (0, 0)) (by (with_reducible repeat (first | refine blk_drewN ?_ _ | refine blk_drew ?_ | refine blk_alloc ?_ _)); exact BK101.out)) : gb103 ≠ gb101)); clear BK101; clear HB; have BK101 := n0_; have HB := n1_; have BK103 := n2_; have GW103 := n3_; have GE103 := n4_; have NB101_103 := n5_; have NB103_101 := n6_; clear n0_ n1_ n2_ n3_ n4_ n5_ n6_; clear hb hbox hg; have hnb8 := NB103_101.out; have hnc8 := NB101_103.out; have hcz9_0 : w7.cell? ⟨gb103, 0, none⟩ = some (.string (⟨#[]⟩ : ByteArray)) := (blk_cell BK103.out 0).trans rfl; have hcz9_1 : w7.cell? ⟨gb103, 1, none⟩ = some (.slice none 0 0) := (blk_cell BK103.out 1).trans rfl; have hfz9_0 := blk_frozen BK103.out 0; have hfz9_1 := blk_frozen BK103.out 1))
            go_roundg k1
            case measure => have := HK1.out; omega
            case rel => exact ⟨(wrap64 (x3_1 + (((rd_T42 l0_0 x9_1).f1).length : Int))), (wrap64 (x9_1 + 1)), (by first | rfl | (simp; done) | (simp [*]; done)), (by first | rfl | (simp; done) | (simp [*]; done)), H', ⟨by have := HK1.out; omega⟩, ⟨by (with_reducible repeat (first | refine blk_drewN ?_ _ | refine blk_drew ?_ | refine blk_alloc ?_ _)); refine blk_far ?_ NB101_103.out _; (with_reducible repeat (first | refine blk_drewN ?_ _ | refine blk_drew ?_ | refine blk_alloc ?_ _)); refine blk_far ?_ NB101_103.out _; (with_reducible repeat (first | refine blk_drewN ?_ _ | refine blk_drew ?_ | refine blk_alloc ?_ _)); exact BK101.out⟩, ⟨by repeat (first | (with_reducible first | exact HB.out | apply below_alloc | apply pw_below_drewN | apply below_drew1 | refine below_set ?_ GE101.out | refine below_set ?_ GE103.out) | exact HB.out)⟩⟩
          · rw [if_neg c6] at H
            exact absurd H (by simp)
        · rw [if_neg c5] at H
          exact absurd H (by simp)
      · rw [if_neg c4] at H
        have c4b0 : decide (x9_1 < (l0_0.length : Int)) = false := decide_eq_false c4
        clear c4
        obtain rfl := Option.some.inj H
        go_wp2
        go_ret
        exact ⟨by first | rfl | (simp [errW_none, errW_some] <;> rfl) | (simp [*, errW_none, errW_some] <;> rfl), by repeat (first | (with_reducible first | exact HB.out | apply below_alloc | apply pw_below_drewN | apply below_drew1 | refine below_set ?_ GE101.out) | exact HB.out)⟩

/-! ### lexis_letter: function 48 -/

/-! ### lexis_digit: function 49 -/

/-! ### lexis_own: function 42 -/

/-! ### stringslite_HasPrefix: function 50 -/

/-! ### strings_HasPrefix: function 43 -/

/-! ### lexis_numbered: function 44 -/

end Go.Proofs.YtmpkkphohilkoaaDoor.F
/- The printed functions of the references, in plain words: names, clean, body, Check; Size, Outcomes, Cores. -/
namespace Go.Proofs.YtmpkkphohilkoaaDoor.B
open Go Go.RowKit Go.X Go.Proofs.YtmpkkphohilkoaaDoorW.PrintWords Go.Proofs.YtmpkkphohilkoaaDoorW.PrintLast Go.Proofs.YtmpkkphohilkoaaDoorW.PrintMore Go.Proofs.YtmpkkphohilkoaaDoor.F Go.Proofs.YtmpkkphohilkoaaDoor.Nm
set_option linter.unusedSimpArgs false

theorem ld_letter {c : Int} (h : letterZ c = true) : ldZ c = true := by simp [ldZ, h]
theorem ld_digit {c : Int} (h : digitZ c = true) : ldZ c = true := by simp [ldZ, h]
theorem bt_bl (s : ByteArray) {i : Nat} (h : i < s.size) : bt s (i : Int) = (bl s).getD i 0 := by
  rw [← bl_get s h, ← bt_at s (i : Int) (by simpa using h)]
  rfl
end Go.Proofs.YtmpkkphohilkoaaDoor.B
/- The references' Check and Size, in plain words: when is a core grammar right. -/
namespace Go.Proofs.YtmpkkphohilkoaaDoor.B
open Go Go.RowKit Go.X Go.Ma Go.Proofs.YtmpkkphohilkoaaDoorW.PrintWords Go.Proofs.YtmpkkphohilkoaaDoorW.PrintLast Go.Proofs.YtmpkkphohilkoaaDoorW.PrintMore Go.Proofs.YtmpkkphohilkoaaDoor.F Go.Proofs.YtmpkkphohilkoaaDoor.Nm
set_option linter.unusedSimpArgs false

/-- No : and no ~. -/
def plainS (s : ByteArray) : Bool := (bl s).all fun c => decide (c ≠ 58 ∧ c ≠ 126)
def arz (op : Int) : Nat := if op = 4 ∨ op = 5 then 2 else if op = 6 ∨ op = 7 ∨ op = 8 then 1 else 0
def nodeOK (N : Nat) (x : S47) : Bool := decide (0 ≤ x.f0 ∧ x.f0 ≤ 8 ∧ (x.f0 ≠ 1 → x.f1.f0 = 0 ∧ x.f1.f1 = 0 ∧ x.f1.f2 = 0 ∧ x.f1.f3 = 0) ∧ (x.f0 = 2 → 0 ≤ x.f2 ∧ x.f2 < N) ∧ (x.f0 ≠ 2 → x.f2 = 0)) &&
  (if x.f0 = 3 ∨ x.f0 = 8 then nameOK x.f3 && plainS x.f3 else decide (x.f3.size = 0))
/-- Is a body right? -/
def goB (N : Nat) : List S47 → Nat → Bool
  | [], n => decide (n = 1)
  | x :: r, n => nodeOK N x && decide (arz x.f0 ≤ n) && goB N r (n + 1 - arz x.f0)
def okAt (rs : List S42) (i : Nat) : Bool := nameOK (cr rs i).f0 && goB rs.length (cr rs i).f1 0 && decide (∀ k, k < i → (cr rs k).f0 ≠ (cr rs i).f0)
def sz : List S42 → Nat
  | [] => 0
  | x :: r => x.f1.length + sz r
def chk (rs : List S42) (start : Int) : Bool := decide (1 ≤ rs.length ∧ rs.length ≤ 256 ∧ 0 ≤ start ∧ start < rs.length ∧ sz rs ≤ 16384) && (List.range rs.length).all (okAt rs)
theorem nil_iff (s : ByteArray) : (s.toList == []) = decide (s.size = 0) := empty_iff s
theorem drop_cr {rs : List S42} {i : Nat} (h : i < rs.length) : rs.drop i = cr rs i :: rs.drop (i + 1) := by
  rw [List.drop_eq_getElem_cons h, cr, List.getD_eq_getElem?_getD, List.getElem?_eq_getElem h]
  rfl
theorem drop_cd {xs : List S47} {i : Nat} (h : i < xs.length) : xs.drop i = cd xs i :: xs.drop (i + 1) := by
  rw [List.drop_eq_getElem_cons h, cd, List.getD_eq_getElem?_getD, List.getElem?_eq_getElem h]
  rfl
theorem sz_mem {rs : List S42} {x : S42} (h : x ∈ rs) : x.f1.length ≤ sz rs := by
  induction rs with
  | nil => cases h
  | cons a r ih =>
    rw [sz]
    rcases List.mem_cons.1 h with rfl | h
    · omega
    · have := ih h; omega
theorem sz_le {rs : List S42} {b : Nat} (h : ∀ x ∈ rs, x.f1.length ≤ b) : sz rs ≤ rs.length * b := by
  induction rs with
  | nil => simp [sz]
  | cons a r ih =>
    have := ih fun x hx => h x (List.mem_cons_of_mem _ hx)
    have := h a List.mem_cons_self
    rw [sz, List.length_cons, Nat.succ_mul]
    omega
theorem size_l0 (rs : List S42) (st : Int) (hs : sz rs ≤ 4611686018427387904) (hl : rs.length ≤ 1048576) : ∀ (d k i : Nat) (n : Nat), rs.length - i = d → d < k → i ≤ rs.length → n + sz (rs.drop i) = sz rs → dowelref09_Size.l0 k n i rs st = some (sz rs : Int)
  | 0, k, i, n, hd, hk, hi, hn => by
    obtain ⟨k, rfl⟩ : ∃ m, k = m + 1 := ⟨k - 1, by omega⟩
    rw [List.drop_of_length_le (by omega), sz] at hn
    rw [dowelref09_Size.l0, if_neg (by omega)]
    congr 1; omega
  | d + 1, k, i, n, hd, hk, hi, hn => by
    obtain ⟨k, rfl⟩ : ∃ m, k = m + 1 := ⟨k - 1, by omega⟩
    rw [drop_cr (by omega), sz] at hn
    have hw : wrap64 ((i : Int) + 1) = ((i + 1 : Nat) : Int) := by rw [IntWalk.wrap64_in _ (by omega)]; rfl
    have hw2 : wrap64 ((n : Int) + ((cr rs i).f1.length : Int)) = ((n + (cr rs i).f1.length : Nat) : Int) := by rw [IntWalk.wrap64_in _ (by omega)]; rfl
    have e : rd_T42 rs (i : Int) = cr rs i := by rw [rd_T42, Int.toNat_natCast]; rfl
    rw [dowelref09_Size.l0, if_pos (by omega), if_pos (by omega), e, hw, hw2]
    exact size_l0 rs st hs hl d k (i + 1) _ (by omega) (by omega) (by omega) (by omega)
theorem size_f (rs : List S42) (st : Int) (hs : sz rs ≤ 4611686018427387904) (hl : rs.length ≤ 1048576) (k : Nat) (hk : rs.length < k) : dowelref09_Size.f k rs st = some (sz rs : Int) :=
  size_l0 rs st hs hl rs.length k 0 0 rfl hk (Nat.zero_le _) (by simp)
theorem csize_l0 (rs : List S42) (hs : sz rs ≤ 4611686018427387904) (hl : rs.length ≤ 1048576) : ∀ (d k i : Nat) (n : Nat), rs.length - i = d → d < k → i ≤ rs.length → n + sz (rs.drop i) = sz rs → core_Size.l0 k n rs (rs.length : Int) i = some (sz rs : Int)
  | 0, k, i, n, hd, hk, hi, hn => by
    obtain ⟨k, rfl⟩ : ∃ m, k = m + 1 := ⟨k - 1, by omega⟩
    rw [List.drop_of_length_le (by omega), sz] at hn
    rw [core_Size.l0, if_neg (by omega)]
    congr 1; omega
  | d + 1, k, i, n, hd, hk, hi, hn => by
    obtain ⟨k, rfl⟩ : ∃ m, k = m + 1 := ⟨k - 1, by omega⟩
    rw [drop_cr (by omega), sz] at hn
    have hw : wrap64 ((i : Int) + 1) = ((i + 1 : Nat) : Int) := by rw [IntWalk.wrap64_in _ (by omega)]; rfl
    have hw2 : wrap64 ((n : Int) + ((cr rs i).f1.length : Int)) = ((n + (cr rs i).f1.length : Nat) : Int) := by rw [IntWalk.wrap64_in _ (by omega)]; rfl
    have e : rd_T42 rs (i : Int) = cr rs i := by rw [rd_T42, Int.toNat_natCast]; rfl
    rw [core_Size.l0, if_pos (by omega), if_pos (by omega), if_pos (by omega), e, hw, hw2]
    exact csize_l0 rs hs hl d k (i + 1) _ (by omega) (by omega) (by omega) (by omega)
theorem csize_f (rs : List S42) (st : Int) (hs : sz rs ≤ 4611686018427387904) (hl : rs.length ≤ 1048576) (k : Nat) (hk : rs.length < k) : core_Size.f k rs st = some (sz rs : Int) :=
  csize_l0 rs hs hl rs.length k 0 0 rfl hk (Nat.zero_le _) (by simp)
theorem heavy_f (rs : List S42) (st : Int) (hb : ∀ x ∈ rs, x.f1.length ≤ 140737488355328) (k : Nat) (hk : 4096 < k) : dowellaw14_heavy.f k rs st = some (decide (4096 < rs.length ∨ 1048576 < sz rs)) := by
  unfold dowellaw14_heavy.f
  by_cases h : 4096 < rs.length
  · rw [if_pos (by omega)]
    simp [h]
  · have := sz_le hb
    have : rs.length * 140737488355328 ≤ 4096 * 140737488355328 := Nat.mul_le_mul_right _ (by omega)
    rw [if_neg (by omega), size_f rs st (by omega) (by omega) k (by omega), Option.bind_some]
    congr 1
    rw [Bool.eq_iff_iff]
    simp [h]
    omega
theorem nameOK_le {s : ByteArray} (h : nameOK s = true) : s.size ≤ 64 := by
  have := of_decide_eq_true h
  exact this.2.1
end Go.Proofs.YtmpkkphohilkoaaDoor.B
namespace Go.Proofs.YtmpkkphohilkoaaDoor.F
open Go.RowKit Go.Proofs.YtmpkkphohilkoaaDoorW.PrintWords Go.Proofs.YtmpkkphohilkoaaDoorW.PrintLast Go.Proofs.YtmpkkphohilkoaaDoorW.PrintMore
attribute [local go_sem] max2_int min2_int max_two min_two max_three min_three max_four min_four   -- for this text's walks alone
set_option linter.unusedVariables false
set_option linter.unusedSimpArgs false

theorem eqA47 (d : Nat) (w : World) (x0 y0 : Int) (x1 y1 : Int) (x2 y2 : Int) (x3 y3 : Int) (x4 y4 : Int) (x5 y5 : Int) (x6 y6 : ByteArray) :
    (Op.equalIn (d + 3) 47 (.agg #[.int .i64 x0, .int .u64 x1, .int .u64 x2, .int .u64 x3, .int .u64 x4, .int .i64 x5, .string x6]) (.agg #[.int .i64 y0, .int .u64 y1, .int .u64 y2, .int .u64 y3, .int .u64 y4, .int .i64 y5, .string y6])).run Tryd.prog w = .ok (x0 == y0 && ((x1 == y1 && (x2 == y2 && (x3 == y3 && (x4 == y4)))) && (x5 == y5 && (x6.toList == y6.toList)))) w := by
  refine eqA_of Tryd.underlying47 (by kernel_rfl) ?_
  refine eqf_cons (by rfl) (by go_simp; rfl) (by go_simp; rfl) (by go_simp) ?_
  refine eqf_cons (by rfl) (by go_simp) (by go_simp) (eqA45 (d + 0) w _ _ _ _ _ _ _ _) ?_
  refine eqf_cons (by rfl) (by go_simp; rfl) (by go_simp; rfl) (by go_simp) ?_
  exact eqf_last (by rfl) (by go_simp; rfl) (by go_simp; rfl) (by go_simp)
end Go.Proofs.YtmpkkphohilkoaaDoor.F
namespace Go.Proofs.YtmpkkphohilkoaaDoor.F
open Go.RowKit Go.Proofs.YtmpkkphohilkoaaDoorW.PrintWords Go.Proofs.YtmpkkphohilkoaaDoorW.PrintLast Go.Proofs.YtmpkkphohilkoaaDoorW.PrintMore
attribute [local go_sem] max2_int min2_int max_two min_two max_three min_three max_four min_four   -- for this text's walks alone
set_option linter.unusedVariables false
set_option linter.unusedSimpArgs false

/-! ### lexis_named: function 34 -/

/-! ### core_arity: function 35 -/
def core_arity.j0 : Nat → Int → Bool → Option (Int)
  | 0, _, _ => none
  | k + 1, x3, x4 => if x4 = true then (some 2) else (if x3 = 6 then (some 1) else (if x3 = 7 then (some 1) else (if x3 = 8 then (some 1) else (some 0))))
def core_arity.f (k : Nat) (a0 : Int) : Option (Int) := if a0 = 4 then (core_arity.j0 k a0 (a0 == 4)) else (core_arity.j0 k a0 (a0 == 5))
set_option maxHeartbeats 8000000 in
set_option maxRecDepth 100000 in
theorem core_arity.calls (k : Nat) (a0 : Int) (r : Int) (w : World) (h : core_arity.f k a0 = some r) :
    Calls Tryd.prog 35 #[.int .i64 a0] w fun e w' => e = .returned (.int .i64 r) ∧ Drawn0 w w' := by
  have H : (if a0 = 4 then (core_arity.j0 k a0 (a0 == 4)) else (core_arity.j0 k a0 (a0 == 5))) = some r := h
  clear h
  have HC2 := Aside0.mk H
  clear H
  go_enter Tryd.func35, Tryd.ntmps35
  go_upto_if 4 with (fail)
  go_cut [4] (fun v4 wc => ∃ (kq : Nat) (x4_1 : Bool), v4 = .bool x4_1 ∧ Aside0 (core_arity.j0 kq a0 x4_1 = some r) ∧ Aside0 (kq ≤ k) ∧ Drawn0 w wc)
  case first =>
    have H := HC2.out
    clear HC2
    by_cases c3 : a0 = 4
    · rw [if_pos c3] at H
      have c3b0 : (a0 == 4) = true := beq_iff_eq.mpr c3
      have c3b1 : (a0 != 4) = false := bne_eq_false_iff_eq.mpr c3
      clear c3
      (first | rw [c3b0] | (simp only [i64_w, i32_w]; rw [c3b0]) | skip)
      have H' := Aside0.mk H
      clear H
      go_wp2
      go_meet
      case rel => exact ⟨_, ((a0 == 4)), (by first | rfl | (simp; done) | (simp [*]; done)), H', ⟨by first | omega | exact Nat.le_refl _⟩, by repeat (first | exact Drawn0.refl _ | apply Drawn0.step)⟩
    · rw [if_neg c3] at H
      have c3b0 : (a0 == 4) = false := beq_eq_false_iff_ne.mpr c3
      have c3b1 : (a0 != 4) = true := bne_iff_ne.mpr c3
      (first | rw [c3b0] | (simp only [i64_w, i32_w]; rw [c3b0]) | skip)
      have H' := Aside0.mk H
      clear H
      go_wp2
      go_meet
      case rel => exact ⟨_, ((a0 == 5)), (by first | rfl | (simp; done) | (simp [*]; done)), H', ⟨by first | omega | exact Nat.le_refl _⟩, by repeat (first | exact Drawn0.refl _ | apply Drawn0.step)⟩
  case rest =>
    clear HC2
    try clear p2
    try clear c3
    try clear c3b0
    try clear c3b1
    obtain ⟨kq, x4_1, rfl, HA, HJ1, ⟨mc1, rfl⟩⟩ := hcut
    cases kq with
    | zero => exact absurd HA.out (by simp [core_arity.j0])
    | succ kj1 =>
      have H := HA.out
      clear HA
      simp only [core_arity.j0] at H
      by_cases c4 : x4_1 = true
      · subst c4
        have H1 : (some 2) = some r := by rw [if_pos rfl] at H; exact H
        clear H
        have H := H1
        clear H1
        obtain rfl := Option.some.inj H
        go_wp2
        go_ret
        exact ⟨by first | rfl | (simp; done) | (simp [*]; done), by repeat (first | exact Drawn0.refl _ | apply Drawn0.step)⟩
      · replace c4 := Bool.eq_false_iff.mpr c4
        subst c4
        have H1 : (if a0 = 6 then (some 1) else (if a0 = 7 then (some 1) else (if a0 = 8 then (some 1) else (some 0)))) = some r := by rw [if_neg (show ¬ (false = true) by decide)] at H; exact H
        clear H
        have H := H1
        clear H1
        by_cases c5 : a0 = 6
        · rw [if_pos c5] at H
          have c5b0 : (a0 == 6) = true := beq_iff_eq.mpr c5
          have c5b1 : (a0 != 6) = false := bne_eq_false_iff_eq.mpr c5
          clear c5
          obtain rfl := Option.some.inj H
          go_wp2
          go_ret
          exact ⟨by first | rfl | (simp; done) | (simp [*]; done), by repeat (first | exact Drawn0.refl _ | apply Drawn0.step)⟩
        · rw [if_neg c5] at H
          have c5b0 : (a0 == 6) = false := beq_eq_false_iff_ne.mpr c5
          have c5b1 : (a0 != 6) = true := bne_iff_ne.mpr c5
          by_cases c6 : a0 = 7
          · rw [if_pos c6] at H
            have c6b0 : (a0 == 7) = true := beq_iff_eq.mpr c6
            have c6b1 : (a0 != 7) = false := bne_eq_false_iff_eq.mpr c6
            clear c6
            obtain rfl := Option.some.inj H
            go_wp2
            go_ret
            exact ⟨by first | rfl | (simp; done) | (simp [*]; done), by repeat (first | exact Drawn0.refl _ | apply Drawn0.step)⟩
          · rw [if_neg c6] at H
            have c6b0 : (a0 == 7) = false := beq_eq_false_iff_ne.mpr c6
            have c6b1 : (a0 != 7) = true := bne_iff_ne.mpr c6
            by_cases c7 : a0 = 8
            · rw [if_pos c7] at H
              have c7b0 : (a0 == 8) = true := beq_iff_eq.mpr c7
              have c7b1 : (a0 != 8) = false := bne_eq_false_iff_eq.mpr c7
              clear c7
              obtain rfl := Option.some.inj H
              go_wp2
              go_ret
              exact ⟨by first | rfl | (simp; done) | (simp [*]; done), by repeat (first | exact Drawn0.refl _ | apply Drawn0.step)⟩
            · rw [if_neg c7] at H
              have c7b0 : (a0 == 8) = false := beq_eq_false_iff_ne.mpr c7
              have c7b1 : (a0 != 8) = true := bne_iff_ne.mpr c7
              obtain rfl := Option.some.inj H
              go_wp2
              go_ret
              exact ⟨by first | rfl | (simp; done) | (simp [*]; done), by repeat (first | exact Drawn0.refl _ | apply Drawn0.step)⟩

-- NOT PRINTED: function 60 (bytealg_IndexByteString)

-- NOT PRINTED: function 59 (stringslite_IndexByte)

-- NOT PRINTED: function 55 (strings_IndexByte)

/-! ### utf8_ValidRune: function 56 -/

/-! ### bytealg_Cutover: function 57 -/

-- NOT PRINTED: function 58 (bytealg_IndexString)

-- NOT PRINTED: function 51 (strings_IndexRune)

/-! ### strings_shouldUseASCIISet: function 52 -/

-- NOT PRINTED: function 53 (strings_makeASCIISet)

-- NOT PRINTED: function 54 (strings_asciiSet_contains)

-- NOT PRINTED: function 45 (strings_IndexAny)

end Go.Proofs.YtmpkkphohilkoaaDoor.F
