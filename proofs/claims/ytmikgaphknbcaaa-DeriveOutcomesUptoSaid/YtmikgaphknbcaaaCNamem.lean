/- Names: letter, digit, own, numbered, named, Name (lexis and dowelref04), own (script), Own (dowelref04). -/
import Derived.Test.YtmikgaphknbcaaaXStep
import Derived.Test.YtmikgaphknbcaaaMD
import Derived.WalkKit
import Derived.Lib.Hide
namespace Go.Proofs.Ytmikgaphknbcaaa.B
open Go Go.RowKit Go.X Go.Proofs.YtmikgaphknbcaaaW.PrintWords Go.Proofs.Ytmikgaphknbcaaa.F

def letterZ (c : Int) : Bool := (decide (97 ≤ c) && decide (c ≤ 122)) || (decide (65 ≤ c) && decide (c ≤ 90)) || decide (c = 95)
def digitZ (c : Int) : Bool := decide (48 ≤ c) && decide (c ≤ 57)
def ldZ (c : Int) : Bool := letterZ c || digitZ c
def bl (s : ByteArray) : List Int := s.data.toList.map fun c => (c.toNat : Int)
theorem bl_length (s : ByteArray) : (bl s).length = s.size := by simp [bl]
theorem bl_get (s : ByteArray) {i : Nat} (h : i < s.size) : ((s[i]'h).toNat : Int) = (bl s).getD i 0 := by
  have h' : i < s.data.size := h
  rw [List.getD_eq_getElem?_getD, bl, List.getElem?_map, Array.getElem?_toList, Array.getElem?_eq_getElem h']
  rfl
theorem drop_bl (s : ByteArray) {i : Nat} (h : i < s.size) : (bl s).drop i = (bl s).getD i 0 :: (bl s).drop (i + 1) := by
  have h' : i < (bl s).length := by rw [bl_length]; exact h
  rw [List.drop_eq_getElem_cons h', List.getD_eq_getElem?_getD, List.getElem?_eq_getElem h']
  rfl
theorem drop_bl_nil (s : ByteArray) {i : Nat} (h : s.size ≤ i) : (bl s).drop i = [] := List.drop_of_length_le (by rw [bl_length]; exact h)
def run (p : Int → Bool) (l : List Int) : Nat := (l.takeWhile p).length
theorem run_nil (p : Int → Bool) : run p [] = 0 := rfl
theorem run_cons (p : Int → Bool) (c : Int) (r : List Int) : run p (c :: r) = if p c then 1 + run p r else 0 := by
  unfold run
  cases h : p c <;> simp [h, Nat.add_comm]
def ownL : List Int → Nat
  | [] => 0
  | c :: r => if letterZ c then 1 + run ldZ r else 0
set_option maxHeartbeats 1000000 in
theorem letter.calls (c : Int) (w : World) : Calls Try.prog 78 #[.int .u8 c] w fun e w' => e = .returned (.bool (letterZ c)) ∧ w' = w := by
  go_enter Try.func78, Try.ntmps78
  by_cases h1 : 97 ≤ c <;> by_cases h2 : c ≤ 122 <;> by_cases h3 : 65 ≤ c <;> by_cases h4 : c ≤ 90 <;> by_cases h5 : c = 95 <;>
  (first | (exfalso; omega) | (go_wp2; go_ret; refine ⟨congrArg (fun b => Ending.returned (.bool b)) (?_ : _ = letterZ _), rfl⟩; rw [Bool.eq_iff_iff]; simp [letterZ] <;> omega))
set_option maxHeartbeats 1000000 in
theorem digit.calls (c : Int) (w : World) : Calls Try.prog 79 #[.int .u8 c] w fun e w' => e = .returned (.bool (digitZ c)) ∧ w' = w := by
  go_enter Try.func79, Try.ntmps79
  by_cases h1 : 48 ≤ c <;> by_cases h2 : c ≤ 57 <;> (go_wp2; go_ret; exact ⟨by simp [digitZ, *], rfl⟩)
set_option maxHeartbeats 1000000 in
theorem letterR.calls (c : Int) (w : World) : Calls Try.prog 71 #[.int .u8 c] w fun e w' => e = .returned (.bool (letterZ c)) ∧ w' = w := by
  go_enter Try.func71, Try.ntmps71
  by_cases h1 : 97 ≤ c <;> by_cases h2 : c ≤ 122 <;> by_cases h3 : 65 ≤ c <;> by_cases h4 : c ≤ 90 <;> by_cases h5 : c = 95 <;>
  (first | (exfalso; omega) | (go_wp2; go_ret; refine ⟨congrArg (fun b => Ending.returned (.bool b)) (?_ : _ = letterZ _), rfl⟩; rw [Bool.eq_iff_iff]; simp [letterZ] <;> omega))
set_option maxHeartbeats 1000000 in
theorem digitR.calls (c : Int) (w : World) : Calls Try.prog 72 #[.int .u8 c] w fun e w' => e = .returned (.bool (digitZ c)) ∧ w' = w := by
  go_enter Try.func72, Try.ntmps72
  by_cases h1 : 48 ≤ c <;> by_cases h2 : c ≤ 57 <;> (go_wp2; go_ret; exact ⟨by simp [digitZ, *], rfl⟩)
set_option maxHeartbeats 2000000 in
theorem ownN.calls (s : ByteArray) (at_ : Nat) (w : World) (hs : s.size ≤ 9223372036854775807) (hat : at_ ≤ s.size) : Calls Try.prog 74 #[.string s, .int .i64 at_] w fun e w' => e = .returned (.int .i64 (ownL ((bl s).drop at_))) ∧ w' = w := by
  go_enter Try.func74, Try.ntmps74
  go_wp2
  go_loopg [5] (s.size - at_) (fun q v wr => ∃ n : Nat, q + (at_ + n) = s.size ∧ v = .int .i64 n ∧ Hid ((n = 0 ∨ ownL ((bl s).drop at_) = n + run ldZ ((bl s).drop (at_ + n)))) ∧ wr = w)
  case atStart => exact ⟨0, by omega, rfl, .inl rfl, rfl⟩
  case round =>
    obtain ⟨n, hn, rfl, HO, rfl⟩ := hrel
    have h1 : IntKind.i64.wrap ((at_ : Int) + n) = (at_ : Int) + n := IntWalk.i64_in _ (by omega)
    by_cases hlt : at_ + n < s.size
    · have hd := drop_bl s hlt
      have hc := bl_get s hlt
      generalize (bl s).getD (at_ + n) 0 = c at *
      have HD := Lib.hid hd; clear hd
      by_cases hl : letterZ c = true
      · go_wp2_with (first | (go_at_call 78; refine (letter.calls _ _).mono ?_; rintro e w1 ⟨rfl, rfl⟩; dsimp only) | fail)
        go_roundg (s.size - (at_ + (n + 1)))
        case measure => omega
        case rel =>
          refine ⟨n + 1, by omega, by go_num, .inr ?_, rfl⟩
          rcases HO.out with rfl | h
          · have hd := HD.out
            rw [Nat.add_zero] at hd
            rw [hd, ownL, if_pos hl]
          · rw [h, HD.out, run_cons, if_pos (by simp [ldZ, hl])]; show _ = n + 1 + run ldZ ((bl s).drop (at_ + n + 1)); omega
      · by_cases h0 : n = 0
        · subst h0
          simp only [Nat.add_zero] at hc
          go_wp2_with (first | (go_at_call 78; refine (letter.calls _ _).mono ?_; rintro e w1 ⟨rfl, rfl⟩; dsimp only) | fail)
          go_ret
          have hd := HD.out
          rw [Nat.add_zero] at hd
          rw [hd, ownL, if_neg hl]
          exact ⟨rfl, rfl⟩
        · have hpos : 0 < n := Nat.pos_of_ne_zero h0
          have ho : Hid (ownL ((bl s).drop at_) = n + run ldZ ((bl s).drop (at_ + n))) := HO.out.resolve_left h0
          by_cases hdg : digitZ c = true
          · go_wp2_with (first | (go_at_call 78; refine (letter.calls _ _).mono ?_; rintro e w1 ⟨rfl, rfl⟩; dsimp only) | (go_at_call 79; refine (digit.calls _ _).mono ?_; rintro e w1 ⟨rfl, rfl⟩; dsimp only) | fail)
            go_roundg (s.size - (at_ + (n + 1)))
            case measure => omega
            case rel =>
              refine ⟨n + 1, by omega, by go_num, .inr ?_, rfl⟩
              rw [ho.out, HD.out, run_cons, if_pos (by simp [ldZ, hdg])]; show _ = n + 1 + run ldZ ((bl s).drop (at_ + n + 1)); omega
          · go_wp2_with (first | (go_at_call 78; refine (letter.calls _ _).mono ?_; rintro e w1 ⟨rfl, rfl⟩; dsimp only) | (go_at_call 79; refine (digit.calls _ _).mono ?_; rintro e w1 ⟨rfl, rfl⟩; dsimp only) | fail)
            go_ret
            rw [ho.out, HD.out, run_cons, if_neg (by simp [ldZ, hdg, hl])]
            exact ⟨rfl, rfl⟩
    · go_wp2
      go_ret
      refine ⟨?_, rfl⟩
      have e : (bl s).drop (at_ + n) = [] := drop_bl_nil s (by omega)
      rcases HO.out with rfl | h
      · rw [Nat.add_zero] at e
        rw [e]
        rfl
      · rw [h, e]
        rfl
set_option maxHeartbeats 2000000 in
theorem ownR.calls (s : ByteArray) (at_ : Nat) (w : World) (hs : s.size ≤ 9223372036854775807) (hat : at_ ≤ s.size) : Calls Try.prog 64 #[.string s, .int .i64 at_] w fun e w' => e = .returned (.int .i64 ((at_ : Int) + ownL ((bl s).drop at_))) ∧ w' = w := by
  go_enter Try.func64, Try.ntmps64
  by_cases hlt : at_ < s.size
  · have hge : ¬ s.size ≤ at_ := by omega
    have hd := drop_bl s hlt
    have hc := bl_get s hlt
    generalize (bl s).getD at_ 0 = c at *
    have HD := Lib.hid hd; clear hd
    by_cases hl : letterZ c = true
    · go_wp2_with (first | (go_at_call 71; refine (letterR.calls _ _).mono ?_; rintro e w1 ⟨rfl, rfl⟩; dsimp only) | fail)
      rename World => wa
      clear hc
      simp only [hl]
      go_loopg [5] (s.size - at_) (fun q v wr => ∃ n : Nat, q + n = s.size ∧ v = .int .i64 n ∧ Hid (at_ + ownL ((bl s).drop at_) = n + run ldZ ((bl s).drop n)) ∧ wr = wa)
      case atStart => exact ⟨at_, by omega, rfl, by rw [HD.out, ownL, if_pos hl, run_cons, if_pos (by simp [ldZ, hl])]; rfl, rfl⟩
      case round =>
        obtain ⟨n, hn, rfl, HO, rfl⟩ := hrel
        by_cases hlt : n < s.size
        · have hd := drop_bl s hlt
          have hc := bl_get s hlt
          generalize (bl s).getD n 0 = c at *
          have HD := Lib.hid hd; clear hd
          by_cases hl : letterZ c = true
          · go_wp2_with (first | (go_at_call 71; refine (letterR.calls _ _).mono ?_; rintro e w1 ⟨rfl, rfl⟩; dsimp only) | fail)
            go_roundg (s.size - (n + 1))
            case measure => omega
            case rel => exact ⟨n + 1, by omega, by go_num, by have := HO.out; rw [HD.out, run_cons, if_pos (by simp [ldZ, hl])] at this; show _ = _; omega, rfl⟩
          · by_cases hdg : digitZ c = true
            · go_wp2_with (first | (go_at_call 71; refine (letterR.calls _ _).mono ?_; rintro e w1 ⟨rfl, rfl⟩; dsimp only) | (go_at_call 72; refine (digitR.calls _ _).mono ?_; rintro e w1 ⟨rfl, rfl⟩; dsimp only) | fail)
              go_roundg (s.size - (n + 1))
              case measure => omega
              case rel => exact ⟨n + 1, by omega, by go_num, by have := HO.out; rw [HD.out, run_cons, if_pos (by simp [ldZ, hdg])] at this; show _ = _; omega, rfl⟩
            · go_wp2_with (first | (go_at_call 71; refine (letterR.calls _ _).mono ?_; rintro e w1 ⟨rfl, rfl⟩; dsimp only) | (go_at_call 72; refine (digitR.calls _ _).mono ?_; rintro e w1 ⟨rfl, rfl⟩; dsimp only) | fail)
              go_ret
              have := HO.out
              rw [HD.out, run_cons, if_neg (by simp [ldZ, hdg, hl])] at this
              rw [show (at_ : Int) + (ownL ((bl s).drop at_) : Nat) = n by omega]
              exact ⟨rfl, rfl⟩
        · go_wp2
          go_ret
          have := HO.out
          rw [drop_bl_nil s (i := n) (by omega), run_nil] at this
          rw [show (at_ : Int) + (ownL ((bl s).drop at_) : Nat) = n by omega]
          exact ⟨rfl, rfl⟩
    · go_wp2_with (first | (go_at_call 71; refine (letterR.calls _ _).mono ?_; rintro e w1 ⟨rfl, rfl⟩; dsimp only) | fail)
      go_ret
      rw [HD.out, ownL, if_neg hl]
      exact ⟨by simp, rfl⟩
  · go_wp2
    go_ret
    rw [drop_bl_nil s (by omega), ownL]
    exact ⟨by simp, rfl⟩
set_option maxHeartbeats 2000000 in
theorem digitsR.calls (s : ByteArray) (at_ : Nat) (w : World) (hs : s.size ≤ 9223372036854775807) (hat : at_ ≤ s.size) : Calls Try.prog 77 #[.string s, .int .i64 at_] w fun e w' => e = .returned (.int .i64 ((at_ : Int) + run digitZ ((bl s).drop at_))) ∧ w' = w := by
  go_enter Try.func77, Try.ntmps77
  go_wp2
  go_loopg [1] (s.size - at_) (fun q v wr => ∃ n : Nat, q + n = s.size ∧ v = .int .i64 n ∧ Hid (at_ + run digitZ ((bl s).drop at_) = n + run digitZ ((bl s).drop n)) ∧ wr = w)
  case atStart => exact ⟨at_, by omega, rfl, rfl, rfl⟩
  case round =>
    obtain ⟨n, hn, rfl, HO, rfl⟩ := hrel
    by_cases hlt : n < s.size
    · have hd := drop_bl s hlt
      have hc := bl_get s hlt
      generalize (bl s).getD n 0 = c at *
      have HD := Lib.hid hd; clear hd
      by_cases hdg : digitZ c = true
      · go_wp2_with (first | (go_at_call 72; refine (digitR.calls _ _).mono ?_; rintro e w1 ⟨rfl, rfl⟩; dsimp only) | fail)
        go_roundg (s.size - (n + 1))
        case measure => omega
        case rel => exact ⟨n + 1, by omega, by go_num, by have := HO.out; rw [HD.out, run_cons, if_pos (by simp [hdg])] at this; show _ = _; omega, rfl⟩
      · go_wp2_with (first | (go_at_call 72; refine (digitR.calls _ _).mono ?_; rintro e w1 ⟨rfl, rfl⟩; dsimp only) | fail)
        go_ret
        have := HO.out
        rw [HD.out, run_cons, if_neg (by simp [hdg])] at this
        rw [show (at_ : Int) + (run digitZ ((bl s).drop at_) : Nat) = n by omega]
        exact ⟨rfl, rfl⟩
    · go_wp2
      go_ret
      have := HO.out
      rw [drop_bl_nil s (i := n) (by omega), run_nil] at this
      rw [show (at_ : Int) + (run digitZ ((bl s).drop at_) : Nat) = n by omega]
      exact ⟨rfl, rfl⟩
/-- A ~ and its number at the front. -/
def numL (l : List Int) : Nat :=
  match l with
  | [] => 0
  | c :: r => if c = 126 ∧ run digitZ r ≠ 0 ∧ run digitZ r ≤ 5 ∧ r.getD 0 0 ≠ 48 then 1 + run digitZ r else 0
theorem numL_of {l r : List Int} (h : l = 126 :: r) (n : Nat) (hn : n = 1 + run digitZ r) :
    (n = 1 → numL l = 0) ∧ (6 < n → numL l = 0) ∧ (n ≠ 1 → n ≤ 6 → (l.getD 1 0 = 48 → numL l = 0) ∧ (l.getD 1 0 ≠ 48 → numL l = n)) := by
  subst h
  rw [numL]
  refine ⟨fun h => if_neg (by omega), fun h => if_neg (by omega), fun h h6 => ⟨fun h48 => if_neg (fun hx => hx.2.2.2 h48), fun h48 => ?_⟩⟩
  rw [if_pos ⟨rfl, by omega, by omega, h48⟩, hn]
theorem run_le (p : Int → Bool) (l : List Int) : run p l ≤ l.length := (List.takeWhile_sublist p).length_le
set_option maxHeartbeats 2000000 in
theorem numbered.calls (s : ByteArray) (w : World) (hs : s.size ≤ 9223372036854775807) : Calls Try.prog 76 #[.string s] w fun e w' => e = .returned (.int .i64 (numL (bl s))) ∧ w' = w := by
  go_enter Try.func76, Try.ntmps76
  by_cases h0 : s.size = 0
  · have e : bl s = [] := by have := drop_bl_nil s (i := 0) (by omega); simpa using this
    have es : s = ⟨#[]⟩ := by cases s with | mk d => cases d with | mk l => cases l <;> simp_all [ByteArray.size]
    subst es
    clear h0
    go_wp2
    go_ret
    rw [e]
    exact ⟨rfl, rfl⟩
  · have hp : 0 < s.size := by omega
    have hd := drop_bl s hp
    have hc := bl_get s hp
    rw [List.drop_zero] at hd
    generalize (bl s).getD 0 0 = c at *
    have HD0 : Hid (bl s = c :: (bl s).drop 1) := hd
    clear hd
    have hne : (s.toList == []) = false := by
      have h2 : s.toList.length = s.size := by rw [ByteArray.toList_eq]; rfl
      cases h : s.toList with
      | nil => rw [h] at h2; simp at h2; omega
      | cons a r => rfl
    by_cases h1 : c = 126
    · subst h1
      go_wp2
      clear hc
      go_loopg [3] (s.size - 1) (fun q v wr => ∃ n : Nat, q + n = s.size ∧ v = .int .i64 n ∧ 1 ≤ n ∧ Hid (1 + run digitZ ((bl s).drop 1) = n + run digitZ ((bl s).drop n)) ∧ wr = w)
      case atStart => exact ⟨1, by omega, rfl, by omega, rfl, rfl⟩
      case round =>
        obtain ⟨n, hn, rfl, h1n, HO, rfl⟩ := hrel
        by_cases hlt : n < s.size
        · have hd := drop_bl s hlt
          have hc := bl_get s hlt
          generalize (bl s).getD n 0 = c at *
          have HD := Lib.hid hd; clear hd
          by_cases hdg : digitZ c = true
          · go_wp2_with (first | (go_at_call 79; refine (digit.calls _ _).mono ?_; rintro e w1 ⟨rfl, rfl⟩; dsimp only) | fail)
            go_roundg (s.size - (n + 1))
            case measure => omega
            case rel => exact ⟨n + 1, by omega, by go_num, by omega, by have := HO.out; rw [HD.out, run_cons, if_pos (by simp [hdg])] at this; show _ = _; omega, rfl⟩
          · have hdg' : digitZ c = false := by simpa using hdg
            clear hdg
            have hF := numL_of HD0.out n (by have := HO.out; rw [HD.out, run_cons, if_neg (by simp [hdg'])] at this; omega)
            by_cases a1 : n = 1
            · have HV := Lib.hid (hF.1 a1); clear hF
              subst a1
              go_wp2_with (first | (go_at_call 79; refine (digit.calls _ _).mono ?_; rintro e w1 ⟨rfl, rfl⟩; dsimp only) | fail)
              go_ret
              rw [HV.out]
              exact ⟨rfl, rfl⟩
            · have a1' : ((n : Int) == 1) = false := by rw [beq_eq_false_iff_ne]; omega
              by_cases a2 : 6 < n
              · have a2' : (6 : Int) < (n : Int) := by omega
                have HV := Lib.hid (hF.2.1 a2); clear hF
                go_wp2_with (first | (go_at_call 79; refine (digit.calls _ _).mono ?_; rintro e w1 ⟨rfl, rfl⟩; dsimp only) | fail)
                go_ret
                rw [HV.out]
                exact ⟨rfl, rfl⟩
              · have a2' : ¬ ((6 : Int) < (n : Int)) := by omega
                have hs1 : 1 < s.size := by omega
                have hc1 := bl_get s hs1
                have hG := hF.2.2 a1 (by omega)
                clear hF
                generalize (bl s).getD 1 0 = d at *
                have HG := Lib.hid hG; clear hG
                have hs1' : (1 : Int) < (s.size : Int) := by omega
                by_cases a3 : d = 48
                · have HV := Lib.hid (HG.out.1 a3)
                  subst a3
                  go_wp2_with (first | (go_at_call 79; refine (digit.calls _ _).mono ?_; rintro e w1 ⟨rfl, rfl⟩; dsimp only) | fail)
                  go_ret
                  rw [HV.out]
                  exact ⟨rfl, rfl⟩
                · have a3' : (d == 48) = false := by rw [beq_eq_false_iff_ne]; exact a3
                  go_wp2_with (first | (go_at_call 79; refine (digit.calls _ _).mono ?_; rintro e w1 ⟨rfl, rfl⟩; dsimp only) | fail)
                  go_ret
                  rw [HG.out.2 a3]
                  exact ⟨rfl, rfl⟩
        · skip
          have hF := numL_of HD0.out n (by have := HO.out; rw [drop_bl_nil s (i := n) (by omega), run_nil] at this; omega)
          by_cases a1 : n = 1
          · have HV := Lib.hid (hF.1 a1); clear hF
            subst a1
            go_wp2_with (first | (go_at_call 79; refine (digit.calls _ _).mono ?_; rintro e w1 ⟨rfl, rfl⟩; dsimp only) | fail)
            go_ret
            rw [HV.out]
            exact ⟨rfl, rfl⟩
          · have a1' : ((n : Int) == 1) = false := by rw [beq_eq_false_iff_ne]; omega
            by_cases a2 : 6 < n
            · have a2' : (6 : Int) < (n : Int) := by omega
              have HV := Lib.hid (hF.2.1 a2); clear hF
              go_wp2_with (first | (go_at_call 79; refine (digit.calls _ _).mono ?_; rintro e w1 ⟨rfl, rfl⟩; dsimp only) | fail)
              go_ret
              rw [HV.out]
              exact ⟨rfl, rfl⟩
            · have a2' : ¬ ((6 : Int) < (n : Int)) := by omega
              have hs1 : 1 < s.size := by omega
              have hc1 := bl_get s hs1
              have hG := hF.2.2 a1 (by omega)
              clear hF
              generalize (bl s).getD 1 0 = d at *
              have HG := Lib.hid hG; clear hG
              have hs1' : (1 : Int) < (s.size : Int) := by omega
              by_cases a3 : d = 48
              · have HV := Lib.hid (HG.out.1 a3)
                subst a3
                go_wp2_with (first | (go_at_call 79; refine (digit.calls _ _).mono ?_; rintro e w1 ⟨rfl, rfl⟩; dsimp only) | fail)
                go_ret
                rw [HV.out]
                exact ⟨rfl, rfl⟩
              · have a3' : (d == 48) = false := by rw [beq_eq_false_iff_ne]; exact a3
                go_wp2_with (first | (go_at_call 79; refine (digit.calls _ _).mono ?_; rintro e w1 ⟨rfl, rfl⟩; dsimp only) | fail)
                go_ret
                rw [HG.out.2 a3]
                exact ⟨rfl, rfl⟩
    · go_wp2
      go_ret
      rw [HD0.out, numL, if_neg (by simp [h1])]
      exact ⟨rfl, rfl⟩

theorem bl_extract (s : ByteArray) (i j : Nat) : bl (s.extract i j) = ((bl s).drop i).take (j - i) := by
  simp only [bl, ByteArray.data_extract, Array.toList_extract, List.extract_eq_take_drop, List.map_take, List.map_drop]
theorem bl_rest (s : ByteArray) (i : Nat) : bl (s.extract i s.size) = (bl s).drop i := by
  rw [bl_extract, List.take_of_length_le (by rw [List.length_drop, bl_length]; omega)]
theorem size_extract (s : ByteArray) (i j : Nat) (h : j ≤ s.size) : (s.extract i j).size = j - i := by
  rw [ByteArray.size_extract]; omega
theorem colons_iff (s : ByteArray) : (s.toList == [58, 58]) = decide (bl s = [58, 58]) := by
  rw [ByteArray.toList_eq, bl, Bool.eq_iff_iff]
  generalize s.data.toList = l
  simp only [beq_iff_eq, decide_eq_true_eq]
  constructor
  · rintro rfl; rfl
  · intro h
    match l, h with
    | [a, b], h =>
      simp only [List.map_cons, List.map_nil, List.cons.injEq, and_true] at h
      obtain ⟨h1, h2⟩ := h
      have e1 : a = 58 := UInt8.toNat_inj.1 (by simpa using Int.ofNat_inj.1 h1)
      have e2 : b = 58 := UInt8.toNat_inj.1 (by simpa using Int.ofNat_inj.1 h2)
      rw [e1, e2]
    | [], h => simp at h
    | [_], h => simp at h
    | _ :: _ :: _ :: _, h => simp at h
set_option maxHeartbeats 1000000 in
theorem hasPrefix0.calls (s : ByteArray) (w : World) (hs : s.size ≤ 9223372036854775807) : Calls Try.prog 80 #[.string s, .string ⟨#[58, 58]⟩] w fun e w' => e = .returned (.bool (decide ((bl s).take 2 = [58, 58]))) ∧ w' = w := by
  go_enter Try.func80, Try.ntmps80
  by_cases h : 2 ≤ s.size
  · have h' : (2 : Int) ≤ (s.size : Int) := by omega
    go_wp2
    go_ret
    refine ⟨congrArg (fun b => Ending.returned (.bool b)) ?_, rfl⟩
    show ((s.extract 0 2).toList == [58, 58]) = _
    rw [colons_iff, bl_extract]
    rfl
  · go_wp2
    go_ret
    refine ⟨congrArg (fun b => Ending.returned (.bool b)) ?_, rfl⟩
    symm
    rw [decide_eq_false_iff_not]
    intro h2
    have := congrArg List.length h2
    rw [List.length_take, bl_length] at this
    simp at this
    omega
set_option maxHeartbeats 1000000 in
theorem hasPrefix.calls (s : ByteArray) (w : World) (hs : s.size ≤ 9223372036854775807) : Calls Try.prog 75 #[.string s, .string ⟨#[58, 58]⟩] w fun e w' => e = .returned (.bool (decide ((bl s).take 2 = [58, 58]))) ∧ w' = w := by
  go_enter Try.func75, Try.ntmps75
  go_wp2_with (fail)
  refine (hasPrefix0.calls s w hs).mono ?_
  rintro e w1 ⟨rfl, rfl⟩
  dsimp only
  go_wp2
  go_ret
  exact ⟨rfl, rfl⟩
theorem ownL_le (l : List Int) : ownL l ≤ l.length := by
  cases l with
  | nil => exact Nat.le_refl _
  | cons c r =>
    rw [ownL]
    split
    · have := run_le ldZ r
      simp only [List.length_cons]
      omega
    · omega
def mid (l : List Int) (n : Nat) : Nat := if (l.drop n).take 2 = [58, 58] ∧ ownL (l.drop (n + 2)) ≠ 0 then n + 2 + ownL (l.drop (n + 2)) else n
def namedL (l : List Int) : Nat := if ownL l = 0 then 0 else mid l (ownL l) + numL (l.drop (mid l (ownL l)))
theorem colons_len {l : List Int} {n : Nat} (h : (l.drop n).take 2 = [58, 58]) : n + 2 ≤ l.length := by
  have := congrArg List.length h
  rw [List.length_take, List.length_drop] at this
  simp at this
  omega
theorem mid_le (l : List Int) {n : Nat} (hn : n ≤ l.length) : mid l n ≤ l.length := by
  unfold mid
  split
  · rename_i h
    have h1 := colons_len h.1
    have := ownL_le (l.drop (n + 2))
    rw [List.length_drop] at this
    omega
  · exact hn
theorem numL_le (l : List Int) : numL l ≤ l.length := by
  cases l with
  | nil => exact Nat.le_refl _
  | cons c r =>
    rw [numL]
    split
    · have := run_le digitZ r
      simp only [List.length_cons]
      omega
    · omega
set_option maxHeartbeats 2000000 in
theorem named.calls (s : ByteArray) (w : World) (hs : s.size ≤ 9223372036854775807) : Calls Try.prog 70 #[.string s, .int .i64 0] w fun e w' => e = .returned (.int .i64 (namedL (bl s))) ∧ w' = w := by
  go_enter Try.func70, Try.ntmps70
  go_wp2_with (fail)
  refine (ownN.calls s 0 w hs (by omega)).mono ?_
  rintro e w1 ⟨rfl, rfl⟩
  dsimp only
  rw [List.drop_zero]
  have hle := ownL_le (bl s)
  rw [bl_length] at hle
  by_cases h0 : ownL (bl s) = 0
  · rw [h0]
    go_wp2
    go_ret
    rw [namedL, if_pos h0]
    exact ⟨rfl, rfl⟩
  have HN : Hid (namedL (bl s) = mid (bl s) (ownL (bl s)) + numL ((bl s).drop (mid (bl s) (ownL (bl s))))) := by
    show _ = _
    rw [namedL, if_neg h0]
  generalize ownL (bl s) = n at *
  have h0' : ((n : Int) == 0) = false := by rw [beq_eq_false_iff_ne]; omega
  have hw : wrap64 (n : Int) = n := IntWalk.wrap64_in _ (by omega)
  have hb : (0 : Int) ≤ (n : Int) ∧ (n : Int) ≤ (s.size : Int) := by omega
  have ht : ((n : Int)).toNat = n := Int.toNat_natCast n
  go_wp2_with (fail)
  refine (hasPrefix.calls _ w1 (by rw [size_extract _ _ _ (Nat.le_refl _)]; omega)).mono ?_
  rintro e w2 ⟨rfl, rfl⟩
  dsimp only
  rw [bl_rest]
  by_cases hc : ((bl s).drop n).take 2 = [58, 58]
  · have hl := colons_len hc
    rw [bl_length] at hl
    have HM : Hid (mid (bl s) n = if ownL ((bl s).drop (n + 2)) = 0 then n else n + 2 + ownL ((bl s).drop (n + 2))) := by
      show _ = _
      rw [mid]
      by_cases hz : ownL ((bl s).drop (n + 2)) = 0
      · rw [if_neg (fun h => h.2 hz), if_pos hz]
      · rw [if_pos ⟨hc, hz⟩, if_neg hz]
    rw [decide_eq_true hc]
    clear hc
    have hw2 : wrap64 ((n : Int) + 2) = ((n + 2 : Nat) : Int) := by rw [IntWalk.wrap64_in _ (by omega)]; rfl
    have hle2 := ownL_le ((bl s).drop (n + 2))
    rw [List.length_drop, bl_length] at hle2
    go_wp2_with (fail)
    refine (ownN.calls s (n + 2) w2 hs (by omega)).mono ?_
    rintro e w3 ⟨rfl, rfl⟩
    dsimp only
    generalize ownL ((bl s).drop (n + 2)) = m at *
    by_cases hm : m = 0
    · subst hm
      have HM2 : Hid (mid (bl s) n = n) := HM.out
      clear HM
      go_wp2_with (fail)
      refine (numbered.calls _ w3 (by rw [size_extract _ _ _ (Nat.le_refl _)]; omega)).mono ?_
      rintro e w4 ⟨rfl, rfl⟩
      dsimp only
      have hnum := numL_le ((bl s).drop n)
      rw [List.length_drop, bl_length] at hnum
      rw [bl_rest]
      have hN := HN.out
      rw [HM2.out] at hN
      have HN2 := Lib.hid hN
      clear hN HN
      generalize numL ((bl s).drop n) = q at *
      have hw3 : wrap64 ((n : Int) + q) = ((n + q : Nat) : Int) := by rw [IntWalk.wrap64_in _ (by omega)]; rfl
      go_wp2
      go_ret
      rw [HN2.out]
      exact ⟨rfl, rfl⟩
    · have hm' : (0 : Int) < (m : Int) := by omega
      have HM2 : Hid (mid (bl s) n = n + 2 + m) := by have := HM.out; rw [if_neg hm] at this; exact this
      clear HM
      have hw4 : wrap64 (2 + (m : Int)) = 2 + (m : Int) := IntWalk.wrap64_in _ (by omega)
      have hw5 : wrap64 ((n : Int) + (2 + (m : Int))) = ((n + 2 + m : Nat) : Int) := by rw [IntWalk.wrap64_in _ (by omega)]; omega
      have hw6 : wrap64 ((n + 2 + m : Nat) : Int) = ((n + 2 + m : Nat) : Int) := IntWalk.wrap64_in _ (by omega)
      have hb2 : (0 : Int) ≤ ((n + 2 + m : Nat) : Int) ∧ ((n + 2 + m : Nat) : Int) ≤ (s.size : Int) := by omega
      have ht2 : (((n + 2 + m : Nat) : Int)).toNat = n + 2 + m := Int.toNat_natCast _
      go_wp2_with (fail)
      refine (numbered.calls _ w3 (by rw [size_extract _ _ _ (Nat.le_refl _)]; omega)).mono ?_
      rintro e w4 ⟨rfl, rfl⟩
      dsimp only
      have hnum := numL_le ((bl s).drop (n + (2 + m)))
      rw [List.length_drop, bl_length] at hnum
      rw [bl_rest]
      have hN := HN.out
      rw [HM2.out, show n + 2 + m = n + (2 + m) by omega] at hN
      have HN2 := Lib.hid hN
      clear hN HN
      generalize numL ((bl s).drop (n + (2 + m))) = q at *
      have hw7 : wrap64 ((n : Int) + (2 + (m : Int)) + (q : Int)) = ((n + (2 + m) + q : Nat) : Int) := by rw [IntWalk.wrap64_in _ (by omega)]; omega
      go_wp2
      go_ret
      rw [HN2.out]
      refine ⟨?_, rfl⟩
      show Ending.returned (.int .i64 (wrap64 ((n : Int) + (2 + (m : Int)) + (q : Int)))) = _
      rw [hw7]
  · rw [decide_eq_false hc]
    have HM2 : Hid (mid (bl s) n = n) := by show _ = _; rw [mid, if_neg (fun h => hc h.1)]
    clear hc
    go_wp2_with (fail)
    refine (numbered.calls _ w2 (by rw [size_extract _ _ _ (Nat.le_refl _)]; omega)).mono ?_
    rintro e w4 ⟨rfl, rfl⟩
    dsimp only
    have hnum := numL_le ((bl s).drop n)
    rw [List.length_drop, bl_length] at hnum
    rw [bl_rest]
    have hN := HN.out
    rw [HM2.out] at hN
    have HN2 := Lib.hid hN
    clear hN HN
    generalize numL ((bl s).drop n) = q at *
    have hw3 : wrap64 ((n : Int) + q) = ((n + q : Nat) : Int) := by rw [IntWalk.wrap64_in _ (by omega)]; rfl
    go_wp2
    go_ret
    rw [HN2.out]
    exact ⟨rfl, rfl⟩
def nameOK (s : ByteArray) : Bool := decide (s.size ≠ 0 ∧ s.size ≤ 64 ∧ namedL (bl s) = s.size)
def ownOK (s : ByteArray) : Bool := decide (s.size ≠ 0 ∧ s.size ≤ 64 ∧ ownL (bl s) = s.size)
theorem empty_iff (s : ByteArray) : (s.toList == []) = decide (s.size = 0) := by
  rw [ByteArray.toList_eq, Bool.eq_iff_iff]
  cases s with | mk d => cases d with | mk l => cases l <;> simp [ByteArray.size]
set_option maxHeartbeats 2000000 in
theorem name.calls (s : ByteArray) (w : World) : Calls Try.prog 62 #[.string s] w fun e w' => e = .returned (.bool (nameOK s)) ∧ w' = w := by
  go_enter Try.func62, Try.ntmps62
  have he := empty_iff s
  by_cases h0 : s.size = 0
  · have h0' : decide (s.size = 0) = true := by simp [h0]
    rw [h0'] at he
    have HV : Hid (nameOK s = false) := by show _ = _; simp [nameOK, h0]
    clear h0 h0'
    go_wp2
    go_ret
    rw [HV.out]
    exact ⟨rfl, rfl⟩
  · have h0' : decide (s.size = 0) = false := by simp [h0]
    rw [h0'] at he
    by_cases h1 : s.size ≤ 64
    · have h1' : (s.size : Int) ≤ 64 := by omega
      go_wp2_with (fail)
      refine (named.calls s w (by omega)).mono ?_
      rintro e w1 ⟨rfl, rfl⟩
      dsimp only
      go_wp2
      go_ret
      refine ⟨congrArg (fun b => Ending.returned (.bool b)) (?_ : _ = nameOK s), rfl⟩
      rw [Bool.eq_iff_iff]
      simp [nameOK, h0, h1]
      omega
    · have h1' : ¬ (s.size : Int) ≤ 64 := by omega
      have HV : Hid (nameOK s = false) := by show _ = _; simp [nameOK, h1]
      go_wp2
      go_ret
      rw [HV.out]
      exact ⟨rfl, rfl⟩

theorem take2 {s : ByteArray} {n : Nat} (h : n + 1 < s.size) : ((bl s).drop n).take 2 = [(bl s).getD n 0, (bl s).getD (n + 1) 0] := by
  rw [drop_bl s (show n < s.size by omega), drop_bl s h]; rfl
theorem tf0 {k z : Nat} (hz : k < z) (hs : z ≤ 1048576) : wrap64 ((k : Int) + 1) = ((k + 1 : Nat) : Int) ∧ wrap64 ((k : Int) + 6) = ((k + 6 : Nat) : Int) :=
  ⟨by rw [IntWalk.wrap64_in _ (by omega)]; rfl, by rw [IntWalk.wrap64_in _ (by omega)]; rfl⟩
theorem tf {k d z e1 : Nat} (he : e1 = k + 1 + d) (hz : k < z) (hd : d ≤ z - (k + 1)) : ((k + 1 : Nat) : Int) + (d : Int) = (e1 : Int) ∧ (d = 0 → 1 + d = 1 ∧ ¬ ((k + 1 : Nat) : Int) < (e1 : Int)) ∧
    (¬ d = 0 → ((k + 1 : Nat) : Int) < (e1 : Int) ∧ k + 1 < z ∧ ((k + 1 : Nat) : Int) < (z : Int) ∧ 1 + d ≠ 1) ∧ (5 < d → 6 < 1 + d ∧ ¬ (e1 : Int) ≤ ((k + 6 : Nat) : Int)) ∧ (¬ 5 < d → 1 + d ≤ 6 ∧ (e1 : Int) ≤ ((k + 6 : Nat) : Int)) := by
  refine ⟨by omega, fun h => ⟨by omega, by omega⟩, fun h => ⟨by omega, by omega, by omega, by omega⟩, fun h => ⟨by omega, by omega⟩, fun h => ⟨by omega, by omega⟩⟩
set_option maxHeartbeats 4000000 in
theorem namedR.calls (s : ByteArray) (w : World) (hs : s.size ≤ 1048576) : Calls Try.prog 73 #[.string s, .int .i64 0] w fun e w' => e = .returned (.int .i64 (namedL (bl s))) ∧ w' = w := by
  have hs0 := hs
  replace hs : s.size ≤ 9223372036854775807 := by omega
  go_enter Try.func73, Try.ntmps73
  go_wp2_with (fail)
  refine (ownR.calls s 0 w hs (by omega)).mono ?_
  rintro e w1 ⟨rfl, rfl⟩
  dsimp only
  rw [List.drop_zero, show ((0 : Nat) : Int) + (ownL (bl s) : Nat) = (ownL (bl s) : Nat) by omega]
  have hle := ownL_le (bl s)
  rw [bl_length] at hle
  by_cases h0 : ownL (bl s) = 0
  · rw [h0]
    go_wp2
    go_ret
    rw [namedL, if_pos h0]
    exact ⟨rfl, rfl⟩
  have HN0 : Hid (namedL (bl s) = mid (bl s) (ownL (bl s)) + numL ((bl s).drop (mid (bl s) (ownL (bl s))))) := by
    show _ = _
    rw [namedL, if_neg h0]
  generalize ownL (bl s) = n at *
  have h0' : ((n : Int) == 0) = false := by rw [beq_eq_false_iff_ne]; omega
  have f1 : wrap64 ((n : Int) + 1) = ((n + 1 : Nat) : Int) := by rw [IntWalk.wrap64_in _ (by omega)]; rfl
  have f2 : wrap64 ((n : Int) + 2) = ((n + 2 : Nat) : Int) := by rw [IntWalk.wrap64_in _ (by omega)]; rfl
  by_cases h1 : n + 1 < s.size
  · have h1' : ((n + 1 : Nat) : Int) < (s.size : Int) := by omega
    have ht := take2 h1
    have hn : n < s.size := by omega
    have c0 := bl_get s hn
    have c1 := bl_get s h1
    obtain ⟨a, HA⟩ : ∃ a, Hid ((bl s).getD n 0 = a) := ⟨_, rfl⟩
    obtain ⟨b, HB⟩ : ∃ b, Hid ((bl s).getD (n + 1) 0 = b) := ⟨_, rfl⟩
    rw [HA.out] at c0 ht
    rw [HB.out] at c1 ht
    have HT := Lib.hid ht; clear ht
    by_cases ha58 : a = 58
    · subst ha58
      by_cases hb58 : b = 58
      · subst hb58
        have HM : Hid (mid (bl s) n = if ownL ((bl s).drop (n + 2)) = 0 then n else n + 2 + ownL ((bl s).drop (n + 2))) := by
          show _ = _
          rw [mid]
          by_cases hz : ownL ((bl s).drop (n + 2)) = 0
          · rw [if_neg (fun h => h.2 hz), if_pos hz]
          · rw [if_pos ⟨HT.out, hz⟩, if_neg hz]
        go_wp2_with (fail)
        refine (ownR.calls s (n + 2) w1 hs (by omega)).mono ?_
        rintro e w2 ⟨rfl, rfl⟩
        dsimp only
        have hle2 := ownL_le ((bl s).drop (n + 2))
        rw [List.length_drop, bl_length] at hle2
        generalize ownL ((bl s).drop (n + 2)) = m at *
        clear c0 c1 HT HA HB
        rw [show ((n + 2 : Nat) : Int) + (m : Int) = ((n + 2 + m : Nat) : Int) by omega]
        by_cases hm : m = 0
        · subst hm
          have HN : Hid (namedL (bl s) = n + numL ((bl s).drop n)) := by have := HN0.out; rw [show mid (bl s) n = n from HM.out] at this; exact this
          clear HM HN0
          have hle3 : Hid (n ≤ s.size) := by show _ ≤ _; omega
          by_cases ha : n < s.size
          · have hd := drop_bl s ha
            have hc := bl_get s ha
            generalize (bl s).getD n 0 = c at *
            have HD := Lib.hid hd; clear hd
            have ha' : (n : Int) < (s.size : Int) := by omega
            by_cases h126 : c = 126
            · subst h126
              have g1 : wrap64 ((n : Int) + 1) = ((n + 1 : Nat) : Int) := (tf0 ha hs0).1
              have g3 : wrap64 ((n : Int) + 6) = ((n + 6 : Nat) : Int) := (tf0 ha hs0).2
              go_wp2_with (fail)
              refine (digitsR.calls s (n + 1) _ hs ha).mono ?_
              rintro e w5 ⟨rfl, rfl⟩
              dsimp only
              have HF := Lib.hid (numL_of HD.out _ rfl)
              have hdl := run_le digitZ ((bl s).drop (n + 1))
              rw [List.length_drop, bl_length] at hdl
              generalize run digitZ ((bl s).drop (n + 1)) = d at *
              obtain ⟨e1, he1⟩ : ∃ e1, e1 = n + 1 + d := ⟨_, rfl⟩
              have HT3 := Lib.hid (tf he1 ha hdl)
              have HE := Lib.hid he1; clear he1 hdl
              rw [HT3.out.1]
              by_cases hd0 : d = 0
              · have HV := Lib.hid (HF.out.1 (HT3.out.2.1 hd0).1); clear HF
                have q1 := (HT3.out.2.1 hd0).2
                clear hd0
                go_wp2
                all_goals
                  go_ret
                  rw [HN.out, HV.out]
                  exact ⟨rfl, rfl⟩
              · obtain ⟨q1, hb1, hb1', hd1⟩ := HT3.out.2.2.1 hd0
                by_cases hd5 : 5 < d
                · have HV := Lib.hid (HF.out.2.1 (HT3.out.2.2.2.1 hd5).1); clear HF
                  have q2 := (HT3.out.2.2.2.1 hd5).2
                  go_wp2
                  all_goals
                    go_ret
                    rw [HN.out, HV.out]
                    exact ⟨rfl, rfl⟩
                · obtain ⟨hd6, q2⟩ := HT3.out.2.2.2.2 hd5
                  have hc1 := bl_get s hb1
                  have HG := Lib.hid (HF.out.2.2 hd1 hd6); clear HF
                  have hx : ((bl s).drop n).getD 1 0 = (bl s).getD (n + 1) 0 := by simp [List.getD_eq_getElem?_getD]
                  have HG2 : Hid (((bl s).getD (n + 1) 0 = 48 → numL ((bl s).drop n) = 0) ∧ ((bl s).getD (n + 1) 0 ≠ 48 → numL ((bl s).drop n) = 1 + d)) := by rw [← hx]; exact HG.out
                  clear HG hx
                  generalize (bl s).getD (n + 1) 0 = e at *
                  by_cases h48 : e = 48
                  · have HV := Lib.hid (HG2.out.1 h48); clear HG2
                    subst h48
                    go_wp2
                    all_goals
                      go_ret
                      rw [HN.out, HV.out]
                      exact ⟨rfl, rfl⟩
                  · have HV := Lib.hid (HG2.out.2 h48); clear HG2
                    have h48' : (e != 48) = true := by simpa using h48
                    go_wp2
                    all_goals
                      go_ret
                      rw [HN.out, HV.out, ← Nat.add_assoc, ← HE.out]
                      exact ⟨rfl, rfl⟩
            · have HV : Hid (numL ((bl s).drop n) = 0) := by show _ = _; rw [HD.out, numL, if_neg (fun h => h126 h.1)]
              have h126' : (c == 126) = false := by rw [beq_eq_false_iff_ne]; exact h126
              go_wp2
              all_goals
                go_ret
                rw [HN.out, HV.out]
                exact ⟨rfl, rfl⟩
          · have HV : Hid (numL ((bl s).drop n) = 0) := by show _ = _; rw [drop_bl_nil s (Nat.le_of_not_lt ha)]; rfl
            have ha' : ¬ (n : Int) < (s.size : Int) := by omega
            go_wp2
            all_goals
              go_ret
              rw [HN.out, HV.out]
              exact ⟨rfl, rfl⟩
        · have HN1 : Hid (namedL (bl s) = n + 2 + m + numL ((bl s).drop (n + 2 + m))) := by have := HN0.out; rw [show mid (bl s) n = n + 2 + m by have := HM.out; rw [if_neg hm] at this; exact this] at this; exact this
          clear HM HN0
          have hgt : ((n + 2 : Nat) : Int) < ((n + 2 + m : Nat) : Int) := by omega
          have hk : n + 2 + m ≤ s.size := by omega
          generalize n + 2 + m = k2 at *
          have HN : Hid (namedL (bl s) = k2 + numL ((bl s).drop k2)) := HN1.out
          clear HN1
          have hle3 : Hid (k2 ≤ s.size) := by show _ ≤ _; omega
          by_cases ha : k2 < s.size
          · have hd := drop_bl s ha
            have hc := bl_get s ha
            generalize (bl s).getD k2 0 = c at *
            have HD := Lib.hid hd; clear hd
            have ha' : (k2 : Int) < (s.size : Int) := by omega
            by_cases h126 : c = 126
            · subst h126
              have g1 : wrap64 ((k2 : Int) + 1) = ((k2 + 1 : Nat) : Int) := (tf0 ha hs0).1
              have g3 : wrap64 ((k2 : Int) + 6) = ((k2 + 6 : Nat) : Int) := (tf0 ha hs0).2
              go_wp2_with (fail)
              refine (digitsR.calls s (k2 + 1) _ hs ha).mono ?_
              rintro e w5 ⟨rfl, rfl⟩
              dsimp only
              have HF := Lib.hid (numL_of HD.out _ rfl)
              have hdl := run_le digitZ ((bl s).drop (k2 + 1))
              rw [List.length_drop, bl_length] at hdl
              generalize run digitZ ((bl s).drop (k2 + 1)) = d at *
              obtain ⟨e1, he1⟩ : ∃ e1, e1 = k2 + 1 + d := ⟨_, rfl⟩
              have HT3 := Lib.hid (tf he1 ha hdl)
              have HE := Lib.hid he1; clear he1 hdl
              rw [HT3.out.1]
              by_cases hd0 : d = 0
              · have HV := Lib.hid (HF.out.1 (HT3.out.2.1 hd0).1); clear HF
                have q1 := (HT3.out.2.1 hd0).2
                clear hd0
                go_wp2
                all_goals
                  go_ret
                  rw [HN.out, HV.out]
                  exact ⟨rfl, rfl⟩
              · obtain ⟨q1, hb1, hb1', hd1⟩ := HT3.out.2.2.1 hd0
                by_cases hd5 : 5 < d
                · have HV := Lib.hid (HF.out.2.1 (HT3.out.2.2.2.1 hd5).1); clear HF
                  have q2 := (HT3.out.2.2.2.1 hd5).2
                  go_wp2
                  all_goals
                    go_ret
                    rw [HN.out, HV.out]
                    exact ⟨rfl, rfl⟩
                · obtain ⟨hd6, q2⟩ := HT3.out.2.2.2.2 hd5
                  have hc1 := bl_get s hb1
                  have HG := Lib.hid (HF.out.2.2 hd1 hd6); clear HF
                  have hx : ((bl s).drop k2).getD 1 0 = (bl s).getD (k2 + 1) 0 := by simp [List.getD_eq_getElem?_getD]
                  have HG2 : Hid (((bl s).getD (k2 + 1) 0 = 48 → numL ((bl s).drop k2) = 0) ∧ ((bl s).getD (k2 + 1) 0 ≠ 48 → numL ((bl s).drop k2) = 1 + d)) := by rw [← hx]; exact HG.out
                  clear HG hx
                  generalize (bl s).getD (k2 + 1) 0 = e at *
                  by_cases h48 : e = 48
                  · have HV := Lib.hid (HG2.out.1 h48); clear HG2
                    subst h48
                    go_wp2
                    all_goals
                      go_ret
                      rw [HN.out, HV.out]
                      exact ⟨rfl, rfl⟩
                  · have HV := Lib.hid (HG2.out.2 h48); clear HG2
                    have h48' : (e != 48) = true := by simpa using h48
                    go_wp2
                    all_goals
                      go_ret
                      rw [HN.out, HV.out, ← Nat.add_assoc, ← HE.out]
                      exact ⟨rfl, rfl⟩
            · have HV : Hid (numL ((bl s).drop k2) = 0) := by show _ = _; rw [HD.out, numL, if_neg (fun h => h126 h.1)]
              have h126' : (c == 126) = false := by rw [beq_eq_false_iff_ne]; exact h126
              go_wp2
              all_goals
                go_ret
                rw [HN.out, HV.out]
                exact ⟨rfl, rfl⟩
          · have HV : Hid (numL ((bl s).drop k2) = 0) := by show _ = _; rw [drop_bl_nil s (Nat.le_of_not_lt ha)]; rfl
            have ha' : ¬ (k2 : Int) < (s.size : Int) := by omega
            go_wp2
            all_goals
              go_ret
              rw [HN.out, HV.out]
              exact ⟨rfl, rfl⟩
      · have hb58' : (b == 58) = false := by rw [beq_eq_false_iff_ne]; exact hb58
        have HN : Hid (namedL (bl s) = n + numL ((bl s).drop n)) := by have := HN0.out; rw [show mid (bl s) n = n by rw [mid, if_neg (fun h => by have h := h.1; rw [HT.out] at h; exact hb58 (by simpa using h))]] at this; exact this
        clear HN0 HT
        have HV : Hid (numL ((bl s).drop n) = 0) := by show _ = _; rw [drop_bl s hn, HA.out, numL, if_neg (fun h => absurd h.1 (by decide))]
        go_wp2
        go_ret
        rw [HN.out, HV.out]
        exact ⟨rfl, rfl⟩
    · have ha58' : (a == 58) = false := by rw [beq_eq_false_iff_ne]; exact ha58
      have HN : Hid (namedL (bl s) = n + numL ((bl s).drop n)) := by have := HN0.out; rw [show mid (bl s) n = n by rw [mid, if_neg (fun h => by have h := h.1; rw [HT.out] at h; simp only [List.cons.injEq] at h; exact ha58 h.1)]] at this; exact this
      clear HN0 HT
      have hle3 : Hid (n ≤ s.size) := by show _ ≤ _; omega
      by_cases ha : n < s.size
      · have hd := drop_bl s ha
        rw [HA.out] at hd
        have HD := Lib.hid hd; clear hd
        have ha' : (n : Int) < (s.size : Int) := by omega
        by_cases h126 : a = 126
        · subst h126
          have g1 : wrap64 ((n : Int) + 1) = ((n + 1 : Nat) : Int) := (tf0 ha hs0).1
          have g3 : wrap64 ((n : Int) + 6) = ((n + 6 : Nat) : Int) := (tf0 ha hs0).2
          go_wp2_with (fail)
          refine (digitsR.calls s (n + 1) _ hs ha).mono ?_
          rintro e w5 ⟨rfl, rfl⟩
          dsimp only
          have HF := Lib.hid (numL_of HD.out _ rfl)
          have hdl := run_le digitZ ((bl s).drop (n + 1))
          rw [List.length_drop, bl_length] at hdl
          generalize run digitZ ((bl s).drop (n + 1)) = d at *
          obtain ⟨e1, he1⟩ : ∃ e1, e1 = n + 1 + d := ⟨_, rfl⟩
          have HT3 := Lib.hid (tf he1 ha hdl)
          have HE := Lib.hid he1; clear he1 hdl
          rw [HT3.out.1]
          by_cases hd0 : d = 0
          · have HV := Lib.hid (HF.out.1 (HT3.out.2.1 hd0).1); clear HF
            have q1 := (HT3.out.2.1 hd0).2
            clear hd0
            go_wp2
            all_goals
              go_ret
              rw [HN.out, HV.out]
              exact ⟨rfl, rfl⟩
          · obtain ⟨q1, hb1, hb1', hd1⟩ := HT3.out.2.2.1 hd0
            by_cases hd5 : 5 < d
            · have HV := Lib.hid (HF.out.2.1 (HT3.out.2.2.2.1 hd5).1); clear HF
              have q2 := (HT3.out.2.2.2.1 hd5).2
              go_wp2
              all_goals
                go_ret
                rw [HN.out, HV.out]
                exact ⟨rfl, rfl⟩
            · obtain ⟨hd6, q2⟩ := HT3.out.2.2.2.2 hd5
              have HG := Lib.hid (HF.out.2.2 hd1 hd6); clear HF
              have hx : ((bl s).drop n).getD 1 0 = (bl s).getD (n + 1) 0 := by simp [List.getD_eq_getElem?_getD]
              have HG2 : Hid (((bl s).getD (n + 1) 0 = 48 → numL ((bl s).drop n) = 0) ∧ ((bl s).getD (n + 1) 0 ≠ 48 → numL ((bl s).drop n) = 1 + d)) := by rw [← hx]; exact HG.out
              clear HG hx
              rw [HB.out] at HG2
              by_cases h48 : b = 48
              · have HV := Lib.hid (HG2.out.1 h48); clear HG2
                subst h48
                go_wp2
                all_goals
                  go_ret
                  rw [HN.out, HV.out]
                  exact ⟨rfl, rfl⟩
              · have HV := Lib.hid (HG2.out.2 h48); clear HG2
                have h48' : (b != 48) = true := by simpa using h48
                go_wp2
                all_goals
                  go_ret
                  rw [HN.out, HV.out, ← Nat.add_assoc, ← HE.out]
                  exact ⟨rfl, rfl⟩
        · have HV : Hid (numL ((bl s).drop n) = 0) := by show _ = _; rw [HD.out, numL, if_neg (fun h => h126 h.1)]
          have h126' : (a == 126) = false := by rw [beq_eq_false_iff_ne]; exact h126
          go_wp2
          all_goals
            go_ret
            rw [HN.out, HV.out]
            exact ⟨rfl, rfl⟩
      · have HV : Hid (numL ((bl s).drop n) = 0) := by show _ = _; rw [drop_bl_nil s (Nat.le_of_not_lt ha)]; rfl
        have ha' : ¬ (n : Int) < (s.size : Int) := by omega
        go_wp2
        all_goals
          go_ret
          rw [HN.out, HV.out]
          exact ⟨rfl, rfl⟩
  · have h1' : ¬ ((n + 1 : Nat) : Int) < (s.size : Int) := by omega
    have HN : Hid (namedL (bl s) = n + numL ((bl s).drop n)) := by have := HN0.out; rw [show mid (bl s) n = n by rw [mid, if_neg (fun h => by have h := colons_len h.1; rw [bl_length] at h; omega)]] at this; exact this
    clear HN0
    have hle3 : Hid (n ≤ s.size) := by show _ ≤ _; omega
    by_cases ha : n < s.size
    · have hd := drop_bl s ha
      have hc := bl_get s ha
      generalize (bl s).getD n 0 = c at *
      have HD := Lib.hid hd; clear hd
      have ha' : (n : Int) < (s.size : Int) := by omega
      by_cases h126 : c = 126
      · subst h126
        have g1 : wrap64 ((n : Int) + 1) = ((n + 1 : Nat) : Int) := (tf0 ha hs0).1
        have g3 : wrap64 ((n : Int) + 6) = ((n + 6 : Nat) : Int) := (tf0 ha hs0).2
        go_wp2_with (fail)
        refine (digitsR.calls s (n + 1) _ hs ha).mono ?_
        rintro e w5 ⟨rfl, rfl⟩
        dsimp only
        have HF := Lib.hid (numL_of HD.out _ rfl)
        have hdl := run_le digitZ ((bl s).drop (n + 1))
        rw [List.length_drop, bl_length] at hdl
        generalize run digitZ ((bl s).drop (n + 1)) = d at *
        obtain ⟨e1, he1⟩ : ∃ e1, e1 = n + 1 + d := ⟨_, rfl⟩
        have HT3 := Lib.hid (tf he1 ha hdl)
        have HE := Lib.hid he1; clear he1 hdl
        rw [HT3.out.1]
        by_cases hd0 : d = 0
        · have HV := Lib.hid (HF.out.1 (HT3.out.2.1 hd0).1); clear HF
          have q1 := (HT3.out.2.1 hd0).2
          clear hd0
          go_wp2
          all_goals
            go_ret
            rw [HN.out, HV.out]
            exact ⟨rfl, rfl⟩
        · obtain ⟨q1, hb1, hb1', hd1⟩ := HT3.out.2.2.1 hd0
          by_cases hd5 : 5 < d
          · have HV := Lib.hid (HF.out.2.1 (HT3.out.2.2.2.1 hd5).1); clear HF
            have q2 := (HT3.out.2.2.2.1 hd5).2
            go_wp2
            all_goals
              go_ret
              rw [HN.out, HV.out]
              exact ⟨rfl, rfl⟩
          · obtain ⟨hd6, q2⟩ := HT3.out.2.2.2.2 hd5
            have hc1 := bl_get s hb1
            have HG := Lib.hid (HF.out.2.2 hd1 hd6); clear HF
            have hx : ((bl s).drop n).getD 1 0 = (bl s).getD (n + 1) 0 := by simp [List.getD_eq_getElem?_getD]
            have HG2 : Hid (((bl s).getD (n + 1) 0 = 48 → numL ((bl s).drop n) = 0) ∧ ((bl s).getD (n + 1) 0 ≠ 48 → numL ((bl s).drop n) = 1 + d)) := by rw [← hx]; exact HG.out
            clear HG hx
            generalize (bl s).getD (n + 1) 0 = e at *
            by_cases h48 : e = 48
            · have HV := Lib.hid (HG2.out.1 h48); clear HG2
              subst h48
              go_wp2
              all_goals
                go_ret
                rw [HN.out, HV.out]
                exact ⟨rfl, rfl⟩
            · have HV := Lib.hid (HG2.out.2 h48); clear HG2
              have h48' : (e != 48) = true := by simpa using h48
              go_wp2
              all_goals
                go_ret
                rw [HN.out, HV.out, ← Nat.add_assoc, ← HE.out]
                exact ⟨rfl, rfl⟩
      · have HV : Hid (numL ((bl s).drop n) = 0) := by show _ = _; rw [HD.out, numL, if_neg (fun h => h126 h.1)]
        have h126' : (c == 126) = false := by rw [beq_eq_false_iff_ne]; exact h126
        go_wp2
        all_goals
          go_ret
          rw [HN.out, HV.out]
          exact ⟨rfl, rfl⟩
    · have HV : Hid (numL ((bl s).drop n) = 0) := by show _ = _; rw [drop_bl_nil s (Nat.le_of_not_lt ha)]; rfl
      have ha' : ¬ (n : Int) < (s.size : Int) := by omega
      go_wp2
      all_goals
        go_ret
        rw [HN.out, HV.out]
        exact ⟨rfl, rfl⟩

set_option maxHeartbeats 2000000 in
theorem nameR.calls (s : ByteArray) (w : World) : Calls Try.prog 65 #[.string s] w fun e w' => e = .returned (.bool (nameOK s)) ∧ w' = w := by
  go_enter Try.func65, Try.ntmps65
  have he := empty_iff s
  by_cases h0 : s.size = 0
  · have h0' : decide (s.size = 0) = true := by simp [h0]
    rw [h0'] at he
    have HV : Hid (nameOK s = false) := by show _ = _; simp [nameOK, h0]
    clear h0 h0'
    go_wp2
    go_ret
    rw [HV.out]
    exact ⟨rfl, rfl⟩
  · have h0' : decide (s.size = 0) = false := by simp [h0]
    rw [h0'] at he
    by_cases h1 : s.size ≤ 64
    · have h1' : (s.size : Int) ≤ 64 := by omega
      go_wp2_with (fail)
      refine (namedR.calls s w (by omega)).mono ?_
      rintro e w1 ⟨rfl, rfl⟩
      dsimp only
      go_wp2
      go_ret
      refine ⟨congrArg (fun b => Ending.returned (.bool b)) (?_ : _ = nameOK s), rfl⟩
      rw [Bool.eq_iff_iff]
      simp [nameOK, h0, h1]
      omega
    · have h1' : ¬ (s.size : Int) ≤ 64 := by omega
      have HV : Hid (nameOK s = false) := by show _ = _; simp [nameOK, h1]
      go_wp2
      go_ret
      rw [HV.out]
      exact ⟨rfl, rfl⟩
set_option maxHeartbeats 2000000 in
theorem ownTextR.calls (s : ByteArray) (w : World) : Calls Try.prog 52 #[.string s] w fun e w' => e = .returned (.bool (ownOK s)) ∧ w' = w := by
  go_enter Try.func52, Try.ntmps52
  have he := empty_iff s
  by_cases h0 : s.size = 0
  · have h0' : decide (s.size = 0) = true := by simp [h0]
    rw [h0'] at he
    have HV : Hid (ownOK s = false) := by show _ = _; simp [ownOK, h0]
    clear h0 h0'
    go_wp2
    go_ret
    rw [HV.out]
    exact ⟨rfl, rfl⟩
  · have h0' : decide (s.size = 0) = false := by simp [h0]
    rw [h0'] at he
    by_cases h1 : s.size ≤ 64
    · have h1' : (s.size : Int) ≤ 64 := by omega
      go_wp2_with (fail)
      refine (ownR.calls s 0 w (by omega) (by omega)).mono ?_
      rintro e w1 ⟨rfl, rfl⟩
      dsimp only
      rw [List.drop_zero, show ((0 : Nat) : Int) + (ownL (bl s) : Nat) = (ownL (bl s) : Nat) by omega]
      go_wp2
      go_ret
      refine ⟨congrArg (fun b => Ending.returned (.bool b)) (?_ : _ = ownOK s), rfl⟩
      rw [Bool.eq_iff_iff]
      simp [ownOK, h0, h1]
      omega
    · have h1' : ¬ (s.size : Int) ≤ 64 := by omega
      have HV : Hid (ownOK s = false) := by show _ = _; simp [ownOK, h1]
      go_wp2
      go_ret
      rw [HV.out]
      exact ⟨rfl, rfl⟩
theorem ld_plain {c : Int} (h : ldZ c = true) : c ≠ 58 ∧ c ≠ 126 := by
  constructor <;> (rintro rfl; revert h; decide)
theorem run_all {p : Int → Bool} : ∀ {l : List Int}, run p l = l.length → ∀ c ∈ l, p c = true
  | [], _, _, h => absurd h (by simp)
  | c :: r, hl, x, hx => by
    rw [run_cons] at hl
    by_cases hc : p c = true
    · rw [if_pos hc] at hl
      rcases List.mem_cons.1 hx with rfl | hx
      · exact hc
      · exact run_all (by simp only [List.length_cons] at hl; omega) x hx
    · rw [if_neg hc] at hl
      simp at hl
theorem own_plain {l : List Int} (h : ownL l = l.length) : ∀ c ∈ l, c ≠ 58 ∧ c ≠ 126 := by
  cases l with
  | nil => intro c hc; simp at hc
  | cons a r =>
    intro c hc
    rw [ownL] at h
    by_cases ha : letterZ a = true
    · rw [if_pos ha] at h
      rcases List.mem_cons.1 hc with rfl | hc
      · exact ld_plain (by simp [ldZ, ha])
      · exact ld_plain (run_all (by simp only [List.length_cons] at h; omega) c hc)
    · rw [if_neg ha] at h
      simp at h
theorem named_plain {l : List Int} (h : ∀ c ∈ l, c ≠ 58 ∧ c ≠ 126) : namedL l = ownL l := by
  have hm : ∀ n, mid l n = n := by
    intro n
    rw [mid, if_neg]
    rintro ⟨h1, _⟩
    have : (58 : Int) ∈ (l.drop n).take 2 := by rw [h1]; simp
    exact (h 58 (List.mem_of_mem_drop (List.mem_of_mem_take this))).1 rfl
  have hz : ∀ n, numL (l.drop n) = 0 := by
    intro n
    cases hd : l.drop n with
    | nil => rfl
    | cons c r =>
      rw [numL, if_neg]
      rintro ⟨h1, _⟩
      exact (h c (List.mem_of_mem_drop (i := n) (by rw [hd]; simp))).2 h1
  rw [namedL, hm, hz]
  split
  · rename_i h0; exact h0.symm
  · rfl
set_option maxHeartbeats 2000000 in
theorem ownText.calls (s : ByteArray) (w : World) (hs : s.size ≤ 9223372036854775807) : Calls Try.prog 49 #[.string s] w fun e w' => e = .returned (.bool (ownOK s)) ∧ w' = w := by
  go_enter Try.func49, Try.ntmps49
  go_wp2
  go_loopg [3] s.size (fun q v wr => ∃ n : Nat, q + n = s.size ∧ v = .int .i64 n ∧ Hid (∀ c ∈ (bl s).take n, c ≠ 58 ∧ c ≠ 126) ∧ wr = w)
  case atStart => exact ⟨0, by omega, rfl, by show ∀ c ∈ (bl s).take 0, _; simp, rfl⟩
  case round =>
    obtain ⟨n, hn, rfl, HP, rfl⟩ := hrel
    by_cases hlt : n < s.size
    · have hc := bl_get s hlt
      have hmem : (bl s).getD n 0 ∈ bl s := by
        have h' : n < (bl s).length := by rw [bl_length]; exact hlt
        rw [List.getD_eq_getElem?_getD, List.getElem?_eq_getElem h']
        exact List.getElem_mem h'
      have ht : (bl s).take (n + 1) = (bl s).take n ++ [(bl s).getD n 0] := by
        have h' : n < (bl s).length := by rw [bl_length]; exact hlt
        rw [List.take_succ_eq_append_getElem h', List.getD_eq_getElem?_getD, List.getElem?_eq_getElem h']
        rfl
      generalize (bl s).getD n 0 = c at *
      have HM := Lib.hid hmem; clear hmem
      have HT := Lib.hid ht; clear ht
      have HF : Hid (c = 58 ∨ c = 126 → ownOK s = false) := by
        intro h
        rw [ownOK, decide_eq_false_iff_not]
        rintro ⟨_, _, h3⟩
        have := own_plain (h3.trans (bl_length s).symm) c HM.out
        rcases h with rfl | rfl
        · exact this.1 rfl
        · exact this.2 rfl
      by_cases h1 : c = 58
      · have HV := Lib.hid (HF.out (.inl h1)); clear HF
        subst h1
        go_wp2
        go_ret
        rw [HV.out]
        exact ⟨rfl, rfl⟩
      · have h1' : (c == 58) = false := by rw [beq_eq_false_iff_ne]; exact h1
        by_cases h2 : c = 126
        · have HV := Lib.hid (HF.out (.inr h2)); clear HF
          subst h2
          go_wp2
          go_ret
          rw [HV.out]
          exact ⟨rfl, rfl⟩
        · have h2' : (c == 126) = false := by rw [beq_eq_false_iff_ne]; exact h2
          go_wp2
          go_roundg (s.size - (n + 1))
          case measure => omega
          case rel =>
            refine ⟨n + 1, by omega, by go_num, ?_, rfl⟩
            show ∀ x ∈ (bl s).take (n + 1), _
            intro x hx
            rw [HT.out] at hx
            rcases List.mem_append.1 hx with hx | hx
            · exact HP.out x hx
            · obtain rfl : x = c := by simpa using hx
              exact ⟨h1, h2⟩
    · have hp : Hid (∀ c ∈ bl s, c ≠ 58 ∧ c ≠ 126) := by
        have := HP.out
        rw [List.take_of_length_le (by rw [bl_length]; omega)] at this
        exact this
      clear HP
      go_wp2_with (fail)
      refine (name.calls s _).mono ?_
      rintro e w1 ⟨rfl, rfl⟩
      dsimp only
      have HV : Hid (nameOK s = ownOK s) := by
        show _ = _
        rw [nameOK, ownOK, named_plain hp.out]
      go_wp2
      go_ret
      rw [← HV.out]
      exact ⟨rfl, rfl⟩
end Go.Proofs.Ytmikgaphknbcaaa.B
