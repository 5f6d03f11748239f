/- script.headed and dowelref06's headed: a rule's name and params. -/
import Derived.Test.YtmikgaphknbcaaaCNamem
import Derived.Test.YtmikgaphknbcaaaBEqm
namespace Go.Proofs.Ytmikgaphknbcaaa.B
open Go Go.RowKit Go.X Go.Proofs.YtmikgaphknbcaaaW.PrintWords Go.Proofs.Ytmikgaphknbcaaa.F

def pl (ps : List ByteArray) (i : Nat) : ByteArray := ps.getD i ⟨#[]⟩
/-- The params up to the i-th are own names, no two alike. -/
def ParOK (ps : List ByteArray) (i : Nat) : Prop := ownOK (pl ps i) = true ∧ ∀ j, j < i → ((pl ps j).toList == (pl ps i).toList) = false
def ParsTo (ps : List ByteArray) (n : Nat) : Prop := ∀ i, i < n → ParOK ps i
instance (ps : List ByteArray) (i : Nat) : Decidable (ParOK ps i) := inferInstanceAs (Decidable (_ ∧ _))
instance (ps : List ByteArray) (n : Nat) : Decidable (ParsTo ps n) := inferInstanceAs (Decidable (∀ i, i < n → ParOK ps i))
def headOK (x : S34) : Bool := decide (nameOK x.f0 = true ∧ x.f1.length ≤ 8 ∧ ParsTo x.f1 x.f1.length)
theorem ParsTo.step {ps : List ByteArray} {n : Nat} (h : ParsTo ps n) (hn : ParOK ps n) : ParsTo ps (n + 1) := fun i hi => by
  rcases Nat.lt_or_ge i n with h1 | h1
  · exact h i h1
  · obtain rfl : i = n := by omega
    exact hn
theorem head_no {x : S34} {i : Nat} (hi : i < x.f1.length) (h : ¬ ParOK x.f1 i) : headOK x = false := by
  rw [headOK, decide_eq_false_iff_not]
  exact fun hx => h (hx.2.2 i hi)
theorem pl_mem {ps : List ByteArray} {i : Nat} (h : i < ps.length) : pl ps i ∈ ps := by rw [pl, List.getD_eq_getElem?_getD, List.getElem?_eq_getElem h]; exact List.getElem_mem h
def ParFit (ps : List ByteArray) : Prop := ∀ s ∈ ps, s.size ≤ 9223372036854775807
set_option maxRecDepth 100000 in
set_option maxHeartbeats 4000000 in
theorem headed.calls (x : S34) (A1 A2 : Option Addr) (c1 n2 c2 : Nat) (w : World) (h1 : Kd.C Kd.string w A1 x.f1.length x.f1) (l1 : x.f1.length ≤ c1) (hf : ParFit x.f1) :
    Calls Try.prog 50 #[.agg #[.string x.f0, .slice A1 x.f1.length c1, .slice A2 n2 c2]] w fun e w' => e = .returned (.bool (headOK x)) ∧ Below w.heap.size w w' := by
  have H1 := Lib.hid h1; clear h1
  have HF := Lib.hid hf; clear hf
  have L1 := Lib.hid l1; clear l1
  go_enter Try.func50, Try.ntmps50
  go_wp2_with (fail)
  refine (name.calls x.f0 _).mono ?_
  rintro e w1 ⟨rfl, rfl⟩
  have HB : Hid (Below w.heap.size w (w.alloc (.cells #[.string x.f0, .slice A1 x.f1.length c1, .slice A2 n2 c2] 34))) := (Below.refl _ w).alloc (Nat.le_refl _) _
  dsimp only
  cases hnm : nameOK x.f0
  · have HV : Hid (headOK x = false) := by show _ = _; rw [headOK, decide_eq_false_iff_not]; simp [hnm]
    clear hnm
    go_wp2
    go_ret
    exact ⟨by rw [HV.out]; rfl, HB.out⟩
  have HNM := Lib.hid hnm; clear hnm
  by_cases h8 : 8 < x.f1.length
  · have HV : Hid (headOK x = false) := by show _ = _; rw [headOK, decide_eq_false_iff_not]; exact fun h => by omega
    go_wp2
    go_ret
    exact ⟨by rw [HV.out]; rfl, HB.out⟩
  have hm8 : x.f1.length ≤ 8 := by omega
  clear h8
  go_wp2
  have ha1 : (w.alloc (.cells #[.string x.f0, .slice A1 x.f1.length c1, .slice A2 n2 c2] 34)).cell? ⟨w.heap.size, 1, none⟩ = some (.slice A1 x.f1.length c1) := (Blk.alloc w #[.string x.f0, .slice A1 x.f1.length c1, .slice A2 n2 c2] 34).cell 1
  generalize w.alloc (.cells #[.string x.f0, .slice A1 x.f1.length c1, .slice A2 n2 c2] 34) = wa at *
  have a1 := ha1
  clear ha1
  go_loopg [3, 4, 20] x.f1.length (fun q _ _ v wr => ∃ k : Nat, q + k = x.f1.length ∧ v = .int .i64 k ∧ Hid (ParsTo x.f1 k) ∧ wr = wa)
  case atStart => exact ⟨0, by simp, rfl, fun i hi => absurd hi (Nat.not_lt_zero _), rfl⟩
  case round =>
    obtain ⟨k, hk, rfl, HP, rfl⟩ := hrel
    by_cases hlt : k < x.f1.length
    · obtain ⟨ad, eA, c0⟩ := text_at (Kd.C_below H1.out HB.out) k hlt
      subst eA
      change wr.cell? (ad.add k) = some (.string (pl x.f1 k)) at c0
      have HX := Lib.hid (HF.out _ (pl_mem hlt))
      have HY : Hid (∀ j, j < k → wr.cell? (ad.add j) = some (.string (pl x.f1 j))) := fun j hj => by
        obtain ⟨ad', e', c'⟩ := text_at (Kd.C_below H1.out HB.out) j (by omega)
        obtain rfl : ad = ad' := by injection e'
        exact c'
      obtain ⟨p, hp⟩ : ∃ p, pl x.f1 k = p := ⟨_, rfl⟩
      rw [hp] at c0
      have HPK := Lib.hid hp; clear hp
      have hkc : (k : Int) ≤ (c1 : Int) := by have := L1.out; omega
      have hk0 : (0 : Int) ≤ (k : Int) := by omega
      go_wp2_with (fail)
      refine (ownText.calls p _ (by have := HX.out; rw [HPK.out] at this; exact this)).mono ?_
      rintro e w1 ⟨rfl, rfl⟩
      dsimp only
      cases ho : ownOK p
      · have HV : Hid (headOK x = false) := head_no hlt (fun h => by have := h.1; rw [HPK.out, ho] at this; cases this)
        clear ho
        go_wp2
        go_ret
        exact ⟨by rw [HV.out]; rfl, HB.out⟩
      have HO := Lib.hid ho; clear ho
      go_wp2
      go_loopg [6, 33] k (fun q _ v wr' => ∃ i : Nat, q + i = k ∧ v = .int .i64 i ∧ Hid (∀ j, j < i → ((pl x.f1 j).toList == p.toList) = false) ∧ wr' = w1)
      case atStart => exact ⟨0, by simp, rfl, fun i hi => absurd hi (Nat.not_lt_zero _), rfl⟩
      case round =>
        obtain ⟨i, hi, rfl, HQ, rfl⟩ := hrel
        by_cases hil : i < k
        · have d0 := HY.out i hil
          obtain ⟨y, hy⟩ : ∃ y, pl x.f1 i = y := ⟨_, rfl⟩
          rw [hy] at d0
          have HYK := Lib.hid hy; clear hy
          cases hb : (p.toList == y.toList)
          · have HBQ := Lib.hid hb
            go_wp2
            go_roundg (k - (i + 1))
            case measure => omega
            case rel =>
              refine ⟨i + 1, by omega, by go_num, ?_, rfl⟩
              show ∀ j, j < i + 1 → _
              intro j hj
              rcases Nat.lt_or_ge j i with h1 | h1
              · exact HQ.out j h1
              · obtain rfl : j = i := by omega
                rw [HYK.out, Bool.beq_comm]
                exact HBQ.out
          · have HV : Hid (headOK x = false) := head_no hlt (fun h => by
              have := h.2 i hil
              rw [HYK.out, HPK.out, Bool.beq_comm, hb] at this
              cases this)
            go_wp2
            go_ret
            exact ⟨by rw [HV.out]; rfl, HB.out⟩
        · have HV : Hid (ParsTo x.f1 (k + 1)) := HP.out.step ⟨by rw [HPK.out]; exact HO.out, fun j hj => by rw [HPK.out]; exact HQ.out j (by omega)⟩
          go_wp2
          go_roundg (x.f1.length - (k + 1))
          case measure => omega
          case rel => exact ⟨k + 1, by omega, by go_num, HV, rfl⟩
    · have HV : Hid (headOK x = true) := by
        show _ = _
        rw [headOK, decide_eq_true_iff]
        obtain rfl : k = x.f1.length := by omega
        exact ⟨HNM.out, hm8, HP.out⟩
      go_wp2
      go_ret
      exact ⟨by rw [HV.out]; rfl, HB.out⟩

set_option maxRecDepth 100000 in
set_option maxHeartbeats 4000000 in
theorem headedR.calls (x : S34) (A1 A2 : Option Addr) (c1 n2 c2 : Nat) (w : World) (h1 : Kd.C Kd.string w A1 x.f1.length x.f1) :
    Calls Try.prog 53 #[.agg #[.string x.f0, .slice A1 x.f1.length c1, .slice A2 n2 c2]] w fun e w' => e = .returned (.bool (headOK x)) ∧ Below w.heap.size w w' := by
  have H1 := Lib.hid h1; clear h1
  go_enter Try.func53, Try.ntmps53
  go_wp2_with (fail)
  refine (nameR.calls x.f0 _).mono ?_
  rintro e w1 ⟨rfl, rfl⟩
  have HB : Hid (Below w.heap.size w (w.alloc (.cells #[.string x.f0, .slice A1 x.f1.length c1, .slice A2 n2 c2] 34))) := (Below.refl _ w).alloc (Nat.le_refl _) _
  dsimp only
  cases hnm : nameOK x.f0
  · have HV : Hid (headOK x = false) := by show _ = _; rw [headOK, decide_eq_false_iff_not]; simp [hnm]
    clear hnm
    go_wp2
    go_ret
    exact ⟨by rw [HV.out]; rfl, HB.out⟩
  have HNM := Lib.hid hnm; clear hnm
  by_cases h8 : 8 < x.f1.length
  · have HV : Hid (headOK x = false) := by show _ = _; rw [headOK, decide_eq_false_iff_not]; exact fun h => by omega
    go_wp2
    go_ret
    exact ⟨by rw [HV.out]; rfl, HB.out⟩
  have hm8 : x.f1.length ≤ 8 := by omega
  clear h8
  go_wp2
  have HK : Hid (Blk (w.alloc (.cells #[.string x.f0, .slice A1 x.f1.length c1, .slice A2 n2 c2] 34)) w.heap.size 34 [.string x.f0, .slice A1 x.f1.length c1, .slice A2 n2 c2]) := Blk.alloc w _ _
  generalize w.alloc (.cells #[.string x.f0, .slice A1 x.f1.length c1, .slice A2 n2 c2] 34) = wa at *
  go_loopg [3, 4] x.f1.length (fun q v _ wr => ∃ k : Nat, q + k = x.f1.length ∧ v = .int .i64 k ∧ Hid (ParsTo x.f1 k) ∧ Hid (Below wa.heap.size wa wr))
  case atStart => exact ⟨0, by simp, rfl, fun i hi => absurd hi (Nat.not_lt_zero _), Below.refl _ _⟩
  case round =>
    obtain ⟨k, hk, rfl, HP, HW⟩ := hrel
    have a1 : wr.cell? ⟨w.heap.size, 1, none⟩ = some (.slice A1 x.f1.length c1) := Below.cell_some HW.out (HK.out.cell 1)
    have HBW : Hid (Below w.heap.size w wr) := HB.out.trans (HW.out.mono HB.out.size)
    by_cases hlt : k < x.f1.length
    · obtain ⟨ad, eA, c0⟩ := text_at (Kd.C_below H1.out HBW.out) k hlt
      subst eA
      change wr.cell? (ad.add k) = some (.string (pl x.f1 k)) at c0
      have HY : Hid (∀ j, j < k → wr.cell? (ad.add j) = some (.string (pl x.f1 j))) := fun j hj => by
        obtain ⟨ad', e', c'⟩ := text_at (Kd.C_below H1.out HBW.out) j (by omega)
        obtain rfl : ad = ad' := by injection e'
        exact c'
      obtain ⟨p, hp⟩ : ∃ p, pl x.f1 k = p := ⟨_, rfl⟩
      rw [hp] at c0
      have HPK := Lib.hid hp; clear hp
      go_wp2_with (fail)
      refine (ownTextR.calls p _).mono ?_
      rintro e w1 ⟨rfl, rfl⟩
      dsimp only
      cases ho : ownOK p
      · have HV : Hid (headOK x = false) := head_no hlt (fun h => by have := h.1; rw [HPK.out, ho] at this; cases this)
        clear ho
        go_wp2
        go_ret
        exact ⟨by rw [HV.out]; rfl, HBW.out⟩
      have HO := Lib.hid ho; clear ho
      go_wp2
      go_loopg [4] k (fun q v wr' => ∃ i : Nat, q + i = k ∧ v = .int .i64 i ∧ Hid (∀ j, j < i → ((pl x.f1 j).toList == p.toList) = false) ∧ Hid (∃ q, wr' = w1.drewN q))
      case atStart => exact ⟨0, by simp, rfl, fun i hi => absurd hi (Nat.not_lt_zero _), 0, rfl⟩
      case round =>
        rename World => wo
        obtain ⟨i, hi, rfl, HQ, HD⟩ := hrel
        obtain ⟨qw, hw⟩ := HD.out
        subst hw
        clear HD
        by_cases hil : i < k
        · have d0 := HY.out i hil
          obtain ⟨y, hy⟩ : ∃ y, pl x.f1 i = y := ⟨_, rfl⟩
          rw [hy] at d0
          have HYK := Lib.hid hy; clear hy
          have i0 : (0 : Int) ≤ (i : Int) := by omega
          have k0 : (0 : Int) ≤ (k : Int) := by omega
          have i1 : (i : Int) < (x.f1.length : Int) := by omega
          have k1 : (k : Int) < (x.f1.length : Int) := by omega
          cases hb : (y.toList == p.toList)
          · have HBQ := Lib.hid hb
            go_wp2
            go_quiet (fail)
            go_wp2
            go_roundg (k - (i + 1))
            case measure => omega
            case rel =>
              refine ⟨i + 1, by omega, by go_num, ?_, _, rfl⟩
              show ∀ j, j < i + 1 → _
              intro j hj
              rcases Nat.lt_or_ge j i with h1 | h1
              · exact HQ.out j h1
              · obtain rfl : j = i := by omega
                rw [HYK.out]
                exact HBQ.out
          · have HV : Hid (headOK x = false) := head_no hlt (fun h => by
              have := h.2 i hil
              rw [HYK.out, HPK.out, hb] at this
              cases this)
            go_wp2
            go_quiet (fail)
            go_wp2
            go_ret
            exact ⟨by rw [HV.out]; rfl, HBW.out.trans ((Below.drewQ ⟨qw, rfl⟩).mono HBW.out.size |>.trans ((Below.drewQ ⟨_, rfl⟩).mono (by exact HBW.out.size)))⟩
        · have HV : Hid (ParsTo x.f1 (k + 1)) := HP.out.step ⟨by rw [HPK.out]; exact HO.out, fun j hj => by rw [HPK.out]; exact HQ.out j (by omega)⟩
          go_wp2
          go_roundg (x.f1.length - (k + 1))
          case measure => omega
          case rel => exact ⟨k + 1, by omega, by go_num, HV, HW.out.trans ((Below.drewQ ⟨qw, rfl⟩).mono HW.out.size)⟩
    · have HV : Hid (headOK x = true) := by
        show _ = _
        rw [headOK, decide_eq_true_iff]
        obtain rfl : k = x.f1.length := by omega
        exact ⟨HNM.out, hm8, HP.out⟩
      go_wp2
      go_ret
      exact ⟨by rw [HV.out]; rfl, HBW.out⟩
end Go.Proofs.Ytmikgaphknbcaaa.B
