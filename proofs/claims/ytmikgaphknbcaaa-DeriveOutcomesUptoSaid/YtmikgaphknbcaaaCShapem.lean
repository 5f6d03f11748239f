/- script.shaped, dowelref06's Tree and shaped. -/
import Derived.Test.YtmikgaphknbcaaaCMayRm
import Derived.Test.YtmikgaphknbcaaaSNest2m
import Derived.Test.YtmikgaphknbcaaaBEqm
namespace Go.Proofs.Ytmikgaphknbcaaa.B
open Go Go.RowKit Go.X Go.Proofs.YtmikgaphknbcaaaW.PrintWords Go.Proofs.Ytmikgaphknbcaaa.F

def shapedOK (xs : List S47) : Bool := xs.all mayOK && isTree xs
/-- The texts of nodes are texts. -/
def TextsFit (xs : List S47) : Prop := ∀ x ∈ xs, x.f2.size ≤ 9223372036854775807
theorem nd_mem {xs : List S47} {k : Nat} (h : k < xs.length) : nd xs k ∈ xs := by rw [nd, List.getD_eq_getElem?_getD, List.getElem?_eq_getElem h]; exact List.getElem_mem h
theorem drop_nd {xs : List S47} {k : Nat} (h : k < xs.length) : xs.drop k = nd xs k :: xs.drop (k + 1) := by
  rw [List.drop_eq_getElem_cons h, nd, List.getD_eq_getElem?_getD, List.getElem?_eq_getElem h]; rfl
theorem may_step {xs : List S47} {k : Nat} (h : k < xs.length) (hk : (xs.drop k).all mayOK = xs.all mayOK) :
    (mayOK (nd xs k) = true → (xs.drop (k + 1)).all mayOK = xs.all mayOK) ∧ (mayOK (nd xs k) = false → shapedOK xs = false) := by
  rw [drop_nd h, List.all_cons] at hk
  exact ⟨fun h => by rw [h] at hk; exact hk, fun h => by rw [h] at hk; rw [shapedOK, ← hk]; rfl⟩
set_option maxRecDepth 100000 in
set_option maxHeartbeats 4000000 in
theorem TreeR.calls (A : Option Addr) (c : Nat) (xs : List S47) (w : World) (hr : Kd.C k47 w A xs.length xs) (hn : xs.length ≤ 4000000) :
    Calls Try.prog 67 #[.slice A xs.length c] w fun e w' => e = .returned (.bool (isTree xs)) ∧ Below w.heap.size w w' := by
  have HR := Lib.hid hr; clear hr
  go_enter Try.func67, Try.ntmps67
  go_wp2_with (fail)
  refine (Begins.calls A c xs w HR.out hn).mono ?_
  rintro e w1 ⟨g, rfl, hb, hg, hbel⟩
  have HL : Hid (Kd.C (Kd.int .i64) w1 (some ⟨g, 0, none⟩) xs.length (begs xs)) := BelowOwn hn hb
  rw [begs_length]
  have HB := Lib.hid hbel; clear hbel hb hg
  dsimp only
  by_cases h0 : 0 < xs.length
  · obtain ⟨ad, eA, d1⟩ := int_at HL.out (xs.length - 1) (by omega)
    obtain ⟨m, hm⟩ : ∃ m, xs.length = m + 1 := ⟨xs.length - 1, by omega⟩
    have HT : Hid (isTree xs = ((begs xs).getD (xs.length - 1) 0 == 0)) := by
      show _ = _
      unfold isTree
      rw [Bool.eq_iff_iff]
      simp [h0]
    rw [hm] at d1 HT ⊢
    simp only [Nat.add_sub_cancel] at d1 HT
    obtain rfl : (⟨g, 0, none⟩ : Addr) = ad := by injection eA
    have HM := Lib.hid hm; clear hm HL eA
    generalize (begs xs).getD m 0 = v at d1 HT
    have hm4 : m + 1 ≤ 4000000 := by have := HM.out; omega
    clear h0 hn
    have d2 : w1.cell? ⟨g, m, none⟩ = some (.int .i64 v) := by
      rcases Nat.eq_zero_or_pos m with h | h
      · subst h; simpa [Addr.add] using d1
      · simpa [Addr.add, Nat.pos_iff_ne_zero.1 h] using d1
    clear d1
    go_wp2
    all_goals
      go_ret
      exact ⟨by rw [HT.out]; simp [*], HB.out⟩
  · have HT : Hid (isTree xs = false) := by show _ = _; unfold isTree; simp; omega
    have h1 : decide (0 < xs.length) = false := by simpa using h0
    go_wp2
    go_ret
    exact ⟨by rw [HT.out]; rfl, HB.out⟩
set_option maxRecDepth 100000 in
set_option maxHeartbeats 4000000 in
theorem shaped.calls (A : Option Addr) (c : Nat) (xs : List S47) (w : World) (hr : Kd.C k47 w A xs.length xs) (ht : TextsFit xs) (hn : xs.length ≤ 4000000) :
    Calls Try.prog 51 #[.slice A xs.length c] w fun e w' => e = .returned (.bool (shapedOK xs)) ∧ Below w.heap.size w w' := by
  have HR := Lib.hid hr; clear hr
  have HTF := Lib.hid ht; clear ht
  go_enter Try.func51, Try.ntmps51
  go_wp2
  go_loopg [7] xs.length (fun q v wr => ∃ k : Nat, q + k = xs.length ∧ v = .int .i64 k ∧ Hid ((xs.drop k).all mayOK = xs.all mayOK) ∧ Hid (Below w.heap.size w wr))
  case atStart => exact ⟨0, by simp, rfl, rfl, Below.refl _ _⟩
  case round =>
    obtain ⟨k, hk, rfl, HM, HW⟩ := hrel
    by_cases hlt : k < xs.length
    · have HS := Lib.hid (may_step hlt HM.out)
      have HX := Lib.hid (HTF.out _ (nd_mem hlt))
      clear HM
      obtain ⟨ad, eA, c0, c1, c2, c3, c4, c5, c6, c7, c8, c9⟩ := node_at (Kd.C_below HR.out HW.out) k hlt
      subst eA
      generalize nd xs k = y at *
      go_wp2_with (fail)
      clear c0 c1 c2 c3 c4 c5 c6 c7 c8 c9
      have HA : Hid (Below w.heap.size w (wr.alloc (.cells (nodeCells y).toArray 47))) := HW.out.alloc HW.out.size _
      refine (may.calls y _ HX.out).mono ?_
      rintro e w1 ⟨rfl, hb⟩
      have HB : Hid (Below w.heap.size w w1) := HA.out.trans (hb.mono HA.out.size)
      clear hb HA
      dsimp only
      cases hmy : mayOK y
      · have HV := Lib.hid (HS.out.2 hmy)
        clear hmy
        go_wp2
        go_ret
        exact ⟨by rw [HV.out]; rfl, HB.out⟩
      · have HV := Lib.hid (HS.out.1 hmy)
        clear hmy
        go_wp2
        go_roundg (xs.length - (k + 1))
        case measure => omega
        case rel => exact ⟨k + 1, by omega, by go_num, HV, HB⟩
    · have HV : Hid (shapedOK xs = isTree xs) := by
        have := HM.out
        rw [List.drop_of_length_le (by omega)] at this
        show _ = _
        rw [shapedOK, ← this]
        rfl
      clear HM
      go_wp2_with (fail)
      refine (begins.callsN A c xs.length xs wr rfl (Kd.C_below HR.out HW.out) hn).mono ?_
      rintro e w1 ⟨g, rfl, hb, hg, hbel⟩
      have HL : Hid (Kd.C (Kd.int .i64) w1 (some ⟨g, 0, none⟩) xs.length (begs xs)) := BelowOwn hn hb
      rw [begs_length]
      have HB : Hid (Below w.heap.size w w1) := HW.out.trans (hbel.mono HW.out.size)
      clear hbel hb hg
      dsimp only
      go_wp2_with (fail)
      refine (tree.calls A (some ⟨g, 0, none⟩) c xs.length xs w1 HL.out hn).mono ?_
      rintro e w2 ⟨rfl, rfl⟩
      dsimp only
      go_wp2
      go_ret
      exact ⟨by rw [HV.out]; rfl, HB.out⟩
set_option maxRecDepth 100000 in
set_option maxHeartbeats 4000000 in
theorem shapedR.calls (A : Option Addr) (c : Nat) (xs : List S47) (w : World) (hr : Kd.C k47 w A xs.length xs) (ht : TextsFit xs) (hn : xs.length ≤ 4000000) :
    Calls Try.prog 54 #[.slice A xs.length c] w fun e w' => e = .returned (.bool (shapedOK xs)) ∧ Below w.heap.size w w' := by
  have HR := Lib.hid hr; clear hr
  have HTF := Lib.hid ht; clear ht
  go_enter Try.func54, Try.ntmps54
  go_wp2
  go_loopg [3] xs.length (fun q v wr => ∃ k : Nat, q + k = xs.length ∧ v = .int .i64 k ∧ Hid ((xs.drop k).all mayOK = xs.all mayOK) ∧ Hid (Below w.heap.size w wr))
  case atStart => exact ⟨0, by simp, rfl, rfl, Below.refl _ _⟩
  case round =>
    obtain ⟨k, hk, rfl, HM, HW⟩ := hrel
    by_cases hlt : k < xs.length
    · have HS := Lib.hid (may_step hlt HM.out)
      have HX := Lib.hid (HTF.out _ (nd_mem hlt))
      clear HM
      obtain ⟨ad, eA, c0, c1, c2, c3, c4, c5, c6, c7, c8, c9⟩ := node_at (Kd.C_below HR.out HW.out) k hlt
      subst eA
      generalize nd xs k = y at *
      go_wp2_with (fail)
      clear c0 c1 c2 c3 c4 c5 c6 c7 c8 c9
      refine (mayR.calls y _ HX.out).mono ?_
      rintro e w1 ⟨rfl, hb⟩
      have HB : Hid (Below w.heap.size w w1) := HW.out.trans (hb.mono HW.out.size)
      clear hb
      dsimp only
      cases hmy : mayOK y
      · have HV := Lib.hid (HS.out.2 hmy)
        clear hmy
        go_wp2
        go_ret
        exact ⟨by rw [HV.out]; rfl, HB.out⟩
      · have HV := Lib.hid (HS.out.1 hmy)
        clear hmy
        go_wp2
        go_roundg (xs.length - (k + 1))
        case measure => omega
        case rel => exact ⟨k + 1, by omega, by go_num, HV, HB⟩
    · have HV : Hid (shapedOK xs = isTree xs) := by
        have := HM.out
        rw [List.drop_of_length_le (by omega)] at this
        show _ = _
        rw [shapedOK, ← this]
        rfl
      clear HM
      go_wp2_with (fail)
      refine (TreeR.calls A c xs wr (Kd.C_below HR.out HW.out) hn).mono ?_
      rintro e w1 ⟨rfl, hb⟩
      have HB : Hid (Below w.heap.size w w1) := HW.out.trans (hb.mono HW.out.size)
      clear hb
      dsimp only
      go_wp2
      go_ret
      exact ⟨by rw [HV.out]; rfl, HB.out⟩
end Go.Proofs.Ytmikgaphknbcaaa.B
