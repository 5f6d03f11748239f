/- script.Parts and dowelref06.Parts; script.tree; the comparisons of lists. -/
import Derived.Test.YtmikgaphknbcaaaSParts
import Derived.Test.YtmikgaphknbcaaaFx1
import Derived.Deep.QuietTactic
import Derived.BigQuiet
namespace Go.Proofs.Ytmikgaphknbcaaa.B
open Go Go.RowKit Go.X Go.Proofs.YtmikgaphknbcaaaW.PrintWords Go.Proofs.Ytmikgaphknbcaaa.F

theorem C_take {α : Type} {d : Kd α} {w : World} {A : Option Addr} {n : Nat} {xs : List α} (h : d.C w A n xs) (m : Nat) (hm : m ≤ n) : d.C w A m (xs.take m) := by
  obtain ⟨h1, h2, h3⟩ := h
  refine ⟨by rw [List.length_take, h1]; omega, by omega, fun h0 => ?_⟩
  obtain ⟨ad, e, hc⟩ := h3 (by omega)
  refine ⟨ad, e, fun j p hj => hc j p ?_⟩
  rw [List.getElem?_take] at hj
  split at hj
  · exact hj
  · cases hj
theorem nd_take (xs : List S47) (m j : Nat) (hj : j < m) : nd (xs.take m) j = nd xs j := by
  unfold nd
  rw [List.getD_eq_getElem?_getD, List.getD_eq_getElem?_getD, List.getElem?_take, if_pos hj]
theorem begsTo_of_take (xs : List S47) (m : Nat) : ∀ j, j ≤ m → begsTo (xs.take m) j = begsTo xs j
  | 0, _ => rfl
  | j + 1, h => by rw [begsTo, begsTo, begsTo_of_take xs m j (by omega), nd_take xs m j (by omega)]
theorem begs_take (xs : List S47) (m : Nat) (hm : m ≤ xs.length) : begs (xs.take m) = begsTo xs m := by
  unfold begs
  rw [List.length_take, Nat.min_eq_left hm, begsTo_of_take xs m m (Nat.le_refl _)]
theorem OwnInts.C {w' : World} {l : List Int} {g : Nat} (h : Blk w' g 3 (nums .i64 l)) (hm : l.length ≤ maxLen) : Kd.C (Kd.int .i64) w' (some ⟨g, 0, none⟩) l.length l := by
  obtain ⟨A, c, e, _, hC⟩ := C_of_own (own_of_blk (base := 0) h (Nat.zero_le _) hm)
  simp at e
  rw [← e.1] at hC
  exact hC
theorem OwnI.after {w w1 w2 : World} {l : List Int} {e : Ending} (hb : Below w.heap.size w w1) (h : OwnI w1 w2 l e) : OwnI w w2 l e := by
  obtain ⟨v, he, ho, hb2⟩ := h
  exact ⟨v, he, own_weaken ho hb.size, hb.trans (hb2.mono hb.size)⟩
/-- The same contracts, the length a letter of its own. -/
theorem begins.callsN (A : Option Addr) (c n : Nat) (xs : List S47) (w : World) (hl : xs.length = n) (hr : Kd.C k47 w A n xs) (hn : n ≤ 4000000) :
    Calls Try.prog 43 #[.slice A n c] w fun e w' => OwnInts w w' (begs xs) e := by
  subst hl; exact begins.calls A c xs w hr hn
theorem Begins.callsN (A : Option Addr) (c n : Nat) (xs : List S47) (w : World) (hl : xs.length = n) (hr : Kd.C k47 w A n xs) (hn : n ≤ 4000000) :
    Calls Try.prog 45 #[.slice A n c] w fun e w' => OwnInts w w' (begs xs) e := by
  subst hl; exact Begins.calls A c xs w hr hn

set_option maxRecDepth 100000 in
set_option maxHeartbeats 4000000 in
theorem Parts.calls (A : Option Addr) (c : Nat) (xs : List S47) (i : Int) (w : World) (hr : Kd.C k47 w A xs.length xs) (hn : xs.length ≤ 4000000) (hc : xs.length ≤ c) :
    Calls Try.prog 21 #[.slice A xs.length c, .int .i64 i] w fun e w' => OwnI w w' (partsOf xs i) e := by
  have HR := Lib.hid hr; clear hr
  by_cases h0 : i < 0
  · have HN : Hid (partsOf xs i = []) := by show _ = _; unfold partsOf; rw [if_neg (by omega)]
    go_enter Try.func21, Try.ntmps21
    go_wp2
    go_ret
    rw [HN.out]; exact OwnI.nil w (Below.refl _ _)
  obtain ⟨n, rfl⟩ : ∃ n : Nat, i = n := ⟨i.toNat, by omega⟩
  by_cases h1 : n < xs.length
  · have hb1 : decide (xs.length ≤ n) = false := by simp; omega
    go_enter Try.func21, Try.ntmps21
    go_wp2_with (fail)
    refine (begins.callsN A c (n + 1) (xs.take (n + 1)) w (by rw [List.length_take]; omega) (C_take HR.out (n + 1) (by omega)) (by omega)).mono ?_
    rintro e w1 ⟨g, rfl, hb, hg, hbel⟩
    rw [begs_take xs (n + 1) (by omega)] at hb ⊢
    have HL : Hid (Kd.C (Kd.int .i64) w1 (some ⟨g, 0, none⟩) (n + 1) (begsTo xs (n + 1))) := by
      have := OwnInts.C hb (by rw [begsTo_length]; simp only [maxLen]; omega)
      rwa [begsTo_length] at this
    rw [begsTo_length]
    have HB := Lib.hid hbel; clear hbel hb hg
    dsimp only
    go_wp2_with (fail)
    refine (parts.calls A (some ⟨g, 0, none⟩) c (n + 1) (n + 1) xs n w1 (Kd.C_below HR.out HB.out) HL.out (by omega) (by omega) hn).mono ?_
    rintro e w2 ho
    have HO := Lib.hid (ho.after HB.out); clear ho
    obtain ⟨v, rfl, ho, hb2⟩ := HO.out
    have HO2 := Lib.hid ho; have HB2 := Lib.hid hb2; clear ho hb2 HO
    dsimp only
    go_wp2
    go_ret
    exact ⟨v, rfl, HO2.out, HB2.out⟩
  · have HN : Hid (partsOf xs n = []) := by show _ = _; unfold partsOf; rw [if_neg (by omega)]
    have hb1 : decide (xs.length ≤ n) = true := by simp; omega
    go_enter Try.func21, Try.ntmps21
    go_wp2
    go_ret
    rw [HN.out]; exact OwnI.nil w (Below.refl _ _)

set_option maxRecDepth 100000 in
set_option maxHeartbeats 4000000 in
theorem PartsR.calls (A : Option Addr) (c : Nat) (xs : List S47) (i : Int) (w : World) (hr : Kd.C k47 w A xs.length xs) (hn : xs.length ≤ 4000000) :
    Calls Try.prog 22 #[.slice A xs.length c, .int .i64 i] w fun e w' => OwnI w w' (partsOf xs i) e := by
  have HR := Lib.hid hr; clear hr
  go_enter Try.func22, Try.ntmps22
  go_wp2_with (fail)
  refine (Begins.callsN A c xs.length xs w rfl HR.out hn).mono ?_
  rintro e w1 ⟨g, rfl, hb, hg, hbel⟩
  have HL : Hid (Kd.C (Kd.int .i64) w1 (some ⟨g, 0, none⟩) xs.length (begsTo xs xs.length)) := by
    have := OwnInts.C hb (by rw [begs_length]; simp only [maxLen]; omega)
    rwa [begs_length] at this
  rw [begs_length]
  have HB := Lib.hid hbel; clear hbel hb hg
  dsimp only
  go_wp2_with (fail)
  refine (partsR.calls A (some ⟨g, 0, none⟩) c xs.length xs.length xs i w1 (Kd.C_below HR.out HB.out) HL.out (Nat.le_refl _) (fun _ h => h) hn).mono ?_
  rintro e w2 ho
  have HO := Lib.hid (ho.after HB.out); clear ho
  obtain ⟨v, rfl, ho, hb2⟩ := HO.out
  have HO2 := Lib.hid ho; have HB2 := Lib.hid hb2; clear ho hb2 HO
  dsimp only
  go_wp2
  go_ret
  exact ⟨v, rfl, HO2.out, HB2.out⟩

def isTree (xs : List S47) : Bool := decide (0 < xs.length ∧ (begs xs).getD (xs.length - 1) 0 = 0)
set_option maxRecDepth 100000 in
set_option maxHeartbeats 4000000 in
theorem tree.calls (A A1 : Option Addr) (c c1 : Nat) (xs : List S47) (w : World) (hl : Kd.C (Kd.int .i64) w A1 xs.length (begs xs)) (hn : xs.length ≤ 4000000) :
    Calls Try.prog 46 #[.slice A xs.length c, .slice A1 xs.length c1] w fun e w' => e = .returned (.bool (isTree xs)) ∧ w = w' := by
  have HL := Lib.hid hl; clear hl
  by_cases h0 : 0 < xs.length
  · obtain ⟨ad, eA, d1⟩ := int_at HL.out (xs.length - 1) (by omega)
    subst eA
    obtain ⟨m, hm⟩ : ∃ m, xs.length = m + 1 := ⟨xs.length - 1, by omega⟩
    have HT : Hid (isTree xs = ((begs xs).getD (xs.length - 1) 0 == 0)) := by
      show _ = _
      unfold isTree
      rw [Bool.eq_iff_iff]
      simp [h0]
    rw [hm] at d1 HT ⊢
    simp only [Nat.add_sub_cancel] at d1 HT
    have HM := Lib.hid hm; clear hm HL
    generalize (begs xs).getD m 0 = v at d1 HT
    have hm4 : m + 1 ≤ 4000000 := by have := HM.out; omega
    clear h0 hn
    go_enter Try.func46, Try.ntmps46
    go_wp2
    all_goals
      go_ret
      exact ⟨by rw [HT.out]; simp [*], rfl⟩
  · have HT : Hid (isTree xs = false) := by show _ = _; unfold isTree; simp; omega
    have h1 : decide (0 < xs.length) = false := by simpa using h0
    go_enter Try.func46, Try.ntmps46
    go_wp2
    go_ret
    exact ⟨by rw [HT.out]; rfl, rfl⟩

set_option maxRecDepth 100000 in
set_option maxHeartbeats 4000000 in
theorem Ints.calls (A A1 : Option Addr) (c c1 n : Nat) (xs ys : List Int) (w : World) (hx : Kd.C (Kd.int .i64) w A n xs) (hy : Kd.C (Kd.int .i64) w A1 n ys) (he : xs = ys) (hn : n ≤ 4000000) :
    Calls Try.prog 23 #[.slice A n c, .slice A1 n c1] w fun e w' => e = .returned (.bool true) ∧ ∃ q, w' = w.drewN q := by
  subst he
  have HX := Lib.hid hx; clear hx
  have HY := Lib.hid hy; clear hy
  go_enter Try.func23, Try.ntmps23
  go_wp2
  go_loopg [5] n (fun q v wr => ∃ k : Nat, q + k = n ∧ v = .int .i64 k ∧ Hid (∃ q, wr = w.drewN q))
  case atStart => exact ⟨0, by simp, rfl, 0, rfl⟩
  case round =>
    obtain ⟨k, hk, rfl, HW⟩ := hrel
    obtain ⟨qw, hw⟩ := HW.out
    subst hw
    clear HW
    by_cases hlt : k < n
    · obtain ⟨ad, eA, d1⟩ := int_at HX.out k hlt
      obtain ⟨ad', eA', d2⟩ := int_at HY.out k hlt
      subst eA
      subst eA'
      generalize xs.getD k 0 = v at d1 d2
      go_wp2
      go_quiet (fail)
      go_wp2
      go_roundg (n - (k + 1))
      case measure => omega
      case rel => exact ⟨k + 1, by omega, by go_num, ⟨_, rfl⟩⟩
    · go_wp2
      go_ret
      exact ⟨rfl, qw, rfl⟩

attribute [local go_sem high] eqA47
set_option maxRecDepth 100000 in
set_option maxHeartbeats 4000000 in
theorem Nodes.calls (A A1 : Option Addr) (c c1 : Nat) (xs : List S47) (w : World) (hx : Kd.C k47 w A xs.length xs) (hy : Kd.C k47 w A1 xs.length xs) (hn : xs.length ≤ 4000000) :
    Calls Try.prog 26 #[.slice A xs.length c, .slice A1 xs.length c1] w fun e w' => e = .returned (.bool true) ∧ ∃ q, w' = w.drewN q := by
  have HX := Lib.hid hx; clear hx
  have HY := Lib.hid hy; clear hy
  go_enter Try.func26, Try.ntmps26
  go_wp2
  go_loopg [5] xs.length (fun q v wr => ∃ k : Nat, q + k = xs.length ∧ v = .int .i64 k ∧ Hid (∃ q, wr = w.drewN q))
  case atStart => exact ⟨0, by simp, rfl, 0, rfl⟩
  case round =>
    obtain ⟨k, hk, rfl, HW⟩ := hrel
    obtain ⟨qw, hw⟩ := HW.out
    subst hw
    clear HW
    by_cases hlt : k < xs.length
    · obtain ⟨ad, eA, c0, c1, c2, c3, c4, c5, c6, c7, c8, c9⟩ := node_at HX.out k hlt
      obtain ⟨ad', eA', d0, d1, d2, d3, d4, d5, d6, d7, d8, d9⟩ := node_at HY.out k hlt
      subst eA
      subst eA'
      go_wp2
      go_quiet (fail)
      go_wp2
      go_roundg (xs.length - (k + 1))
      case measure => omega
      case rel => exact ⟨k + 1, by omega, by go_num, ⟨_, rfl⟩⟩
    · go_wp2
      go_ret
      exact ⟨rfl, qw, rfl⟩
end Go.Proofs.Ytmikgaphknbcaaa.B
