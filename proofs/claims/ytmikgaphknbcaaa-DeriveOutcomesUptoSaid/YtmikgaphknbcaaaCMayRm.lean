/- dowelref06's may. -/
import Derived.Test.YtmikgaphknbcaaaCMaym
namespace Go.Proofs.Ytmikgaphknbcaaa.B
open Go Go.RowKit Go.X Go.Proofs.YtmikgaphknbcaaaW.PrintWords Go.Proofs.Ytmikgaphknbcaaa.F
attribute [local go_sem high] eqA47
set_option maxRecDepth 100000 in
set_option maxHeartbeats 4000000 in
theorem mayR.calls (x : S47) (w : World) (hs : x.f2.size ≤ 9223372036854775807) : Calls Try.prog 66 #[.agg (nodeCells x).toArray] w fun e w' => e = .returned (.bool (mayOK x)) ∧ Below w.heap.size w w' := by
  have HS := Lib.hid hs; clear hs
  obtain ⟨op, n, t, f, ⟨c0, c1, c2, c3⟩, lo, hi⟩ := x
  simp only [nodeCells]
  go_enter Try.func66, Try.ntmps66
  by_cases h0 : op = 0
  · subst h0
    have hm : Hid (∀ (n : Int) (t : ByteArray) (f : Bool) (c0 c1 c2 c3 lo hi : Int), mayOK ⟨0, n, t, f, ⟨c0, c1, c2, c3⟩, lo, hi⟩ = (n == 0 && (t.toList.isEmpty && (!f && ((c0 == 0 && (c1 == 0 && (c2 == 0 && c3 == 0))) && (lo == 0 && hi == 0)))))) := by intro n t f c0 c1 c2 c3 lo hi; simp [mayOK, clsZ]
    go_wp2_with (first | (go_at_call 65; refine (nameR.calls _ _).mono ?_; rintro e w1 ⟨rfl, rfl⟩; dsimp only) | (go_at_call 52; refine (ownTextR.calls _ _).mono ?_; rintro e w1 ⟨rfl, rfl⟩; dsimp only) | fail)
    all_goals
      go_ret
      refine ⟨congrArg (fun b => Ending.returned (.bool b)) ((?_ : _ = _).trans (hm.out _ _ _ _ _ _ _ _ _).symm), (((Below.refl _ w).alloc (Nat.le_refl _) _).alloc (by simp) _).alloc (by simp <;> omega) _⟩
      clear hm HS
      first | rfl | (simp [*]; done) | (rw [Bool.eq_iff_iff]; simp [*] <;> (first | omega | (intros; exfalso; simp_all)))
  by_cases h1 : op = 1
  · subst h1
    have hm : Hid (∀ (n : Int) (t : ByteArray) (f : Bool) (c0 c1 c2 c3 lo hi : Int), mayOK ⟨1, n, t, f, ⟨c0, c1, c2, c3⟩, lo, hi⟩ = (n == 0 && ((c0 == 0 && (c1 == 0 && (c2 == 0 && c3 == 0))) && (lo == 0 && hi == 0)))) := by intro n t f c0 c1 c2 c3 lo hi; simp [mayOK, clsZ]
    go_wp2_with (first | (go_at_call 65; refine (nameR.calls _ _).mono ?_; rintro e w1 ⟨rfl, rfl⟩; dsimp only) | (go_at_call 52; refine (ownTextR.calls _ _).mono ?_; rintro e w1 ⟨rfl, rfl⟩; dsimp only) | fail)
    all_goals
      go_ret
      refine ⟨congrArg (fun b => Ending.returned (.bool b)) ((?_ : _ = _).trans (hm.out _ _ _ _ _ _ _ _ _).symm), (((Below.refl _ w).alloc (Nat.le_refl _) _).alloc (by simp) _).alloc (by simp <;> omega) _⟩
      clear hm HS
      first | rfl | (simp [*]; done) | (rw [Bool.eq_iff_iff]; simp [*] <;> (first | omega | (intros; exfalso; simp_all)))
  by_cases h2 : op = 2
  · subst h2
    have hm : Hid (∀ (n : Int) (t : ByteArray) (f : Bool) (c0 c1 c2 c3 lo hi : Int), mayOK ⟨2, n, t, f, ⟨c0, c1, c2, c3⟩, lo, hi⟩ = (n == 0 && (t.toList.isEmpty && (!f && (lo == 0 && hi == 0))))) := by intro n t f c0 c1 c2 c3 lo hi; simp [mayOK]
    go_wp2_with (first | (go_at_call 65; refine (nameR.calls _ _).mono ?_; rintro e w1 ⟨rfl, rfl⟩; dsimp only) | (go_at_call 52; refine (ownTextR.calls _ _).mono ?_; rintro e w1 ⟨rfl, rfl⟩; dsimp only) | fail)
    all_goals
      go_ret
      refine ⟨congrArg (fun b => Ending.returned (.bool b)) ((?_ : _ = _).trans (hm.out _ _ _ _ _ _ _ _ _).symm), (((Below.refl _ w).alloc (Nat.le_refl _) _).alloc (by simp) _).alloc (by simp <;> omega) _⟩
      clear hm HS
      first | rfl | (simp [*]; done) | (rw [Bool.eq_iff_iff]; simp [*] <;> (first | omega | (intros; exfalso; simp_all)))
  by_cases h3 : op = 3
  · subst h3
    have hm : Hid (∀ (n : Int) (t : ByteArray) (f : Bool) (c0 c1 c2 c3 lo hi : Int), mayOK ⟨3, n, t, f, ⟨c0, c1, c2, c3⟩, lo, hi⟩ = (n == 0 && (t.toList.isEmpty && (!f && ((c0 == 0 && (c1 == 0 && (c2 == 0 && c3 == 0))) && (lo == 0 && hi == 0)))))) := by intro n t f c0 c1 c2 c3 lo hi; simp [mayOK, clsZ]
    go_wp2_with (first | (go_at_call 65; refine (nameR.calls _ _).mono ?_; rintro e w1 ⟨rfl, rfl⟩; dsimp only) | (go_at_call 52; refine (ownTextR.calls _ _).mono ?_; rintro e w1 ⟨rfl, rfl⟩; dsimp only) | fail)
    all_goals
      go_ret
      refine ⟨congrArg (fun b => Ending.returned (.bool b)) ((?_ : _ = _).trans (hm.out _ _ _ _ _ _ _ _ _).symm), (((Below.refl _ w).alloc (Nat.le_refl _) _).alloc (by simp) _).alloc (by simp <;> omega) _⟩
      clear hm HS
      first | rfl | (simp [*]; done) | (rw [Bool.eq_iff_iff]; simp [*] <;> (first | omega | (intros; exfalso; simp_all)))
  by_cases h4 : op = 4
  · subst h4
    have hm : Hid (∀ (n : Int) (t : ByteArray) (f : Bool) (c0 c1 c2 c3 lo hi : Int), mayOK ⟨4, n, t, f, ⟨c0, c1, c2, c3⟩, lo, hi⟩ = ((decide (0 ≤ n) && decide (n ≤ 8)) && (nameOK t && (!f && ((c0 == 0 && (c1 == 0 && (c2 == 0 && c3 == 0))) && (lo == 0 && hi == 0)))))) := by intro n t f c0 c1 c2 c3 lo hi; simp [mayOK, clsZ]
    go_wp2_with (first | (go_at_call 65; refine (nameR.calls _ _).mono ?_; rintro e w1 ⟨rfl, rfl⟩; dsimp only) | (go_at_call 52; refine (ownTextR.calls _ _).mono ?_; rintro e w1 ⟨rfl, rfl⟩; dsimp only) | fail)
    all_goals
      go_ret
      refine ⟨congrArg (fun b => Ending.returned (.bool b)) ((?_ : _ = _).trans (hm.out _ _ _ _ _ _ _ _ _).symm), (((Below.refl _ w).alloc (Nat.le_refl _) _).alloc (by simp) _).alloc (by simp <;> omega) _⟩
      clear hm HS
      first | rfl | (simp [*]; done) | (rw [Bool.eq_iff_iff]; simp [*] <;> (first | omega | (intros; exfalso; simp_all)))
  by_cases h5 : op = 5
  · subst h5
    have hm : Hid (∀ (n : Int) (t : ByteArray) (f : Bool) (c0 c1 c2 c3 lo hi : Int), mayOK ⟨5, n, t, f, ⟨c0, c1, c2, c3⟩, lo, hi⟩ = (n == 0 && (ownOK t && (!f && ((c0 == 0 && (c1 == 0 && (c2 == 0 && c3 == 0))) && (lo == 0 && hi == 0)))))) := by intro n t f c0 c1 c2 c3 lo hi; simp [mayOK, clsZ]
    go_wp2_with (first | (go_at_call 65; refine (nameR.calls _ _).mono ?_; rintro e w1 ⟨rfl, rfl⟩; dsimp only) | (go_at_call 52; refine (ownTextR.calls _ _).mono ?_; rintro e w1 ⟨rfl, rfl⟩; dsimp only) | fail)
    all_goals
      go_ret
      refine ⟨congrArg (fun b => Ending.returned (.bool b)) ((?_ : _ = _).trans (hm.out _ _ _ _ _ _ _ _ _).symm), (((Below.refl _ w).alloc (Nat.le_refl _) _).alloc (by simp) _).alloc (by simp <;> omega) _⟩
      clear hm HS
      first | rfl | (simp [*]; done) | (rw [Bool.eq_iff_iff]; simp [*] <;> (first | omega | (intros; exfalso; simp_all)))
  by_cases h6 : op = 6
  · subst h6
    have hm : Hid (∀ (n : Int) (t : ByteArray) (f : Bool) (c0 c1 c2 c3 lo hi : Int), mayOK ⟨6, n, t, f, ⟨c0, c1, c2, c3⟩, lo, hi⟩ = (decide (2 ≤ n) && (t.toList.isEmpty && (!f && ((c0 == 0 && (c1 == 0 && (c2 == 0 && c3 == 0))) && (lo == 0 && hi == 0)))))) := by intro n t f c0 c1 c2 c3 lo hi; simp [mayOK, clsZ]
    go_wp2_with (first | (go_at_call 65; refine (nameR.calls _ _).mono ?_; rintro e w1 ⟨rfl, rfl⟩; dsimp only) | (go_at_call 52; refine (ownTextR.calls _ _).mono ?_; rintro e w1 ⟨rfl, rfl⟩; dsimp only) | fail)
    all_goals
      go_ret
      refine ⟨congrArg (fun b => Ending.returned (.bool b)) ((?_ : _ = _).trans (hm.out _ _ _ _ _ _ _ _ _).symm), (((Below.refl _ w).alloc (Nat.le_refl _) _).alloc (by simp) _).alloc (by simp <;> omega) _⟩
      clear hm HS
      first | rfl | (simp [*]; done) | (rw [Bool.eq_iff_iff]; simp [*] <;> (first | omega | (intros; exfalso; simp_all)))
  by_cases h7 : op = 7
  · subst h7
    have hm : Hid (∀ (n : Int) (t : ByteArray) (f : Bool) (c0 c1 c2 c3 lo hi : Int), mayOK ⟨7, n, t, f, ⟨c0, c1, c2, c3⟩, lo, hi⟩ = (decide (2 ≤ n) && (t.toList.isEmpty && (!f && ((c0 == 0 && (c1 == 0 && (c2 == 0 && c3 == 0))) && (lo == 0 && hi == 0)))))) := by intro n t f c0 c1 c2 c3 lo hi; simp [mayOK, clsZ]
    go_wp2_with (first | (go_at_call 65; refine (nameR.calls _ _).mono ?_; rintro e w1 ⟨rfl, rfl⟩; dsimp only) | (go_at_call 52; refine (ownTextR.calls _ _).mono ?_; rintro e w1 ⟨rfl, rfl⟩; dsimp only) | fail)
    all_goals
      go_ret
      refine ⟨congrArg (fun b => Ending.returned (.bool b)) ((?_ : _ = _).trans (hm.out _ _ _ _ _ _ _ _ _).symm), (((Below.refl _ w).alloc (Nat.le_refl _) _).alloc (by simp) _).alloc (by simp <;> omega) _⟩
      clear hm HS
      first | rfl | (simp [*]; done) | (rw [Bool.eq_iff_iff]; simp [*] <;> (first | omega | (intros; exfalso; simp_all)))
  by_cases h8 : op = 8
  · subst h8
    have hm : Hid (∀ (n : Int) (t : ByteArray) (f : Bool) (c0 c1 c2 c3 lo hi : Int), mayOK ⟨8, n, t, f, ⟨c0, c1, c2, c3⟩, lo, hi⟩ = (n == 1 && (t.toList.isEmpty && (!f && ((c0 == 0 && (c1 == 0 && (c2 == 0 && c3 == 0))) && (lo == 0 && hi == 0)))))) := by intro n t f c0 c1 c2 c3 lo hi; simp [mayOK, clsZ]
    go_wp2_with (first | (go_at_call 65; refine (nameR.calls _ _).mono ?_; rintro e w1 ⟨rfl, rfl⟩; dsimp only) | (go_at_call 52; refine (ownTextR.calls _ _).mono ?_; rintro e w1 ⟨rfl, rfl⟩; dsimp only) | fail)
    all_goals
      go_ret
      refine ⟨congrArg (fun b => Ending.returned (.bool b)) ((?_ : _ = _).trans (hm.out _ _ _ _ _ _ _ _ _).symm), (((Below.refl _ w).alloc (Nat.le_refl _) _).alloc (by simp) _).alloc (by simp <;> omega) _⟩
      clear hm HS
      first | rfl | (simp [*]; done) | (rw [Bool.eq_iff_iff]; simp [*] <;> (first | omega | (intros; exfalso; simp_all)))
  by_cases h9 : op = 9
  · subst h9
    have hm : Hid (∀ (n : Int) (t : ByteArray) (f : Bool) (c0 c1 c2 c3 lo hi : Int), mayOK ⟨9, n, t, f, ⟨c0, c1, c2, c3⟩, lo, hi⟩ = (n == 1 && (t.toList.isEmpty && (!f && ((c0 == 0 && (c1 == 0 && (c2 == 0 && c3 == 0))) && (lo == 0 && hi == 0)))))) := by intro n t f c0 c1 c2 c3 lo hi; simp [mayOK, clsZ]
    go_wp2_with (first | (go_at_call 65; refine (nameR.calls _ _).mono ?_; rintro e w1 ⟨rfl, rfl⟩; dsimp only) | (go_at_call 52; refine (ownTextR.calls _ _).mono ?_; rintro e w1 ⟨rfl, rfl⟩; dsimp only) | fail)
    all_goals
      go_ret
      refine ⟨congrArg (fun b => Ending.returned (.bool b)) ((?_ : _ = _).trans (hm.out _ _ _ _ _ _ _ _ _).symm), (((Below.refl _ w).alloc (Nat.le_refl _) _).alloc (by simp) _).alloc (by simp <;> omega) _⟩
      clear hm HS
      first | rfl | (simp [*]; done) | (rw [Bool.eq_iff_iff]; simp [*] <;> (first | omega | (intros; exfalso; simp_all)))
  by_cases h10 : op = 10
  · subst h10
    have hm : Hid (∀ (n : Int) (t : ByteArray) (f : Bool) (c0 c1 c2 c3 lo hi : Int), mayOK ⟨10, n, t, f, ⟨c0, c1, c2, c3⟩, lo, hi⟩ = (n == 1 && (t.toList.isEmpty && (!f && ((c0 == 0 && (c1 == 0 && (c2 == 0 && c3 == 0))) && (lo == 0 && hi == 0)))))) := by intro n t f c0 c1 c2 c3 lo hi; simp [mayOK, clsZ]
    go_wp2_with (first | (go_at_call 65; refine (nameR.calls _ _).mono ?_; rintro e w1 ⟨rfl, rfl⟩; dsimp only) | (go_at_call 52; refine (ownTextR.calls _ _).mono ?_; rintro e w1 ⟨rfl, rfl⟩; dsimp only) | fail)
    all_goals
      go_ret
      refine ⟨congrArg (fun b => Ending.returned (.bool b)) ((?_ : _ = _).trans (hm.out _ _ _ _ _ _ _ _ _).symm), (((Below.refl _ w).alloc (Nat.le_refl _) _).alloc (by simp) _).alloc (by simp <;> omega) _⟩
      clear hm HS
      first | rfl | (simp [*]; done) | (rw [Bool.eq_iff_iff]; simp [*] <;> (first | omega | (intros; exfalso; simp_all)))
  by_cases h12 : op = 12
  · subst h12
    have hm : Hid (∀ (n : Int) (t : ByteArray) (f : Bool) (c0 c1 c2 c3 lo hi : Int), mayOK ⟨12, n, t, f, ⟨c0, c1, c2, c3⟩, lo, hi⟩ = (n == 1 && (t.toList.isEmpty && (!f && ((c0 == 0 && (c1 == 0 && (c2 == 0 && c3 == 0))) && (lo == 0 && hi == 0)))))) := by intro n t f c0 c1 c2 c3 lo hi; simp [mayOK, clsZ]
    go_wp2_with (first | (go_at_call 65; refine (nameR.calls _ _).mono ?_; rintro e w1 ⟨rfl, rfl⟩; dsimp only) | (go_at_call 52; refine (ownTextR.calls _ _).mono ?_; rintro e w1 ⟨rfl, rfl⟩; dsimp only) | fail)
    all_goals
      go_ret
      refine ⟨congrArg (fun b => Ending.returned (.bool b)) ((?_ : _ = _).trans (hm.out _ _ _ _ _ _ _ _ _).symm), (((Below.refl _ w).alloc (Nat.le_refl _) _).alloc (by simp) _).alloc (by simp <;> omega) _⟩
      clear hm HS
      first | rfl | (simp [*]; done) | (rw [Bool.eq_iff_iff]; simp [*] <;> (first | omega | (intros; exfalso; simp_all)))
  by_cases h13 : op = 13
  · subst h13
    have hm : Hid (∀ (n : Int) (t : ByteArray) (f : Bool) (c0 c1 c2 c3 lo hi : Int), mayOK ⟨13, n, t, f, ⟨c0, c1, c2, c3⟩, lo, hi⟩ = (n == 1 && (t.toList.isEmpty && (!f && ((c0 == 0 && (c1 == 0 && (c2 == 0 && c3 == 0))) && (lo == 0 && hi == 0)))))) := by intro n t f c0 c1 c2 c3 lo hi; simp [mayOK, clsZ]
    go_wp2_with (first | (go_at_call 65; refine (nameR.calls _ _).mono ?_; rintro e w1 ⟨rfl, rfl⟩; dsimp only) | (go_at_call 52; refine (ownTextR.calls _ _).mono ?_; rintro e w1 ⟨rfl, rfl⟩; dsimp only) | fail)
    all_goals
      go_ret
      refine ⟨congrArg (fun b => Ending.returned (.bool b)) ((?_ : _ = _).trans (hm.out _ _ _ _ _ _ _ _ _).symm), (((Below.refl _ w).alloc (Nat.le_refl _) _).alloc (by simp) _).alloc (by simp <;> omega) _⟩
      clear hm HS
      first | rfl | (simp [*]; done) | (rw [Bool.eq_iff_iff]; simp [*] <;> (first | omega | (intros; exfalso; simp_all)))
  by_cases h14 : op = 14
  · subst h14
    have hm : Hid (∀ (n : Int) (t : ByteArray) (f : Bool) (c0 c1 c2 c3 lo hi : Int), mayOK ⟨14, n, t, f, ⟨c0, c1, c2, c3⟩, lo, hi⟩ = (n == 1 && (ownOK t && (!f && ((c0 == 0 && (c1 == 0 && (c2 == 0 && c3 == 0))) && (lo == 0 && hi == 0)))))) := by intro n t f c0 c1 c2 c3 lo hi; simp [mayOK, clsZ]
    go_wp2_with (first | (go_at_call 65; refine (nameR.calls _ _).mono ?_; rintro e w1 ⟨rfl, rfl⟩; dsimp only) | (go_at_call 52; refine (ownTextR.calls _ _).mono ?_; rintro e w1 ⟨rfl, rfl⟩; dsimp only) | fail)
    all_goals
      go_ret
      refine ⟨congrArg (fun b => Ending.returned (.bool b)) ((?_ : _ = _).trans (hm.out _ _ _ _ _ _ _ _ _).symm), (((Below.refl _ w).alloc (Nat.le_refl _) _).alloc (by simp) _).alloc (by simp <;> omega) _⟩
      clear hm HS
      first | rfl | (simp [*]; done) | (rw [Bool.eq_iff_iff]; simp [*] <;> (first | omega | (intros; exfalso; simp_all)))
  by_cases h11 : op = 11
  · subst h11
    have hm : Hid (∀ (n : Int) (t : ByteArray) (f : Bool) (c0 c1 c2 c3 lo hi : Int), mayOK ⟨11, n, t, f, ⟨c0, c1, c2, c3⟩, lo, hi⟩ = (n == 1 && (t.toList.isEmpty && (!f && ((c0 == 0 && (c1 == 0 && (c2 == 0 && c3 == 0))) && (decide (0 ≤ lo ∧ lo ≤ 255) && (hi == -1 || decide (lo ≤ hi ∧ hi ≤ 255)))))))) := by intro n t f c0 c1 c2 c3 lo hi; simp [mayOK, clsZ]
    go_wp2_with (first | (go_at_call 65; refine (nameR.calls _ _).mono ?_; rintro e w1 ⟨rfl, rfl⟩; dsimp only) | (go_at_call 52; refine (ownTextR.calls _ _).mono ?_; rintro e w1 ⟨rfl, rfl⟩; dsimp only) | fail)
    all_goals
      go_ret
      refine ⟨congrArg (fun b => Ending.returned (.bool b)) ((?_ : _ = _).trans (hm.out _ _ _ _ _ _ _ _ _).symm), (((Below.refl _ w).alloc (Nat.le_refl _) _).alloc (by simp) _).alloc (by simp <;> omega) _⟩
      clear hm HS
      first | rfl | (simp [*]; done) | (rw [Bool.eq_iff_iff]; simp [*] <;> (first | omega | (intros; exfalso; simp_all)))
  have hm : Hid (mayOK ⟨op, n, t, f, ⟨c0, c1, c2, c3⟩, lo, hi⟩ = false) := by show _ = _; simp [mayOK, *]
  go_wp2
  go_ret
  exact ⟨by rw [hm.out]; rfl, (((Below.refl _ w).alloc (Nat.le_refl _) _).alloc (by simp) _).alloc (by simp <;> omega) _⟩
end Go.Proofs.Ytmikgaphknbcaaa.B
