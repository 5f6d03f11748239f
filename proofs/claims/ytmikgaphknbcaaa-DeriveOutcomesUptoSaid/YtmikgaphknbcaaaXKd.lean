/- Rows that are read (Kd.C) and rows of cells: one out of the other; a row that is lent. -/
import Derived.Test.YtmikgaphknbcaaaXCore
namespace Go.X
open Go Go.RowKit Go.Proofs.YtmikgaphknbcaaaW.PrintWords
variable {α : Type} {d : Kd α} {w w' : World}

theorem C_cells {A : Option Addr} {n : Nat} {xs : List α} (h : d.C w A n xs) :
    ∃ cs, Reps (d.K w) d.sz xs cs ∧ (cs ≠ [] → ∃ ad, A = some ad ∧ ∀ j v, cs[j]? = some v → w.cell? (ad.add j) = some v) := by
  obtain ⟨hl, _, hc⟩ := h
  rcases Nat.eq_zero_or_pos n with h0 | h0
  · obtain rfl : xs = [] := List.eq_nil_of_length_eq_zero (by omega)
    exact ⟨[], Reps.none _ _, fun h => absurd rfl h⟩
  · obtain ⟨ad, rfl, hcc⟩ := hc h0
    clear hc
    suffices H : ∀ m, m ≤ xs.length → ∃ cs, Reps (d.K w) d.sz (xs.take m) cs ∧ ∀ j v, cs[j]? = some v → w.cell? (ad.add j) = some v by
      obtain ⟨cs, h1, h2⟩ := H xs.length (Nat.le_refl _)
      rw [List.take_length] at h1
      exact ⟨cs, h1, fun _ => ⟨ad, rfl, h2⟩⟩
    intro m
    induction m with
    | zero => exact fun _ => ⟨[], by simpa using Reps.none _ _, by simp⟩
    | succ m ih =>
      intro hm
      obtain ⟨cs, h1, h2⟩ := ih (by omega)
      obtain ⟨c, e1, e2, e3⟩   := hcc m _ (List.getElem?_eq_getElem (show m < xs.length by omega))
      have hlen : cs.length = m * d.sz := by rw [h1.1, List.length_take]; congr 1; omega
      refine ⟨cs ++ c, ?_, fun j v hj => ?_⟩
      · rw [List.take_succ_eq_append_getElem (by omega)]
        exact h1.snoc e2 e1
      · rcases Nat.lt_or_ge j cs.length with hlt | hge
        · rw [List.getElem?_append_left hlt] at hj
          exact h2 j v hj
        · rw [List.getElem?_append_right hge] at hj
          have := e3 (j - cs.length) v hj
          rwa [show m * d.sz + (j - cs.length) = j by omega] at this

theorem Reps_oneCell {xs : List α} {cs : List Value} (h : Reps (d.K w) d.sz xs cs) : ∀ v ∈ cs, v.oneCell' = true := by
  suffices H : ∀ (xs : List α) (cs : List Value), Reps (d.K w) d.sz xs cs → ∀ v ∈ cs, v.oneCell' = true from H xs cs h
  intro xs
  induction xs with
  | nil =>
    intro cs h v hv
    have : cs = [] := List.eq_nil_of_length_eq_zero (by have := h.1; simpa using this)
    rw [this] at hv
    cases hv
  | cons x xs ih =>
    intro cs h v hv
    have hl := h.1
    have h0 := h.2 0 x rfl
    simp only [Nat.zero_mul, List.drop_zero] at h0
    have hr : Reps (d.K w) d.sz xs (cs.drop d.sz) := by
      refine ⟨by rw [List.length_drop, hl, List.length_cons, Nat.succ_mul]; omega, fun j p hj => ?_⟩
      have := h.2 (j + 1) p (by simpa using hj)
      rwa [List.drop_drop, show d.sz + j * d.sz = (j + 1) * d.sz by rw [Nat.succ_mul, Nat.add_comm]]
    rw [← List.take_append_drop d.sz cs] at hv
    rcases List.mem_append.1 hv with hv | hv
    · exact d.K_one h0 v hv
    · exact ih _ hr v hv

theorem C_of_blk {b : Nat} {e : TypeId} {xs : List α} {cs rest : List Value} (h : Blk w b e (cs ++ rest)) (hr : Reps (d.K w) d.sz xs cs) (hm : xs.length ≤ 9223372036854775807) :
    d.C w (some ⟨b, 0, none⟩) xs.length xs := by
  refine ⟨rfl, hm, fun _ => ⟨_, rfl, fun j p hj => ⟨(cs.drop (j * d.sz)).take d.sz, ?_, hr.2 j p hj, fun i u hu => ?_⟩⟩⟩
  · have hjl := (List.getElem?_eq_some_iff.1 hj).1
    have h1 : j * d.sz + d.sz ≤ cs.length := by rw [hr.1, ← Nat.succ_mul]; exact Nat.mul_le_mul_right _ hjl
    rw [List.length_take, List.length_drop]
    omega
  · rw [add_plain, h.cell]
    rw [List.getElem?_take] at hu
    split at hu
    · rw [List.getElem?_drop] at hu
      rw [List.getElem?_append_left (List.getElem?_eq_some_iff.1 hu).1]
      exact hu
    · cases hu

/-- A row that is lent: its elements, and behind them its holder's. -/
structure Lent (d : Kd α) (e : TypeId) (w : World) (b : Nat) (xs : List α) (hold : List Value) : Prop where
  mk' ::
  out : ∃ cs, Reps (d.K w) d.sz xs cs ∧ Blk w b e (cs ++ hold)

theorem Lent.lt {e : TypeId} {b : Nat} {xs : List α} {hold : List Value} (h : Lent d e w b xs hold) : b < w.heap.size := by
  obtain ⟨cs, _, hb⟩ := h.out
  exact hb.lt
theorem Lent.below {e : TypeId} {b : Nat} {xs : List α} {hold : List Value} (h : Lent d e w b xs hold) (g : Below w.heap.size w w') : Lent d e w' b xs hold := by
  obtain ⟨cs, hr, hb⟩ := h.out
  exact ⟨cs, hr.imp_ (fun _ _ hk => d.K_below g hk), hb.below g hb.lt⟩
theorem Lent.C {e : TypeId} {b : Nat} {xs : List α} {hold : List Value} (h : Lent d e w b xs hold) (hm : xs.length ≤ 9223372036854775807) : d.C w (some ⟨b, 0, none⟩) xs.length xs := by
  obtain ⟨cs, hr, hb⟩ := h.out
  exact C_of_blk hb hr hm
theorem Lent.hold {e : TypeId} {b : Nat} {xs : List α} {hold : List Value} (h : Lent d e w b xs hold) (j : Nat) {v : Value} (hj : hold[j]? = some v) : w.cell? ⟨b, xs.length * d.sz + j, none⟩ = some v := by
  obtain ⟨cs, hr, hb⟩ := h.out
  rw [hb.cell, List.getElem?_append_right (by rw [hr.1]; omega), hr.1, Nat.add_sub_cancel_left]
  exact hj
theorem splice_begin {α : Type} (L cs : List α) : splice L 0 cs = cs ++ L.drop cs.length := by simp [splice]
theorem splice_end {α : Type} (cs r hold : List α) (h : r.length = hold.length) : splice (cs ++ r) cs.length hold = cs ++ hold := by
  simp [splice, h.symm]
end Go.X
