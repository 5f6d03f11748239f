/- Plain facts for the Free.. functions: rows that are written full and grown, one by one. -/
import Derived.Test.YtmikgaphknbcaaaXApp
namespace Go.X.Fr
open Go Go.RowKit

def slen : Value → Nat
  | .slice _ n _ => n
  | _ => 0
theorem slen_slice (A : Option Addr) (n c : Nat) : slen (.slice A n c) = n := rfl

/-- The rows: each one is the call's own (from base on), no two share a block. size: an element's cells; T: its type. -/
structure Pre (w : World) (base : Nat) (T : TypeId) (size : Nat) (vs : List Value) : Prop where
  own : ∀ (j : Nat) (v : Value), vs[j]? = some v → ∃ xs, w.ownsRow base T size v (slen v) xs
  apart : ∀ (i j : Nat) (u v : Value), i ≠ j → vs[i]? = some u → vs[j]? = some v → u.ownBlock = none ∨ u.ownBlock ≠ v.ownBlock

/-- Rows below i are written full with their marks; of row i the first k cells are. -/
def P1 (w : World) (base : Nat) (T : TypeId) (vs : List Value) (M : Nat → Value) (i k : Nat) : Prop :=
  ∀ (j : Nat) (v : Value), vs[j]? = some v → ∃ xs, w.ownsRow base T 1 v (slen v) xs ∧ (j < i → xs = List.replicate (slen v) (M j)) ∧ (j = i → xs.take k = List.replicate k (M j))

variable {w w' : World} {base : Nat} {T : TypeId} {vs : List Value} {M : Nat → Value}

theorem P1.begin (h : Pre w base T 1 vs) : P1 w base T vs M 0 0 := fun j v hj => by
  obtain ⟨xs, hx⟩ := h.own j v hj
  exact ⟨xs, hx, fun h0 => absurd h0 (Nat.not_lt_zero _), fun _ => by simp⟩

theorem own_form {n : Nat} {v : Value} {xs : List Value} {size : Nat} (h : w.ownsRow base T size v n xs) : ∃ A c, v = .slice A n c := by
  rcases h.2 with ⟨rfl, rfl⟩ | ⟨g, cap, cur, rfl, _⟩
  · exact ⟨_, _, rfl⟩
  · exact ⟨_, _, rfl⟩
theorem own_form' {v : Value} {xs : List Value} {size : Nat} (h : w.ownsRow base T size v (slen v) xs) : ∃ A n c, v = .slice A n c := by
  obtain ⟨A, c, e⟩ := own_form h
  exact ⟨A, _, c, e⟩
theorem own_some {n : Nat} {A : Option Addr} {c : Nat} {xs : List Value} {size : Nat} (h : w.ownsRow base T size (.slice A n c) n xs) (hn : 0 < n) : ∃ g, A = some ⟨g, 0, none⟩ ∧ base ≤ g ∧ ∃ cur, Blk w g T cur ∧ n * size ≤ cur.length ∧ cur.take (n * size) = xs := by
  rcases h.2 with ⟨h1, rfl⟩ | ⟨g, cap, cur, hv, hb, hh, h1, _, h2, h3⟩
  · omega
  · simp at hv
    obtain ⟨rfl, rfl⟩ := hv
    exact ⟨g, rfl, hb, cur.toList, by simpa [Blk] using hh, by rw [Array.length_toList, h2]; exact Nat.mul_le_mul_right _ h1, h3⟩

theorem P1.next {i n : Nat} {v : Value} (h : P1 w base T vs M i n) (hv : vs[i]? = some v) (hn : n = slen v) : P1 w base T vs M (i + 1) 0 := fun j u hj => by
  obtain ⟨xs, hx, h1, h2⟩ := h j u hj
  refine ⟨xs, hx, fun hlt => ?_, fun _ => by simp⟩
  rcases Nat.lt_or_ge j i with hji | hji
  · exact h1 hji
  · obtain rfl : j = i := by omega
    rw [hv] at hj
    obtain rfl := Option.some.inj hj
    have := h2 rfl
    subst hn
    rwa [List.take_of_length_le (by rw [hx.1]; omega)] at this

theorem P1.store {i k g n c : Nat} (h : P1 w base T vs M i k) (hp : Pre w base T 1 vs) (hv : vs[i]? = some (.slice (some ⟨g, 0, none⟩) n c)) (hk : k < n) :
    P1 (w.setCell ⟨g, k, none⟩ (M i)) base T vs M i (k + 1) ∧ w.grownBy (w.setCell ⟨g, k, none⟩ (M i)) (some g) ∧ Pre (w.setCell ⟨g, k, none⟩ (M i)) base T 1 vs := by
  obtain ⟨xs, hx, _, h2⟩ := h i _ hv
  obtain ⟨hs, hg⟩ := hx.stored k (M i)
  have key : P1 (w.setCell ⟨g, k, none⟩ (M i)) base T vs M i (k + 1) := by
    intro j u hj
    by_cases hji : j = i
    · subst hji
      rw [hv] at hj
      obtain rfl := Option.some.inj hj
      refine ⟨_, hs, fun h0 => absurd h0 (Nat.lt_irrefl _), fun _ => ?_⟩
      have hl : k < xs.length := by have := hx.1; rw [slen_slice] at this; omega
      have h3 := h2 rfl
      rw [List.take_succ_eq_append_getElem (by simpa using hl), List.take_set_of_le (Nat.le_refl _), h3, List.replicate_succ']
      simp
    · obtain ⟨ys, hy, h1, h3⟩ := h j u hj
      exact ⟨ys, hy.kept hg (hp.apart j i u _ hji hj hv), h1, fun e => absurd e hji⟩
  refine ⟨key, hg, ⟨fun j u hj => ?_, hp.apart⟩⟩
  obtain ⟨xs, hx, _⟩ := key j u hj
  exact ⟨xs, hx⟩

/-- Behind the first part: all rows are full; those below i were grown, gs are they; H: the heap's size ahead. -/
structure P2 (w : World) (base : Nat) (T : TypeId) (H : Nat) (vs : List Value) (M G : Nat → Value) (more : Nat) (gs : List Value) : Prop where
  full : ∀ (j : Nat) (v : Value), vs[j]? = some v → w.ownsRow base T 1 v (slen v) (List.replicate (slen v) (M j))
  low : ∀ v ∈ vs, ∀ k, v.ownBlock = some k → k < H
  apart : ∀ (i j : Nat) (u v : Value), i ≠ j → vs[i]? = some u → vs[j]? = some v → u.ownBlock = none ∨ u.ownBlock ≠ v.ownBlock
  len : gs.length ≤ vs.length
  grew : ∀ (j : Nat) (v u : Value), vs[j]? = some v → gs[j]? = some u → w.ownsRow base T 1 u (slen v + more) (List.replicate (slen v) (M j) ++ List.replicate more (G j)) ∧ (u.ownBlock = v.ownBlock ∨ ∃ b, u.ownBlock = some b ∧ H ≤ b)

/-- In the round of row i: x is the row, k elements longer. -/
structure P3 (w : World) (base : Nat) (T : TypeId) (H : Nat) (vs : List Value) (M G : Nat → Value) (more : Nat) (gs : List Value) (v x : Value) (H1 k : Nat) : Prop where
  two : P2 w base T H vs M G more gs
  hH : H ≤ H1
  own : w.ownsRow base T 1 x (slen v + k) (List.replicate (slen v) (M gs.length) ++ List.replicate k (G gs.length))
  place : x.ownBlock = v.ownBlock ∨ ∃ b, x.ownBlock = some b ∧ H1 ≤ b
  old : ∀ u ∈ gs, ∀ b, u.ownBlock = some b → b < H1
  size : H1 ≤ w.heap.size

theorem P2.begin {H : Nat} {G : Nat → Value} {more : Nat} (h : P1 w base T vs M vs.length 0) (hp : Pre w base T 1 vs) (hH : H = w.heap.size) : P2 w base T H vs M G more [] where
  full := fun j v hj => by
    obtain ⟨xs, hx, h1, _⟩ := h j v hj
    rwa [h1 (List.getElem?_eq_some_iff.1 hj).1] at hx
  low := fun v hv k hk => by
    obtain ⟨j, hj⟩ := List.getElem?_of_mem hv
    obtain ⟨xs, hx⟩ := hp.own j v hj
    rw [hH]
    exact (hx.lt k hk).2
  apart := hp.apart
  len := Nat.zero_le _
  grew := fun j v u _ hu => by simp at hu

theorem P2.keep {H : Nat} {G : Nat → Value} {more : Nat} {gs : List Value} (h : P2 w base T H vs M G more gs) {r : Option Nat} (hg : w.grownBy w' r)
    (hr : ∀ b e' sz u k ys, e' = T → w.ownsRow b e' sz u k ys → u.ownBlock = none ∨ u.ownBlock ≠ r) : P2 w' base T H vs M G more gs where
  full := fun j v hj => (h.full j v hj).kept hg (hr _ _ _ _ _ _ rfl (h.full j v hj))
  low := h.low
  apart := h.apart
  len := h.len
  grew := fun j v u hj hu => ⟨((h.grew j v u hj hu).1).kept hg (hr _ _ _ _ _ _ rfl (h.grew j v u hj hu).1), (h.grew j v u hj hu).2⟩

theorem P3.begin {H : Nat} {G : Nat → Value} {more : Nat} {gs : List Value} {v : Value} (h : P2 w base T H vs M G more gs) (hH : H ≤ w.heap.size) (hv : vs[gs.length]? = some v) : P3 w base T H vs M G more gs v v w.heap.size 0 where
  two := h
  hH := hH
  own := by simpa using h.full _ v hv
  place := .inl rfl
  old := fun u hu b hb => by
    obtain ⟨j, hj⟩ := List.getElem?_of_mem hu
    have hl := (List.getElem?_eq_some_iff.1 hj).1
    have := h.len
    obtain ⟨h1, _⟩ := h.grew j _ u (List.getElem?_eq_getElem (show j < vs.length by omega)) hj
    exact (h1.lt b hb).2
  size := Nat.le_refl _

theorem P3.step {H : Nat} {G : Nat → Value} {more k H1 : Nat} {gs : List Value} {v x x' : Value} (h : P3 w base T H vs M G more gs v x H1 k) (hv : vs[gs.length]? = some v)
    (ho : w'.ownsRow base T 1 x' (slen v + k + 1) ((List.replicate (slen v) (M gs.length) ++ List.replicate k (G gs.length)) ++ [G gs.length]))
    (ha : Appended (w.alloc (.cells #[G gs.length] T)) w' T 1 x x' (slen v + k)) : P3 w' base T H vs M G more gs v x' H1 (k + 1) where
  two := {
    full := fun j u hj => by
      refine ha.keeps _ _ _ _ _ _ ((h.two.full j u hj).alloc _) ?_
      by_cases hji : j = gs.length
      · subst hji
        rw [hv] at hj
        obtain rfl := Option.some.inj hj
        exact .inr (.inr ⟨rfl, by omega⟩)
      · rcases h.place with hp | ⟨b, hb, hle⟩
        · rw [hp]
          rcases h.two.apart j _ u v hji hj hv with h1 | h1
          · exact .inl h1
          · exact .inr (.inl h1)
        · refine .inr (.inl fun e => ?_)
          have := h.two.low u (List.mem_of_getElem? hj) b (e.trans hb)
          have := h.hH
          omega
    low := h.two.low
    apart := h.two.apart
    len := h.two.len
    grew := fun j u y hj hy => by
      obtain ⟨h1, h2⟩ := h.two.grew j u y hj hy
      refine ⟨ha.keeps _ _ _ _ _ _ (h1.alloc _) ?_, h2⟩
      have hl := (List.getElem?_eq_some_iff.1 hy).1
      have hne : j ≠ gs.length := by omega
      cases hyb : y.ownBlock with
      | none => exact .inl rfl
      | some c =>
        refine .inr (.inl ?_)
        rcases h.place with hp | ⟨b, hb, hle⟩
        · rw [hp]
          rcases h2 with h2 | ⟨c', hc', hc''⟩
          · rw [hyb] at h2
            rcases h.two.apart j _ u v hne hj hv with h3 | h3
            · rw [h3] at h2; cases h2
            · rw [← h2] at h3; exact h3
          · rw [hyb] at hc'
            obtain rfl := Option.some.inj hc'
            intro e
            have := h.two.low v (List.mem_of_getElem? hv) c e.symm
            omega
        · rw [hb]
          intro e
          have := h.old y (List.mem_of_getElem? hy) c hyb
          have := Option.some.inj e
          omega }
  hH := h.hH
  own := by
    have e : List.replicate (k + 1) (G gs.length) = List.replicate k (G gs.length) ++ [G gs.length] := List.replicate_succ'
    rw [e, ← List.append_assoc]
    exact ho
  place := by
    rcases ha.place with hp | ⟨hp, _⟩
    · rw [hp]; exact h.place
    · exact .inr ⟨_, hp, by have := h.size; simp; omega⟩
  old := h.old
  size := by
    have := ha.grown.size
    have := h.size
    simp at *
    omega

theorem P3.done {H : Nat} {G : Nat → Value} {more H1 : Nat} {gs : List Value} {v x : Value} (h : P3 w base T H vs M G more gs v x H1 more) (hv : vs[gs.length]? = some v) : P2 w base T H vs M G more (gs ++ [x]) where
  full := h.two.full
  low := h.two.low
  apart := h.two.apart
  len := by
    have := (List.getElem?_eq_some_iff.1 hv).1
    rw [List.length_append, List.length_singleton]
    omega
  grew := fun j u y hj hy => by
    rcases Nat.lt_or_ge j gs.length with hlt | hge
    · rw [List.getElem?_append_left hlt] at hy
      exact h.two.grew j u y hj hy
    · have hl := (List.getElem?_eq_some_iff.1 hy).1
      rw [List.length_append, List.length_singleton] at hl
      obtain rfl : j = gs.length := by omega
      rw [List.getElem?_append_right (Nat.le_refl _), Nat.sub_self] at hy
      obtain rfl : x = y := by simpa using hy
      rw [hv] at hj
      obtain rfl := Option.some.inj hj
      refine ⟨h.own, ?_⟩
      rcases h.place with hp | ⟨b, hb, hle⟩
      · exact .inl hp
      · exact .inr ⟨b, hb, Nat.le_trans h.hH hle⟩
end Go.X.Fr
