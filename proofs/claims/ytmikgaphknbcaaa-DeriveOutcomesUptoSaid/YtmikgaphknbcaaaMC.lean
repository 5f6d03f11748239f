/- Texts joined: BFree4, BFreeF, DOut, DOutW, DOutR, DLaw, DSize. -/
import Derived.Test.YtmikgaphknbcaaaMB
import Derived.Test.YtmikgaphknbcaaaMA
import Derived.WalkKit
import Derived.Lib.Hide
import Derived.Deep.LoopGhost
import Derived.Test.YtmikgaphknbcaaaDGrownm
import Derived.Test.YtmikgaphknbcaaaCCheck2m
import Derived.Test.YtmikgaphknbcaaaDForestWm
import Derived.Test.YtmikgaphknbcaaaBKeptm
/- Plain facts for FreeForests: rows of elements of four cells, whose last cell is written and grown, one by one. -/
namespace Go.X.Fr4
open Go Go.RowKit Go.X.Fr

/-- The last cell of each of the first n elements. -/
def Mk (xs : List Value) (n : Nat) (m : Value) : Prop := ∀ q : Nat, q < n → xs[q * 4 + 3]? = some m
theorem Mk.zero (xs : List Value) (m : Value) : Mk xs 0 m := fun _ h => absurd h (Nat.not_lt_zero _)
theorem Mk.append {xs : List Value} {n : Nat} {m : Value} (h : Mk xs n m) (hl : n * 4 ≤ xs.length) (ys : List Value) : Mk (xs ++ ys) n m := fun q hq => by
  rw [List.getElem?_append_left (by omega)]
  exact h q hq
/-- Rows below i are written full with their marks; of row i the first k elements are. -/
def P1 (w : World) (base : Nat) (T : TypeId) (vs : List Value) (M : Nat → Value) (i k : Nat) : Prop :=
  ∀ (j : Nat) (v : Value), vs[j]? = some v → ∃ xs, w.ownsRow base T 4 v (slen v) xs ∧ (j < i → Mk xs (slen v) (M j)) ∧ (j = i → Mk xs k (M j))

variable {w w' : World} {base : Nat} {T : TypeId} {vs : List Value} {M : Nat → Value}

theorem P1.begin (h : Pre w base T 4 vs) : P1 w base T vs M 0 0 := fun j v hj => by
  obtain ⟨xs, hx⟩ := h.own j v hj
  exact ⟨xs, hx, fun h0 => absurd h0 (Nat.not_lt_zero _), fun _ => Mk.zero _ _⟩
theorem P1.next {i n : Nat} {v : Value} (h : P1 w base T vs M i n) (hv : vs[i]? = some v) (hn : n = slen v) : P1 w base T vs M (i + 1) 0 := fun j u hj => by
  obtain ⟨xs, hx, h1, h2⟩ := h j u hj
  refine ⟨xs, hx, fun hlt => ?_, fun _ => Mk.zero _ _⟩
  rcases Nat.lt_or_ge j i with hji | hji
  · exact h1 hji
  · obtain rfl : j = i := by omega
    rw [hv] at hj
    obtain rfl := Option.some.inj hj
    rw [← hn]
    exact h2 rfl
/-- An element of four cells is written. -/
def put4 (w : World) (g k : Nat) (x0 x1 x2 x3 : Value) : World := (((w.setCell ⟨g, k * 4, none⟩ x0).setCell ⟨g, k * 4 + 1, none⟩ x1).setCell ⟨g, k * 4 + 2, none⟩ x2).setCell ⟨g, k * 4 + 3, none⟩ x3
theorem grown2 {w w' w'' : World} {r : Option Nat} (h : w.grownBy w' r) (h' : w'.grownBy w'' r) : w.grownBy w'' r :=
  ⟨h'.os.trans h.os, h'.tape.trans h.tape, h'.output.trans h.output, Nat.le_trans h.size h'.size, fun k hk hne => (h'.block k (Nat.lt_of_lt_of_le hk h.size) hne).trans (h.block k hk hne)⟩
theorem put4_grown (w : World) (g k : Nat) (x0 x1 x2 x3 : Value) : w.grownBy (put4 w g k x0 x1 x2 x3) (some g) :=
  grown2 (grown2 (grown2 (grown_setCell w ⟨g, k * 4, none⟩ x0) (grown_setCell _ ⟨g, k * 4 + 1, none⟩ x1)) (grown_setCell _ ⟨g, k * 4 + 2, none⟩ x2)) (grown_setCell _ ⟨g, k * 4 + 3, none⟩ x3)
theorem put4_size (w : World) (g k : Nat) (x0 x1 x2 x3 : Value) : (put4 w g k x0 x1 x2 x3).heap.size = w.heap.size := by simp [put4, World.setCell]
theorem put4_own {n c g k : Nat} {xs : List Value} (h : w.ownsRow base T 4 (.slice (some ⟨g, 0, none⟩) n c) n xs) (x0 x1 x2 x3 : Value) :
    (put4 w g k x0 x1 x2 x3).ownsRow base T 4 (.slice (some ⟨g, 0, none⟩) n c) n ((((xs.set (k * 4) x0).set (k * 4 + 1) x1).set (k * 4 + 2) x2).set (k * 4 + 3) x3) :=
  ((((h.stored (k * 4) x0).1.stored (k * 4 + 1) x1).1.stored (k * 4 + 2) x2).1.stored (k * 4 + 3) x3).1
theorem P1.store {i k g n c : Nat} (h : P1 w base T vs M i k) (hp : Pre w base T 4 vs) (hv : vs[i]? = some (.slice (some ⟨g, 0, none⟩) n c)) (hk : k < n) (x0 x1 x2 : Value) :
    P1 (put4 w g k x0 x1 x2 (M i)) base T vs M i (k + 1) ∧ Pre (put4 w g k x0 x1 x2 (M i)) base T 4 vs := by
  obtain ⟨xs, hx, _, h2⟩ := h i _ hv
  have hs := put4_own (k := k) hx x0 x1 x2 (M i)
  have hg := put4_grown w g k x0 x1 x2 (M i)
  have key : P1 (put4 w g k x0 x1 x2 (M i)) base T vs M i (k + 1) := by
    intro j u hj
    by_cases hji : j = i
    · subst hji
      rw [hv] at hj
      obtain rfl := Option.some.inj hj
      refine ⟨_, hs, fun h0 => absurd h0 (Nat.lt_irrefl _), fun _ q hq => ?_⟩
      have hl : xs.length = n * 4 := by have := hx.1; rwa [slen_slice] at this
      by_cases hqk : q = k
      · subst hqk
        rw [List.getElem?_set_self (by simp only [List.length_set]; omega)]
      · rw [List.getElem?_set_ne (by omega), List.getElem?_set_ne (by omega), List.getElem?_set_ne (by omega), List.getElem?_set_ne (by omega)]
        exact h2 rfl q (by omega)
    · obtain ⟨ys, hy, h1, h3⟩ := h j u hj
      exact ⟨ys, hy.kept hg (hp.apart j i u _ hji hj hv), h1, fun e => absurd e hji⟩
  refine ⟨key, ⟨fun j u hj => ?_, hp.apart⟩⟩
  obtain ⟨xs, hx, _⟩ := key j u hj
  exact ⟨xs, hx⟩
/-- Behind the first part: all rows are full; those below i were grown, gs are they; H: the heap's size ahead. -/
structure P2 (w : World) (base : Nat) (T : TypeId) (H : Nat) (vs : List Value) (M G : Nat → Value) (more : Nat) (gs : List Value) : Prop where
  full : ∀ (j : Nat) (v : Value), vs[j]? = some v → ∃ xs, w.ownsRow base T 4 v (slen v) xs ∧ Mk xs (slen v) (M j)
  low : ∀ v ∈ vs, ∀ k, v.ownBlock = some k → k < H
  apart : ∀ (i j : Nat) (u v : Value), i ≠ j → vs[i]? = some u → vs[j]? = some v → u.ownBlock = none ∨ u.ownBlock ≠ v.ownBlock
  len : gs.length ≤ vs.length
  grew : ∀ (j : Nat) (v u : Value), vs[j]? = some v → gs[j]? = some u → (∃ xs ys, w.ownsRow base T 4 u (slen v + more) (xs ++ ys) ∧ xs.length = slen v * 4 ∧ Mk xs (slen v) (M j) ∧ Mk ys more (G j)) ∧ (u.ownBlock = v.ownBlock ∨ ∃ b, u.ownBlock = some b ∧ H ≤ b)
/-- In the round of row i: x is the row, k elements longer. -/
structure P3 (w : World) (base : Nat) (T : TypeId) (H : Nat) (vs : List Value) (M G : Nat → Value) (more : Nat) (gs : List Value) (v x : Value) (H1 k : Nat) (xs ys : List Value) : Prop where
  two : P2 w base T H vs M G more gs
  hH : H ≤ H1
  own : w.ownsRow base T 4 x (slen v + k) (xs ++ ys)
  len : xs.length = slen v * 4
  mrk : Mk xs (slen v) (M gs.length)
  mg : Mk ys k (G gs.length)
  place : x.ownBlock = v.ownBlock ∨ ∃ b, x.ownBlock = some b ∧ H1 ≤ b
  old : ∀ u ∈ gs, ∀ b, u.ownBlock = some b → b < H1
  size : H1 ≤ w.heap.size
theorem P2.begin {H : Nat} {G : Nat → Value} {more : Nat} (h : P1 w base T vs M vs.length 0) (hp : Pre w base T 4 vs) (hH : H = w.heap.size) : P2 w base T H vs M G more [] where
  full := fun j v hj => by
    obtain ⟨xs, hx, h1, _⟩ := h j v hj
    exact ⟨xs, hx, h1 (List.getElem?_eq_some_iff.1 hj).1⟩
  low := fun v hv k hk => by
    obtain ⟨j, hj⟩ := List.getElem?_of_mem hv
    obtain ⟨xs, hx⟩ := hp.own j v hj
    rw [hH]
    exact (hx.lt k hk).2
  apart := hp.apart
  len := Nat.zero_le _
  grew := fun j v u _ hu => by simp at hu
theorem P2.keep {H : Nat} {G : Nat → Value} {more : Nat} {gs : List Value} (h : P2 w base T H vs M G more gs) {r : Option Nat} (hg : w.grownBy w' r)
    (hr : ∀ b e' sz u k ys, e' = T → w.ownsRow b e' sz u k ys → u.ownBlock = none ∨ u.ownBlock ≠ r) : P2 w' base T H vs M G more gs where
  full := fun j v hj => by
    obtain ⟨xs, hx, h1⟩ := h.full j v hj
    exact ⟨xs, hx.kept hg (hr _ _ _ _ _ _ rfl hx), h1⟩
  low := h.low
  apart := h.apart
  len := h.len
  grew := fun j v u hj hu => by
    obtain ⟨⟨xs, ys, h1, h2, h3, h4⟩, h5⟩ := h.grew j v u hj hu
    exact ⟨⟨xs, ys, h1.kept hg (hr _ _ _ _ _ _ rfl h1), h2, h3, h4⟩, h5⟩
theorem P3.begin {H : Nat} {G : Nat → Value} {more : Nat} {gs : List Value} {v : Value} (h : P2 w base T H vs M G more gs) (hH : H ≤ w.heap.size) (hv : vs[gs.length]? = some v) : ∃ xs, P3 w base T H vs M G more gs v v w.heap.size 0 xs [] := by
  obtain ⟨xs, hx, h1⟩ := h.full _ v hv
  exact ⟨xs, {
    two := h
    hH := hH
    own := by simpa using hx
    len := hx.1
    mrk := h1
    mg := Mk.zero _ _
    place := .inl rfl
    old := fun u hu b hb => by
      obtain ⟨j, hj⟩ := List.getElem?_of_mem hu
      have hl := (List.getElem?_eq_some_iff.1 hj).1
      have := h.len
      obtain ⟨⟨_, _, h1, _⟩, _⟩ := h.grew j _ u (List.getElem?_eq_getElem (show j < vs.length by omega)) hj
      exact (h1.lt b hb).2
    size := Nat.le_refl _ }⟩
theorem P3.step {H : Nat} {G : Nat → Value} {more k H1 : Nat} {gs : List Value} {v x x' : Value} {xs ys : List Value} {c0 c1 c2 : Value} (h : P3 w base T H vs M G more gs v x H1 k xs ys) (hv : vs[gs.length]? = some v)
    (ho : w'.ownsRow base T 4 x' (slen v + k + 1) ((xs ++ ys) ++ [c0, c1, c2, G gs.length]))
    (ha : Appended (w.alloc (.cells #[c0, c1, c2, G gs.length] T)) w' T 4 x x' (slen v + k)) : P3 w' base T H vs M G more gs v x' H1 (k + 1) xs (ys ++ [c0, c1, c2, G gs.length]) where
  two := {
    full := fun j u hj => by
      obtain ⟨zs, hz, hm⟩ := h.two.full j u hj
      refine ⟨zs, ha.keeps _ _ _ _ _ _ (hz.alloc _) ?_, hm⟩
      by_cases hji : j = gs.length
      · subst hji
        rw [hv] at hj
        obtain rfl := Option.some.inj hj
        exact .inr (.inr ⟨rfl, by omega⟩)
      · rcases h.place with hp | ⟨b, hb, hle⟩
        · rw [hp]
          rcases h.two.apart j _ u v hji hj hv with h1 | h1
          · exact .inl h1
          · exact .inr (.inl h1)
        · refine .inr (.inl fun e => ?_)
          have := h.two.low u (List.mem_of_getElem? hj) b (e.trans hb)
          have := h.hH
          omega
    low := h.two.low
    apart := h.two.apart
    len := h.two.len
    grew := fun j u y hj hy => by
      obtain ⟨⟨zs, us, h1, h6, h7, h8⟩, h2⟩ := h.two.grew j u y hj hy
      refine ⟨⟨zs, us, ha.keeps _ _ _ _ _ _ (h1.alloc _) ?_, h6, h7, h8⟩, h2⟩
      have hl := (List.getElem?_eq_some_iff.1 hy).1
      have hne : j ≠ gs.length := by omega
      cases hyb : y.ownBlock with
      | none => exact .inl rfl
      | some c =>
        refine .inr (.inl ?_)
        rcases h.place with hp | ⟨b, hb, hle⟩
        · rw [hp]
          rcases h2 with h2 | ⟨c', hc', hc''⟩
          · rw [hyb] at h2
            rcases h.two.apart j _ u v hne hj hv with h3 | h3
            · rw [h3] at h2; cases h2
            · rw [← h2] at h3; exact h3
          · rw [hyb] at hc'
            obtain rfl := Option.some.inj hc'
            intro e
            have := h.two.low v (List.mem_of_getElem? hv) c e.symm
            omega
        · rw [hb]
          intro e
          have := h.old y (List.mem_of_getElem? hy) c hyb
          have := Option.some.inj e
          omega }
  hH := h.hH
  own := by
    rw [← List.append_assoc]
    exact ho
  len := h.len
  mrk := h.mrk
  mg := fun q hq => by
    have h1 := h.own.1
    rw [List.length_append, h.len] at h1
    by_cases hqk : q < k
    · rw [List.getElem?_append_left (by omega)]
      exact h.mg q hqk
    · obtain rfl : q = k := by omega
      rw [List.getElem?_append_right (by omega), show q * 4 + 3 - ys.length = 3 by omega]
      rfl
  place := by
    rcases ha.place with hp | ⟨hp, _⟩
    · rw [hp]; exact h.place
    · exact .inr ⟨_, hp, by have := h.size; simp; omega⟩
  old := h.old
  size := by
    have := ha.grown.size
    have := h.size
    simp at *
    omega
theorem P3.done {H : Nat} {G : Nat → Value} {more H1 : Nat} {gs : List Value} {v x : Value} {xs ys : List Value} (h : P3 w base T H vs M G more gs v x H1 more xs ys) (hv : vs[gs.length]? = some v) : P2 w base T H vs M G more (gs ++ [x]) where
  full := h.two.full
  low := h.two.low
  apart := h.two.apart
  len := by
    have := (List.getElem?_eq_some_iff.1 hv).1
    rw [List.length_append, List.length_singleton]
    omega
  grew := fun j u y hj hy => by
    rcases Nat.lt_or_ge j gs.length with hlt | hge
    · rw [List.getElem?_append_left hlt] at hy
      exact h.two.grew j u y hj hy
    · have hl := (List.getElem?_eq_some_iff.1 hy).1
      rw [List.length_append, List.length_singleton] at hl
      obtain rfl : j = gs.length := by omega
      rw [List.getElem?_append_right (Nat.le_refl _), Nat.sub_self] at hy
      obtain rfl : x = y := by simpa using hy
      rw [hv] at hj
      obtain rfl := Option.some.inj hj
      refine ⟨⟨xs, ys, h.own, h.len, h.mrk, h.mg⟩, ?_⟩
      rcases h.place with hp | ⟨b, hb, hle⟩
      · exact .inl hp
      · exact .inr ⟨b, hb, Nat.le_trans h.hH hle⟩
end Go.X.Fr4
/- dowelbook.FreeForests: lists of the call's own, no two in one block, share no memory. -/
namespace Go.Proofs.Ytmikgaphknbcaaa.B
open Go Go.RowKit Go.X Go.X.Fr4 Go.Proofs.YtmikgaphknbcaaaW.PrintWords Go.Proofs.Ytmikgaphknbcaaa.F
open Go.X.Fr (slen slen_slice Pre own_form')

theorem info56 : (Try.prog.info? 56).map (fun i => (i.zero, i.size, i.bytes)) = some (some (.slice none 0 0), 1, 24) := by kernel_rfl
theorem Pre.hid_put {w : World} {base : Nat} {T : TypeId} {vs : List Value} {M : Nat → Value} {i k g n c B : Nat} {w0 : World} (h : Fr4.P1 w base T vs M i k) (hp : Pre w base T 4 vs) (hv : vs[i]? = some (.slice (some ⟨g, 0, none⟩) n c)) (hk : k < n)
    {e' : TypeId} (hB : Blk w B e' vs) (hne : e' ≠ T) (hbel : But (S vs) w0 w) (x0 x1 x2 : Value) :
    Fr4.P1 (put4 w g k x0 x1 x2 (M i)) base T vs M i (k + 1) ∧ Pre (put4 w g k x0 x1 x2 (M i)) base T 4 vs ∧ Blk (put4 w g k x0 x1 x2 (M i)) B e' vs ∧ But (S vs) w0 (put4 w g k x0 x1 x2 (M i)) ∧ (put4 w g k x0 x1 x2 (M i)).heap.size = w.heap.size := by
  obtain ⟨h1, h3⟩ := h.store hp hv hk x0 x1 x2
  have h2 := put4_grown w g k x0 x1 x2 (M i)
  obtain ⟨xs, hx⟩ := hp.own i _ hv
  obtain ⟨g', hg', _, cur, hcur, _⟩ := Fr.own_some hx (show 0 < n by omega)
  obtain rfl : g = g' := by simpa using hg'
  refine ⟨h1, h3, hB.grown h2 ?_, hbel.grown h2 (by intro k hk; obtain rfl := Option.some.inj hk; exact .inl ⟨_, List.mem_of_getElem? hv, rfl⟩), put4_size _ _ _ _ _ _ _⟩
  intro e
  exact hB.ne hcur hne (Option.some.inj e)

set_option maxRecDepth 100000 in
set_option maxHeartbeats 4000000 in
theorem FreeForests.calls (B c : Nat) (vs : List Value) (w : World) (hB : Blk w B 56 vs) (hp : Pre w 0 89 4 vs) (hn : vs.length ≤ 1000) (hs : ∀ v ∈ vs, slen v ≤ 4000000) :
    Calls Try.prog 39 #[.slice (some ⟨B, 0, none⟩) vs.length c] w fun e w' => e = .returned (.bool true) ∧ But (S vs) w w' := by
  have HB := Lib.hid hB; clear hB
  have HP := Lib.hid hp; clear hp
  have HS := Lib.hid hs; clear hs
  go_enter Try.func39, Try.ntmps39
  go_wp2
  go_loopg [3] vs.length (fun q v wr => ∃ i : Nat, q + i = vs.length ∧ v = .int .i64 i ∧ Hid (P1 wr 0 89 vs MI i 0 ∧ Pre wr 0 89 4 vs ∧ Blk wr B 56 vs ∧ But (S vs) w wr ∧ wr.heap.size = w.heap.size))
  case atStart => exact ⟨0, by simp, rfl, P1.begin HP.out, HP.out, HB.out, But.refl _ _, rfl⟩
  case round =>
    obtain ⟨i, hi, rfl, HI⟩ := hrel
    by_cases hlt : i < vs.length
    · obtain ⟨v, hv⟩ : ∃ v, vs[i]? = some v := ⟨_, List.getElem?_eq_getElem hlt⟩
      obtain ⟨xs, hx⟩ := HI.out.2.1.own i v hv
      obtain ⟨A, n, cp, rfl⟩ := own_form' hx
      clear hx
      have hsl : n ≤ 4000000 := HS.out _ (List.mem_of_getElem? hv)
      have hc : wr.cell? ⟨B, i, none⟩ = some (.slice A n cp) := (HI.out.2.2.1.cell i).trans hv
      have HV := Lib.hid hv; clear hv
      go_wp2
      go_loopg [4] n (fun q v wr' => ∃ k : Nat, q + k = n ∧ v = .int .i64 k ∧ Hid (P1 wr' 0 89 vs MI i k ∧ Pre wr' 0 89 4 vs ∧ Blk wr' B 56 vs ∧ But (S vs) w wr' ∧ wr'.heap.size = w.heap.size))
      case atStart => exact ⟨0, by simp, rfl, HI.out⟩
      case round =>
        clear hc
        obtain ⟨k, hk, rfl, HK⟩ := hrel
        have hc : wr.cell? ⟨B, i, none⟩ = some (.slice A n cp) := (HK.out.2.2.1.cell i).trans HV.out
        by_cases hkn : k < n
        · obtain ⟨xs, hx⟩ := HK.out.2.1.own i _ HV.out
          obtain ⟨g, rfl, hbg, cur, hcur, hcl, _⟩ := Fr.own_some hx (show 0 < n by omega)
          have hfz0 := hcur.frozen (k * 4)
          have hfz1 := hcur.frozen (k * 4 + 1)
          have hfz2 := hcur.frozen (k * 4 + 2)
          have hfz3 := hcur.frozen (k * 4 + 3)
          obtain ⟨old0, hold0⟩ : ∃ old, wr.cell? ⟨g, k * 4, none⟩ = some old := ⟨_, (hcur.cell (k * 4)).trans (List.getElem?_eq_getElem (by omega))⟩
          obtain ⟨old1, hold1⟩ : ∃ old, wr.cell? ⟨g, k * 4 + 1, none⟩ = some old := ⟨_, (hcur.cell (k * 4 + 1)).trans (List.getElem?_eq_getElem (by omega))⟩
          obtain ⟨old2, hold2⟩ : ∃ old, wr.cell? ⟨g, k * 4 + 2, none⟩ = some old := ⟨_, (hcur.cell (k * 4 + 2)).trans (List.getElem?_eq_getElem (by omega))⟩
          obtain ⟨old3, hold3⟩ : ∃ old, wr.cell? ⟨g, k * 4 + 3, none⟩ = some old := ⟨_, (hcur.cell (k * 4 + 3)).trans (List.getElem?_eq_getElem (by omega))⟩
          clear hx hcur hcl
          go_wp2
          have hst := Pre.hid_put HK.out.1 HK.out.2.1 HV.out hkn HK.out.2.2.1 (by decide) HK.out.2.2.2.1 (.string ⟨#[]⟩) (.int .i64 0) (.int .i64 0)
          go_roundg (n - (k + 1))
          case measure => omega
          case rel => exact ⟨k + 1, by omega, by go_num, hst.1, hst.2.1, hst.2.2.1, hst.2.2.2.1, hst.2.2.2.2.trans HK.out.2.2.2.2⟩
        · go_wp2
          have hnx := P1.next HK.out.1 HV.out (show k = slen (.slice A n cp) by rw [slen_slice]; omega)
          go_roundg (vs.length - (i + 1))
          case measure => omega
          case rel => exact ⟨i + 1, by omega, by go_num, hnx, HK.out.2⟩
    · obtain rfl : i = vs.length := by omega
      have H2 : Hid (P2 wr 0 89 w.heap.size vs MI GI 20 [] ∧ wr.ownsRow 0 56 1 (.slice none 0 0) 0 [] ∧ Blk wr B 56 vs ∧ But (S vs) w wr ∧ w.heap.size ≤ wr.heap.size ∧ (∀ b, (Value.slice none 0 0).ownBlock = some b → w.heap.size ≤ b)) :=
        ⟨P2.begin HI.out.1 HI.out.2.1 HI.out.2.2.2.2.symm, World.ownsRow_nil _ _ _ _, HI.out.2.2.1, HI.out.2.2.2.1, Nat.le_of_eq HI.out.2.2.2.2.symm, by simp [Value.ownBlock]⟩
      clear HI
      go_wp2
      go_loopg [5, 6] vs.length (fun q v5 v6 wr => ∃ gs : List Value, q + gs.length = vs.length ∧ v6 = .int .i64 gs.length ∧ Hid (P2 wr 0 89 w.heap.size vs MI GI 20 gs ∧ wr.ownsRow 0 56 1 v5 gs.length gs ∧ Blk wr B 56 vs ∧ But (S vs) w wr ∧ w.heap.size ≤ wr.heap.size ∧ (∀ b, v5.ownBlock = some b → w.heap.size ≤ b)))
      case atStart => exact ⟨[], by simp, rfl, H2⟩
      case round =>
        clear H2
        obtain ⟨gs, hgs, rfl, HI⟩ := hrel
        by_cases hlt : gs.length < vs.length
        · obtain ⟨v, hv⟩ : ∃ v, vs[gs.length]? = some v := ⟨_, List.getElem?_eq_getElem hlt⟩
          obtain ⟨zs, hz, _⟩ := HI.out.1.full _ v hv
          obtain ⟨A, n, cp, rfl⟩ := own_form' hz
          clear hz
          have hsl : n ≤ 4000000 := HS.out _ (List.mem_of_getElem? hv)
          have hc : wr.cell? ⟨B, gs.length, none⟩ = some (.slice A n cp) := (HI.out.2.2.1.cell _).trans hv
          have HV := Lib.hid hv; clear hv
          have H3 : Hid ((∃ xs ys, P3 wr 0 89 w.heap.size vs MI GI 20 gs (.slice A n cp) (.slice A n cp) wr.heap.size 0 xs ys) ∧ wr.ownsRow 0 56 1 u5 gs.length gs ∧ Blk wr B 56 vs ∧ But (S vs) w wr ∧ (∀ b, u5.ownBlock = some b → w.heap.size ≤ b)) :=
            ⟨(P3.begin HI.out.1 HI.out.2.2.2.2.1 HV.out).elim fun xs h => ⟨xs, [], h⟩, HI.out.2.1, HI.out.2.2.1, HI.out.2.2.2.1, HI.out.2.2.2.2.2⟩
          obtain ⟨HH, hHH⟩ : ∃ HH, HH = wr.heap.size := ⟨_, rfl⟩
          rw [← hHH] at H3
          clear hHH
          go_wp2
          clear HI hc
          go_loopg [7, 8] 20 (fun q v7 v8 wr' => ∃ k : Nat, q + k = 20 ∧ v8 = .int .i64 k ∧ Hid ((∃ xs ys, P3 wr' 0 89 w.heap.size vs MI GI 20 gs (.slice A n cp) v7 HH k xs ys) ∧ wr'.ownsRow 0 56 1 u5 gs.length gs ∧ Blk wr' B 56 vs ∧ But (S vs) w wr' ∧ (∀ b, u5.ownBlock = some b → w.heap.size ≤ b)))
          case atStart => exact ⟨0, by simp, rfl, H3⟩
          case round =>
            clear H3
            obtain ⟨k, hk, rfl, HK0⟩ := hrel
            obtain ⟨⟨xs3, ys3, hp3⟩, hk4⟩ := HK0.out
            have HK := Lib.hid (And.intro hp3 hk4)
            clear HK0 hp3 hk4
            by_cases hk20 : k < 20
            · have hbw' : 0 ≤ wr.heap.size := Nat.zero_le _
              go_wp2_with (first
                | (at_builtin; refine X.append1 rfl (.tmp 51) (.tmp 55) 56 89 rfl 0 _ 4 40 Try.underlying56 info89 rfl u7 (n + k) _ rfl HK.out.1.own [.string ⟨#[]⟩, .int .i64 0, .int .i64 0, .int .i64 (-100000 - (gs.length : Int))] rfl rfl ?_ ?_ ?_ hbw' ?_)
                | fail)
              · intro u hu; simp at hu; rcases hu with rfl | rfl | rfl <;> rfl
              · simp only [maxLen]; omega
              · omega
              · intro x' w1 ho ha
                try rw [← List.append_assoc] at ho
                have H4 : Hid ((∃ xs ys, P3 w1 0 89 w.heap.size vs MI GI 20 gs (.slice A n cp) x' HH (k + 1) xs ys) ∧ w1.ownsRow 0 56 1 u5 gs.length gs ∧ Blk w1 B 56 vs ∧ But (S vs) w w1 ∧ (∀ b, u5.ownBlock = some b → w.heap.size ≤ b)) := by
                  have hx := HK.out.1.own
                  refine ⟨⟨_, _, HK.out.1.step HV.out ho ha⟩, ha.keeps _ _ _ _ _ _ (HK.out.2.1.alloc _) ?_, ha.keeps_lt (HK.out.2.2.1.grown (World.grownBy_alloc _ _ none) (by simp)) ?_, ?_, HK.out.2.2.2.2⟩
                  · rcases own_type_ne HK.out.2.1 hx (by decide) with h1 | h1
                    · exact .inl h1
                    · exact .inr (.inl h1)
                  · intro e
                    obtain ⟨cells, hcs⟩ := own_typed hx B e.symm
                    exact HK.out.2.2.1.ne (show Blk wr B 89 cells.toList by simpa [Blk] using hcs) (by decide) rfl
                  · exact (HK.out.2.2.2.1.alloc _).grown ha.grown (fun b hb => HK.out.1.place.elim (fun hp => .inl ⟨_, List.mem_of_getElem? HV.out, hp.symm.trans hb⟩) (fun ⟨b', hp, hle⟩ => .inr (by rw [hp] at hb; have := HK.out.1.hH; have := Option.some.inj hb; omega)))
                clear ho ha
                go_wp2
                go_roundg (20 - (k + 1))
                case measure => omega
                case rel => exact ⟨k + 1, by omega, by go_num, H4⟩
            · obtain rfl : k = 20 := by omega
              have hbw' : 0 ≤ wr.heap.size := Nat.zero_le _
              obtain ⟨A', c', e7⟩ := Fr.own_form HK.out.1.own
              rw [slen_slice] at e7
              subst e7
              go_wp2_with (first
                | (at_builtin; refine X.append1 rfl (.tmp 57) (.tmp 59) 66 56 rfl 0 (.slice none 0 0) 1 24 Try.underlying66 info56 rfl u5 gs.length _ rfl HK.out.2.1 [(Value.slice A' (n + 20) c')] rfl rfl ?_ ?_ ?_ hbw' ?_)
                | fail)
              · intro u hu; simp at hu; subst hu; rfl
              · simp only [maxLen]; omega
              · omega
              · intro g' w1 ho ha
                have H4 : Hid (P2 w1 0 89 w.heap.size vs MI GI 20 (gs ++ [(Value.slice A' (n + 20) c')]) ∧ w1.ownsRow 0 56 1 g' (gs ++ [(Value.slice A' (n + 20) c')]).length (gs ++ [(Value.slice A' (n + 20) c')]) ∧ Blk w1 B 56 vs ∧ But (S vs) w w1 ∧ w.heap.size ≤ w1.heap.size ∧ (∀ b, g'.ownBlock = some b → w.heap.size ≤ b)) := by
                  have hsz := HK.out.2.2.2.1.size
                  have hd := (HK.out.1.done HV.out).keep (World.grownBy_alloc wr (.cells #[(Value.slice A' (n + 20) c')] 56) none) (fun _ _ _ u _ _ _ _ => by cases u.ownBlock <;> simp)
                  refine ⟨hd.keep ha.grown fun b e' sz u k ys he' hu => ?_, by rw [List.length_append, List.length_singleton]; exact ho, ha.keeps_lt (HK.out.2.2.1.grown (World.grownBy_alloc _ _ none) (by simp)) ?_, ?_, ?_, ?_⟩
                  · subst he'
                    exact own_type_ne hu (HK.out.2.1.alloc _) (by decide)
                  · intro e
                    have := HK.out.2.2.2.2 B e.symm
                    have := HB.out.lt
                    omega
                  · exact (HK.out.2.2.2.1.alloc _).grown ha.grown (fun b hb => .inr (HK.out.2.2.2.2 b hb))
                  · have := ha.grown.size
                    simp at this
                    omega
                  · intro b hb
                    rcases ha.place with hp | ⟨hp, _⟩
                    · exact HK.out.2.2.2.2 b (hp.symm.trans hb)
                    · rw [hp] at hb
                      simp at hb
                      omega
                clear ho ha
                go_wp2
                go_roundg (vs.length - (gs ++ [(Value.slice A' (n + 20) c')]).length)
                case measure => simp; omega
                case rel => exact ⟨gs ++ [(Value.slice A' (n + 20) c')], by simp; omega, by simp, H4⟩
        · have HN0 : Hid (gs.length = vs.length) := by show _ = _; omega
          go_wp2
          go_loopg [9, 10] vs.length (fun q vok v9 wr => ∃ i : Nat, q + i = vs.length ∧ vok = .bool true ∧ v9 = .int .i64 i ∧ Hid (P2 wr 0 89 w.heap.size vs MI GI 20 gs ∧ wr.ownsRow 0 56 1 u5 gs.length gs ∧ Blk wr B 56 vs ∧ But (S vs) w wr))
          case atStart => exact ⟨0, by simp, rfl, rfl, HI.out.1, HI.out.2.1, HI.out.2.2.1, HI.out.2.2.2.1⟩
          case round =>
            clear HI
            obtain ⟨i, hi, rfl, rfl, HI⟩ := hrel
            by_cases hlt : i < vs.length
            · have hN := HN0.out
              obtain ⟨v, hv⟩ : ∃ v, vs[i]? = some v := ⟨_, List.getElem?_eq_getElem hlt⟩
              obtain ⟨u, hu⟩ : ∃ u, gs[i]? = some u := ⟨_, List.getElem?_eq_getElem (by omega)⟩
              obtain ⟨zs, hfull, hzm⟩ := HI.out.1.full i v hv
              obtain ⟨⟨xs, ys, hgrew, hxl, hxm, hym⟩, _⟩ := HI.out.1.grew i v u hv hu
              obtain ⟨A, n, cp, rfl⟩ := own_form' hfull
              rw [slen_slice] at hgrew hfull hzm hxl hxm
              obtain ⟨A', cu, rfl⟩ := Fr.own_form hgrew
              obtain ⟨ga, rfl, _, cur, hcur, hcl, hct⟩ := Fr.own_some hgrew (by omega)
              obtain ⟨Ag, cg, e5⟩ := Fr.own_form HI.out.2.1
              obtain ⟨gb, eg, _, gcur, hgcur, hgl, hgt⟩ := Fr.own_some (e5 ▸ HI.out.2.1) (by omega)
              subst e5
              subst eg
              have hsl : n ≤ 4000000 := HS.out _ (List.mem_of_getElem? hv)
              have hc : wr.cell? ⟨B, i, none⟩ = some (.slice A n cp) := (HI.out.2.2.1.cell _).trans hv
              have hg : wr.cell? ⟨gb, i, none⟩ = some (.slice (some ⟨ga, 0, none⟩) (n + 20) cu) := by
                rw [hgcur.cell, ← hu, ← hgt, List.getElem?_take, if_pos (by omega)]
              have HX : ∀ k, k < n + 20 → wr.cell? ⟨ga, k * 4 + 3, none⟩ = some (if k < n then MI i else GI i) := by
                intro k hk
                rw [hcur.cell]
                have h1 : (cur.take ((n + 20) * 4))[k * 4 + 3]? = cur[k * 4 + 3]? := by rw [List.getElem?_take, if_pos (by omega)]
                rw [← h1, hct]
                by_cases hkn : k < n
                · rw [if_pos hkn, List.getElem?_append_left (by omega)]
                  exact hxm k hkn
                · rw [if_neg hkn, List.getElem?_append_right (by omega), hxl, show k * 4 + 3 - n * 4 = (k - n) * 4 + 3 by omega]
                  exact hym (k - n) (by omega)
              have HY : ∀ k, k < n → ∃ g0, A = some ⟨g0, 0, none⟩ ∧ wr.cell? ⟨g0, k * 4 + 3, none⟩ = some (MI i) := by
                intro k hk
                obtain ⟨g0, e0, _, cur0, hcur0, hcl0, hct0⟩ := Fr.own_some hfull (by omega)
                refine ⟨g0, e0, ?_⟩
                have h1 : (cur0.take (n * 4))[k * 4 + 3]? = cur0[k * 4 + 3]? := by rw [List.getElem?_take, if_pos (by omega)]
                rw [hcur0.cell, ← h1, hct0]
                exact hzm k hk
              have HX' := Lib.hid HX; clear HX
              have HY' := Lib.hid HY; clear HY
              clear hv hu hfull hgrew hcur hcl hct hgcur hgl hgt hzm hxl hxm hym
              clear hN
              clear HN0
              go_wp2
              go_loopg [9, 11] (n + 20) (fun q vok v10 wr' => ∃ k : Nat, q + k = n + 20 ∧ vok = .bool true ∧ v10 = .int .i64 k ∧ wr' = wr)
              case atStart => exact ⟨0, by simp, rfl, rfl, rfl⟩
              case round =>
                obtain ⟨k, hk, rfl, rfl, rfl⟩ := hrel
                by_cases hk20 : k < n + 20
                · have hx := HX'.out k hk20
                  by_cases hkn : k < n
                  · rw [if_pos hkn] at hx
                    have hx' : wr.cell? ⟨ga, k * 4 + 3, none⟩ = some (.int .i64 (-1 - (i : Int))) := hx
                    obtain ⟨g0, rfl, hy⟩ := HY'.out k hkn
                    have hy' : wr.cell? ⟨g0, k * 4 + 3, none⟩ = some (.int .i64 (-1 - (i : Int))) := hy
                    have hge : ¬ (n : Int) ≤ (k : Int) := by omega
                    clear hx hy
                    go_wp2
                    go_roundg (n + 20 - (k + 1))
                    case measure => omega
                    case rel => exact ⟨k + 1, by omega, by first | rfl | simp, by go_num, rfl⟩
                  · rw [if_neg hkn] at hx
                    have hx' : wr.cell? ⟨ga, k * 4 + 3, none⟩ = some (.int .i64 (-100000 - (i : Int))) := hx
                    have hge : (n : Int) ≤ (k : Int) := by omega
                    clear hx
                    go_wp2
                    go_roundg (n + 20 - (k + 1))
                    case measure => omega
                    case rel => exact ⟨k + 1, by omega, by first | rfl | simp, by go_num, rfl⟩
                · go_wp2
                  go_roundg (vs.length - (i + 1))
                  case measure => omega
                  case rel => exact ⟨i + 1, by omega, rfl, by go_num, HI.out⟩
            · go_wp2
              go_ret
              exact ⟨rfl, HI.out.2.2.2⟩
end Go.Proofs.Ytmikgaphknbcaaa.B
/- What a derivation derives, plainly: what derive.Outcome and dowelref13.Outcome answer. -/
namespace Go.Proofs.Ytmikgaphknbcaaa.B
open Go Go.RowKit Go.X Go.Proofs.YtmikgaphknbcaaaW.PrintWords Go.Proofs.Ytmikgaphknbcaaa.F

def inR (rs : List S34) (x : S79) : Bool := decide (0 ≤ x.f0 ∧ x.f0 < rs.length ∧ 0 ≤ x.f1 ∧ x.f1 < ((rl rs x.f0.toNat).f2.length : Int))
/-- Does the derivation fit the grammar? -/
def outOK (us : List S69) (rs : List S34) (xs : List S79) : Bool := decide (checkCode us rs = 0) && (isTr (kk xs) && xs.all (inR rs))
def outCode (us : List S69) (rs : List S34) (xs : List S79) : Int := if outOK us rs xs = true then 0 else if checkCode us rs = 0 then 130 else 6
def outKd (us : List S69) (rs : List S34) (xs : List S79) : Int := if outOK us rs xs = true then (st xs 0).f3 else 0
def outEnd (us : List S69) (rs : List S34) (xs : List S79) : Int := if outOK us rs xs = true then (st xs 0).f4 else 0
def outLb (us : List S69) (rs : List S34) (xs : List S79) : ByteArray := if outOK us rs xs = true then (st xs 0).f5 else ⟨#[]⟩
def outFor (us : List S69) (rs : List S34) (xs : List S79) : List S89 := if outOK us rs xs = true then (fo rs xs xs.length 0).1 else []
/-- What both answer: kind, end, label, and the forest in memory of its own. -/
def OutAns (w : World) (us : List S69) (rs : List S34) (xs : List S79) (e : Ending) (w' : World) : Prop :=
  ∃ v', e = .returned (.tuple #[.agg #[.int .i64 (outKd us rs xs), .int .i64 (outEnd us rs xs), .string (outLb us rs xs), v'], .int .i64 (outCode us rs xs)]) ∧ GR w w' v' (outFor us rs xs)
theorem out_bad {us : List S69} {rs : List S34} {xs : List S79} (h : outOK us rs xs = false) : outKd us rs xs = 0 ∧ outEnd us rs xs = 0 ∧ outLb us rs xs = ⟨#[]⟩ ∧ outFor us rs xs = [] := by
  simp [outKd, outEnd, outLb, outFor, h]
/-- A refusal. -/
theorem OutAns.bad {w w' : World} {us : List S69} {rs : List S34} {xs : List S79} {c : Int} (h : outOK us rs xs = false) (hc : c = if checkCode us rs = 0 then 130 else 6) (hb : Below w.heap.size w w') :
    OutAns w us rs xs (.returned (.tuple #[.agg #[.int .i64 0, .int .i64 0, .string ⟨#[]⟩, .slice none 0 0], .int .i64 c])) w' := by
  obtain ⟨e1, e2, e3, e4⟩ := out_bad h
  refine ⟨.slice none 0 0, ?_, by rw [e4]; exact GR.nil hb⟩
  rw [e1, e2, e3, outCode, h, hc]
  rfl
theorem OutAns.good {w w' : World} {us : List S69} {rs : List S34} {xs : List S79} {v : Value} (h : outOK us rs xs = true) (hg : GR w w' v (fo rs xs xs.length 0).1) :
    OutAns w us rs xs (.returned (.tuple #[.agg #[.int .i64 (st xs 0).f3, .int .i64 (st xs 0).f4, .string (st xs 0).f5, v], .int .i64 0])) w' := by
  refine ⟨v, ?_, ?_⟩
  · rw [outKd, outEnd, outLb, outCode, h]; rfl
  · rw [outFor, h]; exact hg
/-- No node of a grammar that Check lets pass has more parts than nodes. -/
theorem few_of_check {us : List S69} {rs : List S34} (h : checkCode us rs = 0) (hok : GramOK us rs) : ∀ x ∈ rs, ∀ i, i < x.f2.length → (nd x.f2 i).f1 ≤ 1048576 := by
  intro x hx i hi
  have h1 : rs.all ruleOK = true := by
    rw [checkCode] at h
    by_cases h2 : rs.all ruleOK = true
    · exact h2
    · have h3 : rs.all ruleOK = false := by simpa using h2
      rw [h3] at h
      revert h
      split
      · omega
      · split
        · omega
        · split
          · omega
          · simp
  have h2 := List.all_eq_true.1 h1 x hx
  rw [ruleOK, Bool.and_eq_true, shapedOK, Bool.and_eq_true] at h2
  have h3 := tree_parts h2.2.2 hi
  have h4 := (hok.2.2 x hx).2
  omega
theorem isTr_pos {ks : List Int} (h : isTr ks = true) : 0 < ks.length := by
  match ks, h with
  | [], h => simp [isTr, way] at h
  | _ :: _, _ => simp
theorem rng_of {rs : List S34} {xs : List S79} (h : xs.all (inR rs) = true) : ∀ i, i < xs.length → 0 ≤ (st xs i).f0 ∧ (st xs i).f0 < rs.length ∧ 0 ≤ (st xs i).f1 ∧ (st xs i).f1 < ((rl rs (st xs i).f0.toNat).f2.length : Int) := by
  intro i hi
  have := List.all_eq_true.1 h (st xs i) (by rw [st, List.getD_eq_getElem?_getD, List.getElem?_eq_getElem hi]; exact List.getElem_mem hi)
  simpa [inR] using this
/-- One step more that is within the grammar, or one that is not. -/
theorem inR_step {rs : List S34} {xs : List S79} {k : Nat} (hk : k < xs.length) (h : (xs.drop k).all (inR rs) = xs.all (inR rs)) :
    (inR rs (st xs k) = true → (xs.drop (k + 1)).all (inR rs) = xs.all (inR rs)) ∧ (inR rs (st xs k) = false → xs.all (inR rs) = false) := by
  have e : xs.drop k = st xs k :: xs.drop (k + 1) := by
    rw [List.drop_eq_getElem_cons hk, st, List.getD_eq_getElem?_getD, List.getElem?_eq_getElem hk]; rfl
  rw [e, List.all_cons] at h
  constructor
  · intro h1
    rw [h1, Bool.true_and] at h
    exact h
  · intro h1
    rw [h1, Bool.false_and] at h
    exact h.symm
theorem kids_at (ks : List Int) (j : Nat) : ∀ (k d : Nat), d < k → (kidsFrom ks k (j + 1))[d]? = some (nextKid ks j d)
  | 0, _, h => by omega
  | k + 1, d, h => by
    rw [kids_snoc]
    by_cases hd : d < k
    · rw [List.getElem?_append_left (by rw [kidsFrom_length]; exact hd)]
      exact kids_at ks j k d hd
    · obtain rfl : d = k := by omega
      rw [List.getElem?_append_right (by rw [kidsFrom_length]; exact Nat.le_refl _), kidsFrom_length, Nat.sub_self]
      rfl
/-- The rows of kids, as grown reads them. -/
theorem GG.of_kids {w w1 : World} {Ar Ap : Option Addr} {K : Nat} {rs : List S34} {xs : List S79} {vs : List Value} {rows : List (List Int)} {v : Value} {s : List Int}
    (hkw : KW w w1 K vs rows v s) (hrows : rows = (List.range xs.length).map (fun i => (kidsOf (kk xs) i).map fun n : Nat => (n : Int)))
    (hr : Kd.C k34 w1 Ar rs.length rs) (hx : Kd.C k79 w1 Ap xs.length xs) (ht : isTr (kk xs) = true) (rng : xs.all (inR rs) = true) (hn : xs.length ≤ 16384) : GG w1 Ar Ap K rs xs := by
  refine ⟨hr, hx, fun i hi => ?_, ?_, rng_of rng, hn⟩
  · have hrl : rows[i]? = some ((kidsOf (kk xs) i).map fun n : Nat => (n : Int)) := by rw [hrows, List.getElem?_map, List.getElem?_range hi]; rfl
    have hlen : i < vs.length := by rw [hkw.len, hrows]; simpa using hi
    obtain ⟨u, hu⟩ : ∃ u, vs[i]? = some u := ⟨_, List.getElem?_eq_getElem hlen⟩
    have ho := hkw.own i u _ hu hrl
    have hl : ((kidsOf (kk xs) i).map fun n : Nat => (n : Int)).length = ((kk xs).getD i 0).toNat := by rw [List.length_map, kidsOf, kidsFrom_length]
    rw [hl] at ho
    obtain ⟨a, c, hv⟩ := own_form ho
    subst hv
    refine ⟨a, c, ?_, fun d hd => ?_⟩
    · rw [hkw.blk.cell, hu]
    · have hg : (nums .i64 ((kidsOf (kk xs) i).map fun n : Nat => (n : Int)))[d]? = some (.int .i64 (nextKid (kk xs) i d : Nat)) := by
        rw [nums, List.getElem?_map, List.getElem?_map, kidsOf, kids_at _ _ _ _ hd]; rfl
      rcases ho.2 with ⟨h1, h2⟩ | ⟨g, cap, cur, h1, _⟩
      · rw [h2] at hd; omega
      · injection h1 with h1 h2 h3
        subst h1
        exact ⟨_, rfl, ho.cells rfl d _ hg⟩
  · rw [isTr, Bool.and_eq_true] at ht
    exact ht.2
def set4 (w : World) (b : Nat) (x0 x1 x2 x3 : Value) : World := (((w.setCell ⟨b, 0, none⟩ x0).setCell ⟨b, 1, none⟩ x1).setCell ⟨b, 2, none⟩ x2).setCell ⟨b, 3, none⟩ x3
theorem set4_blk {w : World} {b : Nat} {t : TypeId} {c0 c1 c2 c3 : Value} (h : Blk w b t [c0, c1, c2, c3]) (x0 x1 x2 x3 : Value) : Blk (set4 w b x0 x1 x2 x3) b t [x0, x1, x2, x3] :=
  (((h.setCell 0 x0).setCell 1 x1).setCell 2 x2).setCell 3 x3
theorem set4_below {B b : Nat} {w w' : World} (h : Below B w w') (hb : B ≤ b) (x0 x1 x2 x3 : Value) : Below B w (set4 w' b x0 x1 x2 x3) :=
  (((h.setCell (by exact hb) x0).setCell (by exact hb) x1).setCell (by exact hb) x2).setCell (by exact hb) x3
theorem set4_grown (w : World) (b : Nat) (x0 x1 x2 x3 : Value) : w.grownBy (set4 w b x0 x1 x2 x3) (some b) :=
  grown_trans (grown_trans (grown_trans (grown_setCell w _ _) (grown_setCell _ _ _) fun _ h => .inl h) (grown_setCell _ _ _) fun _ h => .inl h) (grown_setCell _ _ _) fun _ h => .inl h
theorem GR.set4 {w wr : World} {v : Value} {L : List S89} {b : Nat} {cs : List Value} {t : TypeId} (h : GR w wr v L) (hb : Blk wr b t cs) (ht : t ≠ 89) (hw : w.heap.size ≤ b) (x0 x1 x2 x3 : Value) : GR w (set4 wr b x0 x1 x2 x3) v L :=
  ⟨set4_below h.bel hw _ _ _ _, h.own.kept (set4_grown _ _ _ _ _ _) (.inr (own_ne89 h.own hb ht))⟩
theorem GR.set1 {w wr : World} {v : Value} {L : List S89} {b : Nat} {cs : List Value} {t : TypeId} (h : GR w wr v L) (hb : Blk wr b t cs) (ht : t ≠ 89) (hw : w.heap.size ≤ b) (i : Nat) (x : Value) : GR w (wr.setCell ⟨b, i, none⟩ x) v L :=
  ⟨h.bel.setCell (by exact hw) _, h.own.kept (grown_setCell _ _ _) (.inr (own_ne89 h.own hb ht))⟩
/-- A refusal, as it is stored and read back. -/
structure Zero58 (w wr : World) (Au Ar : Option Addr) (nu nr cu cr : Nat) : Prop where
  bel : Below w.heap.size w wr
  box : Blk wr w.heap.size 26 [.slice Au nu cu, .slice Ar nr cr]
  res : Blk wr (w.heap.size + 1) 58 [.int .i64 0, .int .i64 0, .string ⟨#[]⟩, .slice none 0 0]
theorem Zero58.below {w wr w' : World} {Au Ar : Option Addr} {nu nr cu cr : Nat} (h : Zero58 w wr Au Ar nu nr cu cr) (hb : Below wr.heap.size wr w') : Zero58 w w' Au Ar nu nr cu cr :=
  ⟨h.bel.trans (hb.mono h.bel.size), h.box.below hb h.box.lt, h.res.below hb h.res.lt⟩
theorem Zero58.start (w : World) (Au Ar : Option Addr) (nu nr cu cr : Nat) : Zero58 w ((w.alloc (.cells #[.slice Au nu cu, .slice Ar nr cr] 26)).alloc (.cells #[.int .i64 0, .int .i64 0, .string ⟨#[]⟩, .slice none 0 0] 58)) Au Ar nu nr cu cr :=
  ⟨((Below.refl _ w).alloc (Nat.le_refl _) _).alloc (by simp) _, (Blk.alloc w _ _).grown (World.grownBy_alloc _ _ none) (by simp), by
    have := Blk.alloc (w.alloc (.cells #[.slice Au nu cu, .slice Ar nr cr] 26)) #[.int .i64 0, .int .i64 0, .string ⟨#[]⟩, .slice none 0 0] 58
    simpa using this⟩
theorem Zero58.cells {w wr : World} {Au Ar : Option Addr} {nu nr cu cr : Nat} (h : Zero58 w wr Au Ar nu nr cu cr) :
    (wr.cell? ⟨w.heap.size, 0, none⟩ = some (.slice Au nu cu) ∧ wr.cell? ⟨w.heap.size, 1, none⟩ = some (.slice Ar nr cr)) ∧
    (wr.cell? ⟨w.heap.size + 1, 0, none⟩ = some (.int .i64 0) ∧ wr.cell? ⟨w.heap.size + 1, 1, none⟩ = some (.int .i64 0) ∧ wr.cell? ⟨w.heap.size + 1, 2, none⟩ = some (.string ⟨#[]⟩) ∧ wr.cell? ⟨w.heap.size + 1, 3, none⟩ = some (.slice none 0 0)) ∧
    (wr.frozen? ⟨w.heap.size + 1, 0, none⟩ = false ∧ wr.frozen? ⟨w.heap.size + 1, 1, none⟩ = false ∧ wr.frozen? ⟨w.heap.size + 1, 2, none⟩ = false ∧ wr.frozen? ⟨w.heap.size + 1, 3, none⟩ = false) :=
  ⟨⟨h.box.cell 0, h.box.cell 1⟩, ⟨h.res.cell 0, h.res.cell 1, h.res.cell 2, h.res.cell 3⟩, ⟨h.res.frozen 0, h.res.frozen 1, h.res.frozen 2, h.res.frozen 3⟩⟩
/-- What is read back behind a refusal. -/
theorem Zero58.bad {w wr wz : World} {Au Ar : Option Addr} {nu nr cu cr : Nat} (h : Zero58 w wr Au Ar nu nr cu cr) (e : wz = set4 wr (w.heap.size + 1) (.int .i64 0) (.int .i64 0) (.string ⟨#[]⟩) (.slice none 0 0)) :
    Below w.heap.size w wz ∧ wz.cell? ⟨w.heap.size + 1, 0, none⟩ = some (.int .i64 0) ∧ wz.cell? ⟨w.heap.size + 1, 1, none⟩ = some (.int .i64 0) ∧ wz.cell? ⟨w.heap.size + 1, 2, none⟩ = some (.string ⟨#[]⟩) ∧ wz.cell? ⟨w.heap.size + 1, 3, none⟩ = some (.slice none 0 0) := by
  subst e
  have hb := set4_blk h.res (.int .i64 0) (.int .i64 0) (.string ⟨#[]⟩) (.slice none 0 0)
  exact ⟨set4_below h.bel (by omega) _ _ _ _, hb.cell 0, hb.cell 1, hb.cell 2, hb.cell 3⟩
theorem ownsRow_low {w : World} {b b' n size : Nat} {e : TypeId} {v : Value} {xs : List Value} (h : w.ownsRow b e size v n xs) (hb : b' ≤ b) : w.ownsRow b' e size v n xs := by
  refine ⟨h.1, ?_⟩
  rcases h.2 with h1 | ⟨g, cap, cur, rfl, h1, h2⟩
  · exact .inl h1
  · exact .inr ⟨g, cap, cur, rfl, Nat.le_trans hb h1, h2⟩
/-- What forest leaves, from an empty row on. -/
theorem GR.of_FR {w wd wf : World} {v : Value} {L : List S89} (hb : Below w.heap.size w wd) (h : FR wd wf wd.heap.size (.slice none 0 0) v L) : GR w wf v L :=
  ⟨hb.grown h.grown hb.size (fun k hk => by cases hk), ownsRow_low h.own hb.size⟩
theorem FR.keeps {wd wf : World} {v : Value} {L : List S89} {b : Nat} {t : TypeId} {cs : List Value} (h : FR wd wf wd.heap.size (.slice none 0 0) v L) (hb : Blk wd b t cs) : Blk wf b t cs := hb.grown h.grown (by simp [Value.ownBlock])
theorem FG.of {w wd : World} {Ar Ap : Option Addr} {g : Nat} {us : List S69} {rs : List S34} {xs : List S79} (hb : Below w.heap.size w wd) (hr : Kd.C k34 w Ar rs.length rs) (hx : Kd.C k79 w Ap xs.length xs) (he : Blk wd g 3 (nums .i64 (endsOf (kk xs))))
    (ht : isTr (kk xs) = true) (hall : xs.all (inR rs) = true) (hc : checkCode us rs = 0) (hok : GramOK us rs) (hn : xs.length ≤ 16384) : FG wd Ar Ap g rs xs :=
  ⟨Kd.C_below hr hb, Kd.C_below hx hb, he, by rw [isTr, Bool.and_eq_true] at ht; exact ht.2, rng_of hall, few_of_check hc hok, hn⟩
end Go.Proofs.Ytmikgaphknbcaaa.B
/- derive.Outcome, walked. -/
namespace Go.Proofs.Ytmikgaphknbcaaa.B
open Go Go.RowKit Go.X Go.Proofs.YtmikgaphknbcaaaW.PrintWords Go.Proofs.Ytmikgaphknbcaaa.F

set_option maxRecDepth 100000 in
set_option maxHeartbeats 4000000 in
theorem Outcome.calls (Au Ar Ap : Option Addr) (cu cr cp : Nat) (us : List S69) (rs : List S34) (xs : List S79) (w : World) (hu : Kd.C k69 w Au us.length us) (hr : Kd.C k34 w Ar rs.length rs) (hx : Kd.C k79 w Ap xs.length xs)
    (hok : GramOK us rs) (ht : GramTexts us rs) (hn : xs.length ≤ 16384) (hsm : ∀ x ∈ xs, x.f6 ≤ 9223372036854775807) :
    Calls Try.prog 35 #[.agg #[.slice Au us.length cu, .slice Ar rs.length cr], .slice Ap xs.length cp] w (OutAns w us rs xs) := by
  have HU := Lib.hid hu; clear hu
  have HR := Lib.hid hr; clear hr
  have HX := Lib.hid hx; clear hx
  have HOK := Lib.hid hok; clear hok
  have HT := Lib.hid ht; clear ht
  have HN := Lib.hid hn; clear hn
  have HSM := Lib.hid hsm; clear hsm
  have m1 := HOK.out.1
  have m2 := HOK.out.2.1
  go_enter Try.func35, Try.ntmps35
  have HZ0 := Lib.hid (Zero58.start w Au Ar us.length rs.length cu cr)
  go_wp2_with (fail)
  refine (Check.calls Au Ar cu cr us rs _ (Kd.C_below HU.out HZ0.out.bel) (Kd.C_below HR.out HZ0.out.bel) HOK.out HT.out).mono ?_
  rintro e w1 ⟨rfl, hb⟩
  have HZ : Hid (Zero58 w w1 Au Ar us.length rs.length cu cr) := HZ0.out.below hb
  clear hb HZ0
  dsimp only
  by_cases hc : checkCode us rs = 0
  case neg =>
    have hcb : (checkCode us rs == (0 : Int)) = false := beq_eq_false_iff_ne.2 hc
    obtain ⟨_, ⟨d0, d1, d2, d3⟩, f0, f1, f2, f3⟩ := HZ.out.cells
    go_wp2
    clear d0 d1 d2 d3 f0 f1 f2 f3
    (try simp only [Exit.inBlock, Exit.then])
    show bodyPost _ _ _ _ _ (set4 w1 (w.heap.size + 1) (.int .i64 0) (.int .i64 0) (.string ⟨#[]⟩) (.slice none 0 0))
    obtain ⟨wz, hwz⟩ : ∃ wz, wz = set4 w1 (w.heap.size + 1) (.int .i64 0) (.int .i64 0) (.string ⟨#[]⟩) (.slice none 0 0) := ⟨_, rfl⟩
    rw [← hwz]
    obtain ⟨hbz, r0, r1, r2, r3⟩ := HZ.out.bad hwz
    refine bodyPost_ret (v := .tuple #[.agg #[.int .i64 0, .int .i64 0, .string ⟨#[]⟩, .slice none 0 0], .int .i64 6]) (by simp [results, Try.results35, go_sem, r0, r1, r2, r3]) rfl ?_
    exact OutAns.bad (by rw [outOK, decide_eq_false hc]; rfl) (by rw [if_neg hc]) hbz
  have HC := Lib.hid hc
  have hcb : (checkCode us rs == (0 : Int)) = true := by rw [hc]; rfl
  go_wp2_with (fail)
  clear hcb
  refine (tree13.calls Ap cp xs w1 (Kd.C_below HX.out HZ.out.bel) (by have := HN.out; omega) HSM.out).mono ?_
  rintro e w2 ⟨hb, h⟩
  have HZ2 : Hid (Zero58 w w2 Au Ar us.length rs.length cu cr) := HZ.out.below hb
  clear hb HZ
  rcases h with ⟨htr, g, rfl, hg, hbk⟩ | ⟨htr, z, hz, rfl⟩
  case inr =>
    dsimp only
    obtain ⟨_, ⟨d0, d1, d2, d3⟩, f0, f1, f2, f3⟩ := HZ2.out.cells
    go_wp2
    clear d0 d1 d2 d3 f0 f1 f2 f3
    (try simp only [Exit.inBlock, Exit.then])
    show bodyPost _ _ _ _ _ (set4 w2 (w.heap.size + 1) (.int .i64 0) (.int .i64 0) (.string ⟨#[]⟩) (.slice none 0 0))
    obtain ⟨wz, hwz⟩ : ∃ wz, wz = set4 w2 (w.heap.size + 1) (.int .i64 0) (.int .i64 0) (.string ⟨#[]⟩) (.slice none 0 0) := ⟨_, rfl⟩
    rw [← hwz]
    obtain ⟨hbz, r0, r1, r2, r3⟩ := HZ2.out.bad hwz
    refine bodyPost_ret (v := .tuple #[.agg #[.int .i64 0, .int .i64 0, .string ⟨#[]⟩, .slice none 0 0], .int .i64 130]) (by simp [results, Try.results35, go_sem, r0, r1, r2, r3]) rfl ?_
    exact OutAns.bad (by rw [outOK, htr, decide_eq_true HC.out]; rfl) (by rw [if_pos HC.out]) hbz
  have HTR := Lib.hid htr; clear htr
  rw [kk_length]
  have HE : Hid (Zero58 w w2 Au Ar us.length rs.length cu cr ∧ Blk w2 g 3 (nums .i64 (endsOf (kk xs)))) := ⟨HZ2.out, hbk⟩
  clear HZ2 hbk hg hc
  dsimp only
  go_wp2
  go_loopg [25] xs.length (fun q v wr => ∃ k : Nat, q + k = xs.length ∧ v = .int .i64 k ∧ Hid ((xs.drop k).all (inR rs) = xs.all (inR rs)) ∧ Hid (Zero58 w wr Au Ar us.length rs.length cu cr ∧ Blk wr g 3 (nums .i64 (endsOf (kk xs)))))
  case atStart => exact ⟨0, by simp, rfl, rfl, HE.out⟩
  case round =>
    clear HE
    obtain ⟨k, hk, rfl, HM, HI⟩ := hrel
    by_cases hlt : k < xs.length
    · have HST := Lib.hid (inR_step hlt HM.out)
      obtain ⟨ad, eA, c0, c1, c2, c3, c4, c5, c6⟩ := step_at (Kd.C_below HX.out HI.out.1.bel) k hlt
      subst eA
      obtain ⟨s, hs⟩ : ∃ s, st xs k = s := ⟨_, rfl⟩
      rw [hs] at c0 c1 c2 c3 c4 c5 c6 HST
      clear hs
      have HWA : ∀ wa : World, wa = wr.alloc (.cells #[.int .i64 s.f0, .int .i64 s.f1, .int .i64 s.f2, .int .i64 s.f3, .int .i64 s.f4, .string s.f5, .int .i64 s.f6] 79) →
          Hid (Zero58 w wa Au Ar us.length rs.length cu cr ∧ Blk wa g 3 (nums .i64 (endsOf (kk xs))) ∧ Blk wa wr.heap.size 79 [.int .i64 s.f0, .int .i64 s.f1, .int .i64 s.f2, .int .i64 s.f3, .int .i64 s.f4, .string s.f5, .int .i64 s.f6]) := by
        rintro wa rfl
        have hq : Below wr.heap.size wr (wr.alloc (.cells #[.int .i64 s.f0, .int .i64 s.f1, .int .i64 s.f2, .int .i64 s.f3, .int .i64 s.f4, .string s.f5, .int .i64 s.f6] 79)) := (Below.refl _ wr).alloc (Nat.le_refl _) _
        exact ⟨HI.out.1.below hq, HI.out.2.below hq HI.out.2.lt, Blk.alloc wr _ _⟩
      go_wp2
      generalize hwa : wr.alloc (.cells #[.int .i64 s.f0, .int .i64 s.f1, .int .i64 s.f2, .int .i64 s.f3, .int .i64 s.f4, .string s.f5, .int .i64 s.f6] 79) = wa
      have HA := HWA wa hwa.symm
      clear HWA hwa HI c0 c1 c2 c3 c4 c5 c6
      generalize wr.heap.size = bs at *
      have s0 : wa.cell? ⟨bs, 0, none⟩ = some (.int .i64 s.f0) := HA.out.2.2.cell 0
      have s1 : wa.cell? ⟨bs, 1, none⟩ = some (.int .i64 s.f1) := HA.out.2.2.cell 1
      have a1 : wa.cell? ⟨w.heap.size, 1, none⟩ = some (.slice Ar rs.length cr) := HA.out.1.cells.1.2
      by_cases h1 : s.f0 < 0
      · have g1 : decide (s.f0 < 0) = true := decide_eq_true h1
        have HALL : Hid (xs.all (inR rs) = false) := HST.out.2 (by rw [inR]; exact decide_eq_false (by omega))
        go_quiet (fail)
        have HQ : Hid (Zero58 w (wa.drewN nq) Au Ar us.length rs.length cu cr) := HA.out.1.below (Below.drewQ ⟨_, rfl⟩)
        generalize wa.drewN nq = wq at *
        clear HA s0 s1 a1
        obtain ⟨_, ⟨d0, d1, d2, d3⟩, f0, f1, f2, f3⟩ := HQ.out.cells
        go_wp2
        clear d0 d1 d2 d3 f0 f1 f2 f3
        (try simp only [Exit.inBlock, Exit.then])
        show bodyPost _ _ _ _ _ (set4 wq (w.heap.size + 1) (.int .i64 0) (.int .i64 0) (.string ⟨#[]⟩) (.slice none 0 0))
        obtain ⟨wz, hwz⟩ : ∃ wz, wz = set4 wq (w.heap.size + 1) (.int .i64 0) (.int .i64 0) (.string ⟨#[]⟩) (.slice none 0 0) := ⟨_, rfl⟩
        rw [← hwz]
        obtain ⟨hbz, r0, r1, r2, r3⟩ := HQ.out.bad hwz
        refine bodyPost_ret (v := .tuple #[.agg #[.int .i64 0, .int .i64 0, .string ⟨#[]⟩, .slice none 0 0], .int .i64 130]) (by simp [results, Try.results35, go_sem, r0, r1, r2, r3]) rfl ?_
        exact OutAns.bad (by rw [outOK, HALL.out, Bool.and_false, Bool.and_false]) (by rw [if_pos HC.out]) hbz
      have g1 : decide (s.f0 < 0) = false := decide_eq_false h1
      by_cases h2 : (rs.length : Int) ≤ s.f0
      · have g2 : decide ((rs.length : Int) ≤ s.f0) = true := decide_eq_true h2
        have HALL : Hid (xs.all (inR rs) = false) := HST.out.2 (by rw [inR]; exact decide_eq_false (by omega))
        go_quiet (fail)
        have HQ : Hid (Zero58 w (wa.drewN nq) Au Ar us.length rs.length cu cr) := HA.out.1.below (Below.drewQ ⟨_, rfl⟩)
        generalize wa.drewN nq = wq at *
        clear HA s0 s1 a1
        obtain ⟨_, ⟨d0, d1, d2, d3⟩, f0, f1, f2, f3⟩ := HQ.out.cells
        go_wp2
        clear d0 d1 d2 d3 f0 f1 f2 f3
        (try simp only [Exit.inBlock, Exit.then])
        show bodyPost _ _ _ _ _ (set4 wq (w.heap.size + 1) (.int .i64 0) (.int .i64 0) (.string ⟨#[]⟩) (.slice none 0 0))
        obtain ⟨wz, hwz⟩ : ∃ wz, wz = set4 wq (w.heap.size + 1) (.int .i64 0) (.int .i64 0) (.string ⟨#[]⟩) (.slice none 0 0) := ⟨_, rfl⟩
        rw [← hwz]
        obtain ⟨hbz, r0, r1, r2, r3⟩ := HQ.out.bad hwz
        refine bodyPost_ret (v := .tuple #[.agg #[.int .i64 0, .int .i64 0, .string ⟨#[]⟩, .slice none 0 0], .int .i64 130]) (by simp [results, Try.results35, go_sem, r0, r1, r2, r3]) rfl ?_
        exact OutAns.bad (by rw [outOK, HALL.out, Bool.and_false, Bool.and_false]) (by rw [if_pos HC.out]) hbz
      have g2 : decide ((rs.length : Int) ≤ s.f0) = false := decide_eq_false h2
      by_cases h3 : s.f1 < 0
      · have g3 : decide (s.f1 < 0) = true := decide_eq_true h3
        have HALL : Hid (xs.all (inR rs) = false) := HST.out.2 (by rw [inR]; exact decide_eq_false (by omega))
        go_quiet (fail)
        have HQ : Hid (Zero58 w (wa.drewN nq) Au Ar us.length rs.length cu cr) := HA.out.1.below (Below.drewQ ⟨_, rfl⟩)
        generalize wa.drewN nq = wq at *
        clear HA s0 s1 a1
        obtain ⟨_, ⟨d0, d1, d2, d3⟩, f0, f1, f2, f3⟩ := HQ.out.cells
        go_wp2
        clear d0 d1 d2 d3 f0 f1 f2 f3
        (try simp only [Exit.inBlock, Exit.then])
        show bodyPost _ _ _ _ _ (set4 wq (w.heap.size + 1) (.int .i64 0) (.int .i64 0) (.string ⟨#[]⟩) (.slice none 0 0))
        obtain ⟨wz, hwz⟩ : ∃ wz, wz = set4 wq (w.heap.size + 1) (.int .i64 0) (.int .i64 0) (.string ⟨#[]⟩) (.slice none 0 0) := ⟨_, rfl⟩
        rw [← hwz]
        obtain ⟨hbz, r0, r1, r2, r3⟩ := HQ.out.bad hwz
        refine bodyPost_ret (v := .tuple #[.agg #[.int .i64 0, .int .i64 0, .string ⟨#[]⟩, .slice none 0 0], .int .i64 130]) (by simp [results, Try.results35, go_sem, r0, r1, r2, r3]) rfl ?_
        exact OutAns.bad (by rw [outOK, HALL.out, Bool.and_false, Bool.and_false]) (by rw [if_pos HC.out]) hbz
      have g3 : decide (s.f1 < 0) = false := decide_eq_false h3
      obtain ⟨a2, A1, d1, A2, d2, eA2, _, _, e2, _, _, _, _⟩ := rule_at (Kd.C_below HR.out HA.out.1.bel) s.f0.toNat (by omega)
      subst eA2
      by_cases h4 : ((rl rs s.f0.toNat).f2.length : Int) ≤ s.f1
      · have g4 : decide (((rl rs s.f0.toNat).f2.length : Int) ≤ s.f1) = true := decide_eq_true h4
        have HALL : Hid (xs.all (inR rs) = false) := HST.out.2 (by rw [inR]; exact decide_eq_false (by omega))
        go_quiet (fail)
        have HQ : Hid (Zero58 w (wa.drewN nq) Au (some a2) us.length rs.length cu cr) := HA.out.1.below (Below.drewQ ⟨_, rfl⟩)
        generalize wa.drewN nq = wq at *
        clear HA s0 s1 a1 e2
        obtain ⟨_, ⟨d0, d1, d2, d3⟩, f0, f1, f2, f3⟩ := HQ.out.cells
        go_wp2
        clear d0 d1 d2 d3 f0 f1 f2 f3
        (try simp only [Exit.inBlock, Exit.then])
        show bodyPost _ _ _ _ _ (set4 wq (w.heap.size + 1) (.int .i64 0) (.int .i64 0) (.string ⟨#[]⟩) (.slice none 0 0))
        obtain ⟨wz, hwz⟩ : ∃ wz, wz = set4 wq (w.heap.size + 1) (.int .i64 0) (.int .i64 0) (.string ⟨#[]⟩) (.slice none 0 0) := ⟨_, rfl⟩
        rw [← hwz]
        obtain ⟨hbz, r0, r1, r2, r3⟩ := HQ.out.bad hwz
        refine bodyPost_ret (v := .tuple #[.agg #[.int .i64 0, .int .i64 0, .string ⟨#[]⟩, .slice none 0 0], .int .i64 130]) (by simp [results, Try.results35, go_sem, r0, r1, r2, r3]) rfl ?_
        exact OutAns.bad (by rw [outOK, HALL.out, Bool.and_false, Bool.and_false]) (by rw [if_pos HC.out]) hbz
      have g4 : decide (((rl rs s.f0.toNat).f2.length : Int) ≤ s.f1) = false := decide_eq_false h4
      have HNX : Hid ((xs.drop (k + 1)).all (inR rs) = xs.all (inR rs)) := HST.out.1 (by rw [inR]; exact decide_eq_true (by omega))
      go_quiet (fail)
      have HQ : Hid (Zero58 w (wa.drewN nq) Au (some a2) us.length rs.length cu cr ∧ Blk (wa.drewN nq) g 3 (nums .i64 (endsOf (kk xs)))) := ⟨HA.out.1.below (Below.drewQ ⟨_, rfl⟩), HA.out.2.1.below (Below.drewQ ⟨_, rfl⟩) HA.out.2.1.lt⟩
      generalize wa.drewN nq = wq at *
      clear HA s0 s1 a1 e2
      have hkw : wrap64 ((k : Int) + 1) = ((k + 1 : Nat) : Int) := by have := HN.out; rw [IntWalk.wrap64_in _ (by omega)]; rfl
      go_wp2
      go_roundg (xs.length - (k + 1))
      case measure => clear hkw; omega
      case rel => exact ⟨k + 1, by clear hkw; omega, by first | rfl | rw [hkw], HNX.out, HQ.out⟩
    · have HALL : Hid (xs.all (inR rs) = true) := by
        have := HM.out
        rw [List.drop_of_length_le (by omega)] at this
        exact this.symm
      have HPOS := Lib.hid (isTr_pos HTR.out)
      have hpos : 0 < xs.length := by have := HPOS.out; rwa [kk_length] at this
      obtain ⟨ad, eA, _, _, _, c3, c4, c5, _⟩ := step_at (Kd.C_below HX.out HI.out.1.bel) 0 hpos
      subst eA
      rw [Nat.zero_mul, Addr.add_zero'] at c3 c4 c5
      obtain ⟨s, hs⟩ : ∃ s, st xs 0 = s := ⟨_, rfl⟩
      rw [hs] at c3 c4 c5
      have HSI := Lib.hid hs; clear hs
      have h0l : (0 : Int) < (xs.length : Int) := by omega
      go_wp2
      go_region_held3 (fun w' => w'.cell? ⟨ad.block, ad.off + 3, none⟩ = some (.int .i64 s.f3) ∧ w'.cell? ⟨ad.block, ad.off + 4, none⟩ = some (.int .i64 s.f4) ∧ w'.cell? ⟨ad.block, ad.off + 5, none⟩ = some (.string s.f5))
        (first
          | go_keep)
        (first | fail)
      rename_i hHeld
      clear hHeld c3 c4 c5
      have HDD : ∀ wd : World, wd = (wr.alloc (.cells #[.int .i64 s.f3, .int .i64 s.f4, .string s.f5, .slice none 0 0] 58)).drew → Hid (Zero58 w wd Au Ar us.length rs.length cu cr ∧ Blk wd g 3 (nums .i64 (endsOf (kk xs))) ∧ Blk wd wr.heap.size 58 [.int .i64 s.f3, .int .i64 s.f4, .string s.f5, .slice none 0 0]) := by
        rintro wd rfl
        have hq : Below wr.heap.size wr (wr.alloc (.cells #[.int .i64 s.f3, .int .i64 s.f4, .string s.f5, .slice none 0 0] 58)).drew := ((Below.refl _ wr).alloc (Nat.le_refl _) _).drew
        exact ⟨HI.out.1.below hq, HI.out.2.below hq HI.out.2.lt, Blk.alloc wr _ _⟩
      generalize hwd : (wr.alloc (.cells #[.int .i64 s.f3, .int .i64 s.f4, .string s.f5, .slice none 0 0] 58)).drew = wd
      have HD := HDD wd hwd.symm
      have hbs : w.heap.size + 1 < wr.heap.size := HI.out.1.res.lt
      clear HDD hwd HI
      generalize wr.heap.size = bs at *
      have a0 : wd.cell? ⟨w.heap.size, 0, none⟩ = some (.slice Au us.length cu) := HD.out.1.cells.1.1
      have a1 : wd.cell? ⟨w.heap.size, 1, none⟩ = some (.slice Ar rs.length cr) := HD.out.1.cells.1.2
      have HFO := forest.calls (Au := Au) (nu := us.length) (cu := cu) (cr := cr) (cp := cp) (Lib.hid (FG.of HD.out.1.bel HR.out HX.out HD.out.2.1 HTR.out HALL.out HC.out HOK.out HN.out)) xs.length 0 (Nat.le_refl _) hpos wd (.slice none 0 0) [] (Below.refl _ _) (World.ownsRow_nil _ _ _ _)
        (by
          have h1 := en_le (ks := kk xs) (i := 0) (Nat.zero_le _)
          have h2 := HN.out
          rw [kk_length] at h1
          simp only [List.length_nil]
          omega)
      rw [Int.natCast_zero] at HFO
      have HFOR := Lib.hid HFO; clear HFO
      go_wp2_with (fail)
      refine HFOR.out.mono ?_
      rintro e wf ⟨v', rfl, hfr⟩
      rw [List.nil_append] at hfr
      obtain ⟨a7, c7, hv7⟩ := own_form hfr.own
      subst hv7
      have HF : Hid (GR w wf (.slice a7 (fo rs xs xs.length 0).1.length c7) (fo rs xs xs.length 0).1 ∧ Blk wf bs 58 [.int .i64 s.f3, .int .i64 s.f4, .string s.f5, .slice none 0 0] ∧ Blk wf (w.heap.size + 1) 58 [.int .i64 0, .int .i64 0, .string ⟨#[]⟩, .slice none 0 0]) :=
        ⟨GR.of_FR HD.out.1.bel hfr, hfr.keeps HD.out.2.2, hfr.keeps HD.out.1.res⟩
      clear hfr HD a0 a1 HFOR
      dsimp only
      generalize hfl : (fo rs xs xs.length 0).1.length = fl at *
      have e3 : wf.cell? ⟨bs, 3, none⟩ = some (.slice none 0 0) := HF.out.2.1.cell 3
      have f3 : wf.frozen? ⟨bs, 3, none⟩ = false := HF.out.2.1.frozen 3
      have e0 : wf.cell? ⟨bs, 0, none⟩ = some (.int .i64 s.f3) := HF.out.2.1.cell 0
      have e1 : wf.cell? ⟨bs, 1, none⟩ = some (.int .i64 s.f4) := HF.out.2.1.cell 1
      have e2 : wf.cell? ⟨bs, 2, none⟩ = some (.string s.f5) := HF.out.2.1.cell 2
      have d0 : wf.cell? ⟨w.heap.size + 1, 0, none⟩ = some (.int .i64 0) := HF.out.2.2.cell 0
      have d1 : wf.cell? ⟨w.heap.size + 1, 1, none⟩ = some (.int .i64 0) := HF.out.2.2.cell 1
      have d2 : wf.cell? ⟨w.heap.size + 1, 2, none⟩ = some (.string ⟨#[]⟩) := HF.out.2.2.cell 2
      have d3 : wf.cell? ⟨w.heap.size + 1, 3, none⟩ = some (.slice none 0 0) := HF.out.2.2.cell 3
      have g0 : wf.frozen? ⟨w.heap.size + 1, 0, none⟩ = false := HF.out.2.2.frozen 0
      have g1 : wf.frozen? ⟨w.heap.size + 1, 1, none⟩ = false := HF.out.2.2.frozen 1
      have g2 : wf.frozen? ⟨w.heap.size + 1, 2, none⟩ = false := HF.out.2.2.frozen 2
      have g3 : wf.frozen? ⟨w.heap.size + 1, 3, none⟩ = false := HF.out.2.2.frozen 3
      have hne : ¬ bs = w.heap.size + 1 := by omega
      have hne' : ¬ w.heap.size + 1 = bs := by omega
      go_wp2
      clear e0 e1 e2 e3 d0 d1 d2 d3 g0 g1 g2 g3 f3
      show bodyPost _ _ _ _ _ (set4 (wf.setCell ⟨bs, 3, none⟩ (.slice a7 fl c7)) (w.heap.size + 1) (.int .i64 s.f3) (.int .i64 s.f4) (.string s.f5) (.slice a7 fl c7))
      have HZZ : ∀ wz : World, wz = set4 (wf.setCell ⟨bs, 3, none⟩ (.slice a7 fl c7)) (w.heap.size + 1) (.int .i64 s.f3) (.int .i64 s.f4) (.string s.f5) (.slice a7 fl c7) →
          Hid (GR w wz (.slice a7 fl c7) (fo rs xs xs.length 0).1 ∧ Blk wz (w.heap.size + 1) 58 [.int .i64 s.f3, .int .i64 s.f4, .string s.f5, .slice a7 fl c7]) := by
        rintro wz rfl
        have hres : Blk (wf.setCell ⟨bs, 3, none⟩ (.slice a7 fl c7)) (w.heap.size + 1) 58 [.int .i64 0, .int .i64 0, .string ⟨#[]⟩, .slice none 0 0] := HF.out.2.2.grown (grown_setCell wf ⟨bs, 3, none⟩ _) (by simp; omega)
        exact ⟨(HF.out.1.set1 HF.out.2.1 (by decide) (by omega) 3 _).set4 hres (by decide) (by omega) _ _ _ _, set4_blk hres _ _ _ _⟩
      obtain ⟨wz, hwz⟩ : ∃ wz, wz = set4 (wf.setCell ⟨bs, 3, none⟩ (.slice a7 fl c7)) (w.heap.size + 1) (.int .i64 s.f3) (.int .i64 s.f4) (.string s.f5) (.slice a7 fl c7) := ⟨_, rfl⟩
      rw [← hwz]
      have HZ9 := HZZ wz hwz
      clear HZZ hwz
      have r0 : wz.cell? ⟨w.heap.size + 1, 0, none⟩ = some (.int .i64 s.f3) := HZ9.out.2.cell 0
      have r1 : wz.cell? ⟨w.heap.size + 1, 1, none⟩ = some (.int .i64 s.f4) := HZ9.out.2.cell 1
      have r2 : wz.cell? ⟨w.heap.size + 1, 2, none⟩ = some (.string s.f5) := HZ9.out.2.cell 2
      have r3 : wz.cell? ⟨w.heap.size + 1, 3, none⟩ = some (.slice a7 fl c7) := HZ9.out.2.cell 3
      refine bodyPost_ret (v := .tuple #[.agg #[.int .i64 s.f3, .int .i64 s.f4, .string s.f5, .slice a7 fl c7], .int .i64 0]) (by simp [results, Try.results35, go_sem, r0, r1, r2, r3]) rfl ?_
      have hgood := OutAns.good (us := us) (show outOK us rs xs = true by rw [outOK, decide_eq_true HC.out, HTR.out, HALL.out]; rfl) HZ9.out.1
      rw [HSI.out] at hgood
      exact hgood
end Go.Proofs.Ytmikgaphknbcaaa.B
/- dowelref13.Outcome, walked. -/
namespace Go.Proofs.Ytmikgaphknbcaaa.B
open Go Go.RowKit Go.X Go.Proofs.YtmikgaphknbcaaaW.PrintWords Go.Proofs.Ytmikgaphknbcaaa.F

set_option maxRecDepth 100000 in
set_option maxHeartbeats 4000000 in
theorem RefOutcome.calls (Au Ar Ap : Option Addr) (cu cr cp : Nat) (us : List S69) (rs : List S34) (xs : List S79) (w : World) (hu : Kd.C k69 w Au us.length us) (hr : Kd.C k34 w Ar rs.length rs) (hx : Kd.C k79 w Ap xs.length xs)
    (hok : GramOK us rs) (ht : GramTexts us rs) (hn : xs.length ≤ 16384) (hsm : ∀ x ∈ xs, x.f6 ≤ 9223372036854775807) :
    Calls Try.prog 36 #[.agg #[.slice Au us.length cu, .slice Ar rs.length cr], .slice Ap xs.length cp] w (OutAns w us rs xs) := by
  have HU := Lib.hid hu; clear hu
  have HR := Lib.hid hr; clear hr
  have HX := Lib.hid hx; clear hx
  have HOK := Lib.hid hok; clear hok
  have HT := Lib.hid ht; clear ht
  have HN := Lib.hid hn; clear hn
  have HSM := Lib.hid hsm; clear hsm
  have m1 := HOK.out.1
  have m2 := HOK.out.2.1
  go_enter Try.func36, Try.ntmps36
  have HZ0 := Lib.hid (Zero58.start w Au Ar us.length rs.length cu cr)
  go_wp2_with (fail)
  refine (CheckR.calls Au Ar cu cr us rs _ (Kd.C_below HU.out HZ0.out.bel) (Kd.C_below HR.out HZ0.out.bel) HOK.out HT.out).mono ?_
  rintro e w1 ⟨rfl, hb⟩
  have HZ : Hid (Zero58 w w1 Au Ar us.length rs.length cu cr) := HZ0.out.below hb
  clear hb HZ0
  dsimp only
  by_cases hc : checkCode us rs = 0
  case neg =>
    have hcb : (checkCode us rs == (0 : Int)) = false := beq_eq_false_iff_ne.2 hc
    obtain ⟨_, ⟨d0, d1, d2, d3⟩, f0, f1, f2, f3⟩ := HZ.out.cells
    go_wp2
    clear d0 d1 d2 d3 f0 f1 f2 f3
    (try simp only [Exit.inBlock, Exit.then])
    show bodyPost _ _ _ _ _ (set4 w1 (w.heap.size + 1) (.int .i64 0) (.int .i64 0) (.string ⟨#[]⟩) (.slice none 0 0))
    obtain ⟨wz, hwz⟩ : ∃ wz, wz = set4 w1 (w.heap.size + 1) (.int .i64 0) (.int .i64 0) (.string ⟨#[]⟩) (.slice none 0 0) := ⟨_, rfl⟩
    rw [← hwz]
    obtain ⟨hbz, r0, r1, r2, r3⟩ := HZ.out.bad hwz
    refine bodyPost_ret (v := .tuple #[.agg #[.int .i64 0, .int .i64 0, .string ⟨#[]⟩, .slice none 0 0], .int .i64 6]) (by simp [results, Try.results36, go_sem, r0, r1, r2, r3]) rfl ?_
    exact OutAns.bad (by rw [outOK, decide_eq_false hc]; rfl) (by rw [if_neg hc]) hbz
  have HC := Lib.hid hc
  have hcb : (checkCode us rs == (0 : Int)) = true := by rw [hc]; rfl
  go_wp2_with (fail)
  clear hcb
  refine (Broken.calls Ap cp xs w1 (Kd.C_below HX.out HZ.out.bel) (by have := HN.out; omega)).mono ?_
  rintro e w2 ⟨⟨z, rfl, hz⟩, hw2⟩
  have HZ2 : Hid (Zero58 w w2 Au Ar us.length rs.length cu cr) := by rw [hw2]; exact HZ.out
  clear hw2 HZ
  dsimp only
  by_cases hz0 : 0 ≤ z
  · have htr := hz.1 hz0
    obtain ⟨_, ⟨d0, d1, d2, d3⟩, f0, f1, f2, f3⟩ := HZ2.out.cells
    go_wp2
    clear d0 d1 d2 d3 f0 f1 f2 f3
    (try simp only [Exit.inBlock, Exit.then])
    show bodyPost _ _ _ _ _ (set4 w2 (w.heap.size + 1) (.int .i64 0) (.int .i64 0) (.string ⟨#[]⟩) (.slice none 0 0))
    obtain ⟨wz, hwz⟩ : ∃ wz, wz = set4 w2 (w.heap.size + 1) (.int .i64 0) (.int .i64 0) (.string ⟨#[]⟩) (.slice none 0 0) := ⟨_, rfl⟩
    rw [← hwz]
    obtain ⟨hbz, r0, r1, r2, r3⟩ := HZ2.out.bad hwz
    refine bodyPost_ret (v := .tuple #[.agg #[.int .i64 0, .int .i64 0, .string ⟨#[]⟩, .slice none 0 0], .int .i64 130]) (by simp [results, Try.results36, go_sem, r0, r1, r2, r3]) rfl ?_
    exact OutAns.bad (by rw [outOK, htr, decide_eq_true HC.out]; rfl) (by rw [if_pos HC.out]) hbz
  have htr : isTr (kk xs) = true := by
    cases h : isTr (kk xs)
    · exact absurd (hz.2 h) hz0
    · rfl
  clear hz
  have HTR := Lib.hid htr; clear htr
  have HE := HZ2
  clear HZ2 hc
  go_wp2
  go_loopg [6] xs.length (fun q v wr => ∃ k : Nat, q + k = xs.length ∧ v = .int .i64 k ∧ Hid ((xs.drop k).all (inR rs) = xs.all (inR rs)) ∧ Hid (Zero58 w wr Au Ar us.length rs.length cu cr))
  case atStart => exact ⟨0, by simp, rfl, rfl, HE.out⟩
  case round =>
    clear HE
    obtain ⟨k, hk, rfl, HM, HI⟩ := hrel
    by_cases hlt : k < xs.length
    · have HST := Lib.hid (inR_step hlt HM.out)
      obtain ⟨ad, eA, c0, c1, c2, c3, c4, c5, c6⟩ := step_at (Kd.C_below HX.out HI.out.bel) k hlt
      subst eA
      obtain ⟨s, hs⟩ : ∃ s, st xs k = s := ⟨_, rfl⟩
      rw [hs] at c0 c1 c2 c3 c4 c5 c6 HST
      clear hs
      have HWA : ∀ wa : World, wa = wr.alloc (.cells #[.int .i64 s.f0, .int .i64 s.f1, .int .i64 s.f2, .int .i64 s.f3, .int .i64 s.f4, .string s.f5, .int .i64 s.f6] 79) →
          Hid (Zero58 w wa Au Ar us.length rs.length cu cr ∧ Blk wa wr.heap.size 79 [.int .i64 s.f0, .int .i64 s.f1, .int .i64 s.f2, .int .i64 s.f3, .int .i64 s.f4, .string s.f5, .int .i64 s.f6]) := by
        rintro wa rfl
        have hq : Below wr.heap.size wr (wr.alloc (.cells #[.int .i64 s.f0, .int .i64 s.f1, .int .i64 s.f2, .int .i64 s.f3, .int .i64 s.f4, .string s.f5, .int .i64 s.f6] 79)) := (Below.refl _ wr).alloc (Nat.le_refl _) _
        exact ⟨HI.out.below hq, Blk.alloc wr _ _⟩
      go_wp2
      generalize hwa : wr.alloc (.cells #[.int .i64 s.f0, .int .i64 s.f1, .int .i64 s.f2, .int .i64 s.f3, .int .i64 s.f4, .string s.f5, .int .i64 s.f6] 79) = wa
      have HA := HWA wa hwa.symm
      clear HWA hwa HI c0 c1 c2 c3 c4 c5 c6
      generalize wr.heap.size = bs at *
      have s0 : wa.cell? ⟨bs, 0, none⟩ = some (.int .i64 s.f0) := HA.out.2.cell 0
      have s1 : wa.cell? ⟨bs, 1, none⟩ = some (.int .i64 s.f1) := HA.out.2.cell 1
      have a1 : wa.cell? ⟨w.heap.size, 1, none⟩ = some (.slice Ar rs.length cr) := HA.out.1.cells.1.2
      by_cases h1 : s.f0 < 0
      · have g1 : decide (s.f0 < 0) = true := decide_eq_true h1
        have HALL : Hid (xs.all (inR rs) = false) := HST.out.2 (by rw [inR]; exact decide_eq_false (by omega))
        go_quiet (fail)
        have HQ : Hid (Zero58 w (wa.drewN nq) Au Ar us.length rs.length cu cr) := HA.out.1.below (Below.drewQ ⟨_, rfl⟩)
        generalize wa.drewN nq = wq at *
        clear HA s0 s1 a1
        obtain ⟨_, ⟨d0, d1, d2, d3⟩, f0, f1, f2, f3⟩ := HQ.out.cells
        go_wp2
        clear d0 d1 d2 d3 f0 f1 f2 f3
        (try simp only [Exit.inBlock, Exit.then])
        show bodyPost _ _ _ _ _ (set4 wq (w.heap.size + 1) (.int .i64 0) (.int .i64 0) (.string ⟨#[]⟩) (.slice none 0 0))
        obtain ⟨wz, hwz⟩ : ∃ wz, wz = set4 wq (w.heap.size + 1) (.int .i64 0) (.int .i64 0) (.string ⟨#[]⟩) (.slice none 0 0) := ⟨_, rfl⟩
        rw [← hwz]
        obtain ⟨hbz, r0, r1, r2, r3⟩ := HQ.out.bad hwz
        refine bodyPost_ret (v := .tuple #[.agg #[.int .i64 0, .int .i64 0, .string ⟨#[]⟩, .slice none 0 0], .int .i64 130]) (by simp [results, Try.results36, go_sem, r0, r1, r2, r3]) rfl ?_
        exact OutAns.bad (by rw [outOK, HALL.out, Bool.and_false, Bool.and_false]) (by rw [if_pos HC.out]) hbz
      have g1 : decide (s.f0 < 0) = false := decide_eq_false h1
      by_cases h2 : (rs.length : Int) ≤ s.f0
      · have g2 : decide ((rs.length : Int) ≤ s.f0) = true := decide_eq_true h2
        have HALL : Hid (xs.all (inR rs) = false) := HST.out.2 (by rw [inR]; exact decide_eq_false (by omega))
        go_quiet (fail)
        have HQ : Hid (Zero58 w (wa.drewN nq) Au Ar us.length rs.length cu cr) := HA.out.1.below (Below.drewQ ⟨_, rfl⟩)
        generalize wa.drewN nq = wq at *
        clear HA s0 s1 a1
        obtain ⟨_, ⟨d0, d1, d2, d3⟩, f0, f1, f2, f3⟩ := HQ.out.cells
        go_wp2
        clear d0 d1 d2 d3 f0 f1 f2 f3
        (try simp only [Exit.inBlock, Exit.then])
        show bodyPost _ _ _ _ _ (set4 wq (w.heap.size + 1) (.int .i64 0) (.int .i64 0) (.string ⟨#[]⟩) (.slice none 0 0))
        obtain ⟨wz, hwz⟩ : ∃ wz, wz = set4 wq (w.heap.size + 1) (.int .i64 0) (.int .i64 0) (.string ⟨#[]⟩) (.slice none 0 0) := ⟨_, rfl⟩
        rw [← hwz]
        obtain ⟨hbz, r0, r1, r2, r3⟩ := HQ.out.bad hwz
        refine bodyPost_ret (v := .tuple #[.agg #[.int .i64 0, .int .i64 0, .string ⟨#[]⟩, .slice none 0 0], .int .i64 130]) (by simp [results, Try.results36, go_sem, r0, r1, r2, r3]) rfl ?_
        exact OutAns.bad (by rw [outOK, HALL.out, Bool.and_false, Bool.and_false]) (by rw [if_pos HC.out]) hbz
      have g2 : decide ((rs.length : Int) ≤ s.f0) = false := decide_eq_false h2
      by_cases h3 : s.f1 < 0
      · have g3 : decide (s.f1 < 0) = true := decide_eq_true h3
        have HALL : Hid (xs.all (inR rs) = false) := HST.out.2 (by rw [inR]; exact decide_eq_false (by omega))
        go_quiet (fail)
        have HQ : Hid (Zero58 w (wa.drewN nq) Au Ar us.length rs.length cu cr) := HA.out.1.below (Below.drewQ ⟨_, rfl⟩)
        generalize wa.drewN nq = wq at *
        clear HA s0 s1 a1
        obtain ⟨_, ⟨d0, d1, d2, d3⟩, f0, f1, f2, f3⟩ := HQ.out.cells
        go_wp2
        clear d0 d1 d2 d3 f0 f1 f2 f3
        (try simp only [Exit.inBlock, Exit.then])
        show bodyPost _ _ _ _ _ (set4 wq (w.heap.size + 1) (.int .i64 0) (.int .i64 0) (.string ⟨#[]⟩) (.slice none 0 0))
        obtain ⟨wz, hwz⟩ : ∃ wz, wz = set4 wq (w.heap.size + 1) (.int .i64 0) (.int .i64 0) (.string ⟨#[]⟩) (.slice none 0 0) := ⟨_, rfl⟩
        rw [← hwz]
        obtain ⟨hbz, r0, r1, r2, r3⟩ := HQ.out.bad hwz
        refine bodyPost_ret (v := .tuple #[.agg #[.int .i64 0, .int .i64 0, .string ⟨#[]⟩, .slice none 0 0], .int .i64 130]) (by simp [results, Try.results36, go_sem, r0, r1, r2, r3]) rfl ?_
        exact OutAns.bad (by rw [outOK, HALL.out, Bool.and_false, Bool.and_false]) (by rw [if_pos HC.out]) hbz
      have g3 : decide (s.f1 < 0) = false := decide_eq_false h3
      obtain ⟨a2, A1, d1, A2, d2, eA2, _, _, e2, _, _, _, _⟩ := rule_at (Kd.C_below HR.out HA.out.1.bel) s.f0.toNat (by omega)
      subst eA2
      by_cases h4 : ((rl rs s.f0.toNat).f2.length : Int) ≤ s.f1
      · have g4 : decide (((rl rs s.f0.toNat).f2.length : Int) ≤ s.f1) = true := decide_eq_true h4
        have HALL : Hid (xs.all (inR rs) = false) := HST.out.2 (by rw [inR]; exact decide_eq_false (by omega))
        go_quiet (fail)
        have HQ : Hid (Zero58 w (wa.drewN nq) Au (some a2) us.length rs.length cu cr) := HA.out.1.below (Below.drewQ ⟨_, rfl⟩)
        generalize wa.drewN nq = wq at *
        clear HA s0 s1 a1 e2
        obtain ⟨_, ⟨d0, d1, d2, d3⟩, f0, f1, f2, f3⟩ := HQ.out.cells
        go_wp2
        clear d0 d1 d2 d3 f0 f1 f2 f3
        (try simp only [Exit.inBlock, Exit.then])
        show bodyPost _ _ _ _ _ (set4 wq (w.heap.size + 1) (.int .i64 0) (.int .i64 0) (.string ⟨#[]⟩) (.slice none 0 0))
        obtain ⟨wz, hwz⟩ : ∃ wz, wz = set4 wq (w.heap.size + 1) (.int .i64 0) (.int .i64 0) (.string ⟨#[]⟩) (.slice none 0 0) := ⟨_, rfl⟩
        rw [← hwz]
        obtain ⟨hbz, r0, r1, r2, r3⟩ := HQ.out.bad hwz
        refine bodyPost_ret (v := .tuple #[.agg #[.int .i64 0, .int .i64 0, .string ⟨#[]⟩, .slice none 0 0], .int .i64 130]) (by simp [results, Try.results36, go_sem, r0, r1, r2, r3]) rfl ?_
        exact OutAns.bad (by rw [outOK, HALL.out, Bool.and_false, Bool.and_false]) (by rw [if_pos HC.out]) hbz
      have g4 : decide (((rl rs s.f0.toNat).f2.length : Int) ≤ s.f1) = false := decide_eq_false h4
      have HNX : Hid ((xs.drop (k + 1)).all (inR rs) = xs.all (inR rs)) := HST.out.1 (by rw [inR]; exact decide_eq_true (by omega))
      go_quiet (fail)
      have HQ : Hid (Zero58 w (wa.drewN nq) Au (some a2) us.length rs.length cu cr) := HA.out.1.below (Below.drewQ ⟨_, rfl⟩)
      generalize wa.drewN nq = wq at *
      clear HA s0 s1 a1 e2
      have hkw : wrap64 ((k : Int) + 1) = ((k + 1 : Nat) : Int) := by have := HN.out; rw [IntWalk.wrap64_in _ (by omega)]; rfl
      go_wp2
      go_roundg (xs.length - (k + 1))
      case measure => clear hkw; omega
      case rel => exact ⟨k + 1, by clear hkw; omega, by first | rfl | rw [hkw], HNX.out, HQ.out⟩
    · have HALL : Hid (xs.all (inR rs) = true) := by
        have := HM.out
        rw [List.drop_of_length_le (by omega)] at this
        exact this.symm
      have HPOS := Lib.hid (isTr_pos HTR.out)
      have hpos : 0 < xs.length := by have := HPOS.out; rwa [kk_length] at this
      obtain ⟨ad, eA, _, _, _, c3, c4, c5, _⟩ := step_at (Kd.C_below HX.out HI.out.bel) 0 hpos
      subst eA
      rw [Nat.zero_mul, Addr.add_zero'] at c3 c4 c5
      obtain ⟨s, hs⟩ : ∃ s, st xs 0 = s := ⟨_, rfl⟩
      rw [hs] at c3 c4 c5
      have HSI := Lib.hid hs; clear hs
      have h0l : (0 : Int) < (xs.length : Int) := by omega
      go_wp2
      go_region_held3 (fun w' => w'.cell? ⟨ad.block, ad.off + 3, none⟩ = some (.int .i64 s.f3) ∧ w'.cell? ⟨ad.block, ad.off + 4, none⟩ = some (.int .i64 s.f4) ∧ w'.cell? ⟨ad.block, ad.off + 5, none⟩ = some (.string s.f5))
        (first
          | go_keep)
        (first | fail)
      rename_i hHeld
      clear hHeld c3 c4 c5
      have HDD : ∀ wd : World, wd = (wr.alloc (.cells #[.int .i64 s.f3, .int .i64 s.f4, .string s.f5, .slice none 0 0] 58)).drew → Hid (Zero58 w wd Au Ar us.length rs.length cu cr ∧ Blk wd wr.heap.size 58 [.int .i64 s.f3, .int .i64 s.f4, .string s.f5, .slice none 0 0]) := by
        rintro wd rfl
        have hq : Below wr.heap.size wr (wr.alloc (.cells #[.int .i64 s.f3, .int .i64 s.f4, .string s.f5, .slice none 0 0] 58)).drew := ((Below.refl _ wr).alloc (Nat.le_refl _) _).drew
        exact ⟨HI.out.below hq, Blk.alloc wr _ _⟩
      generalize hwd : (wr.alloc (.cells #[.int .i64 s.f3, .int .i64 s.f4, .string s.f5, .slice none 0 0] 58)).drew = wd
      have HD := HDD wd hwd.symm
      have hbs : w.heap.size + 1 < wr.heap.size := HI.out.res.lt
      clear HDD hwd HI
      generalize wr.heap.size = bs at *
      have hne0 : bs ≠ w.heap.size := by omega
      have a0 : wd.cell? ⟨w.heap.size, 0, none⟩ = some (.slice Au us.length cu) := HD.out.1.cells.1.1
      have a1 : wd.cell? ⟨w.heap.size, 1, none⟩ = some (.slice Ar rs.length cr) := HD.out.1.cells.1.2
      have HBD : Hid (Below wd.heap.size wd wd.drew) := (Below.refl _ _).drew
      have HB0 : Hid (Below w.heap.size w wd) := HD.out.1.bel
      go_wp2
      go_region_held3 (fun w' => w'.cell? ⟨w.heap.size, 0, none⟩ = some (.slice Au us.length cu) ∧ w'.cell? ⟨w.heap.size, 1, none⟩ = some (.slice Ar rs.length cr))
        (first
          | exact ⟨(World.cell?_setCell_far _ _ _ _ hne0).trans (Below.cell_some hbk6.out a0), (World.cell?_setCell_far _ _ _ _ hne0).trans (Below.cell_some hbk6.out a1)⟩
          | exact ⟨Below.cell_some hbk6.out a0, Below.cell_some hbk6.out a1⟩
          | exact ⟨Below.cell_some hbk5.out a0, Below.cell_some hbk5.out a1⟩
          | go_keep)
        (first
          | (go_at_call 59; refine (Kids.calls (some ad) cp xs _ (Kd.C_below HX.out (HB0.out.trans (HBD.out.mono HB0.out.size))) (by have := HN.out; omega) HTR.out).mono ?_; rintro e w5 ⟨K, vs, rows, rfl, ⟨v5, s5, hkw⟩, hrows⟩
             have hbk5 : Hid (Below wd.heap.size wd w5) := HBD.out.trans hkw.bel
             have HGG : Hid (GG w5 Ar (some ad) K rs xs) := GG.of_kids hkw hrows (Kd.C_below HR.out (HB0.out.trans (hbk5.out.mono HB0.out.size))) (Kd.C_below HX.out (HB0.out.trans (hbk5.out.mono HB0.out.size))) HTR.out HALL.out HN.out
             clear hkw hrows)
          | (go_at_call 58; refine (grown.calls (Au := Au) (nu := us.length) (cu := cu) (cr := cr) (cp := cp) HGG xs.length 0 (Nat.le_refl _) hpos _ (Below.refl _ _)).mono ?_; rintro e wf ⟨v', rfl, hfr⟩
             obtain ⟨a7, c7, hv7⟩ := own_form hfr.own
             subst hv7
             have hbk6 : Hid (Below wd.heap.size wd wf) := hbk5.out.trans (hfr.bel.mono hbk5.out.size)
             have HF : Hid (GR w wf (.slice a7 (fo rs xs xs.length 0).1.length c7) (fo rs xs xs.length 0).1 ∧ Blk wf bs 58 [.int .i64 s.f3, .int .i64 s.f4, .string s.f5, .slice none 0 0] ∧ Blk wf (w.heap.size + 1) 58 [.int .i64 0, .int .i64 0, .string ⟨#[]⟩, .slice none 0 0]) :=
               ⟨⟨HB0.out.trans (hbk6.out.mono HB0.out.size), ownsRow_low hfr.own (Nat.le_trans HB0.out.size hbk5.out.size)⟩, HD.out.2.below hbk6.out HD.out.2.lt, HD.out.1.res.below hbk6.out HD.out.1.res.lt⟩
             have e3 : wf.cell? ⟨bs, 3, none⟩ = some (.slice none 0 0) := HF.out.2.1.cell 3
             have f3 : wf.frozen? ⟨bs, 3, none⟩ = false := HF.out.2.1.frozen 3
             clear hfr))
      rename_i hHeld
      clear hHeld hbk5 hbk6 HD HBD HB0 a0 a1
      generalize hfl : (fo rs xs xs.length 0).1.length = fl at *
      have e0 : wf.cell? ⟨bs, 0, none⟩ = some (.int .i64 s.f3) := HF.out.2.1.cell 0
      have e1 : wf.cell? ⟨bs, 1, none⟩ = some (.int .i64 s.f4) := HF.out.2.1.cell 1
      have e2 : wf.cell? ⟨bs, 2, none⟩ = some (.string s.f5) := HF.out.2.1.cell 2
      have d0 : wf.cell? ⟨w.heap.size + 1, 0, none⟩ = some (.int .i64 0) := HF.out.2.2.cell 0
      have d1 : wf.cell? ⟨w.heap.size + 1, 1, none⟩ = some (.int .i64 0) := HF.out.2.2.cell 1
      have d2 : wf.cell? ⟨w.heap.size + 1, 2, none⟩ = some (.string ⟨#[]⟩) := HF.out.2.2.cell 2
      have d3 : wf.cell? ⟨w.heap.size + 1, 3, none⟩ = some (.slice none 0 0) := HF.out.2.2.cell 3
      have g0 : wf.frozen? ⟨w.heap.size + 1, 0, none⟩ = false := HF.out.2.2.frozen 0
      have g1 : wf.frozen? ⟨w.heap.size + 1, 1, none⟩ = false := HF.out.2.2.frozen 1
      have g2 : wf.frozen? ⟨w.heap.size + 1, 2, none⟩ = false := HF.out.2.2.frozen 2
      have g3 : wf.frozen? ⟨w.heap.size + 1, 3, none⟩ = false := HF.out.2.2.frozen 3
      have hne : ¬ bs = w.heap.size + 1 := by omega
      have hne' : ¬ w.heap.size + 1 = bs := by omega
      go_wp2
      clear e0 e1 e2 e3 d0 d1 d2 d3 g0 g1 g2 g3 f3
      show bodyPost _ _ _ _ _ (set4 (wf.setCell ⟨bs, 3, none⟩ (.slice a7 fl c7)) (w.heap.size + 1) (.int .i64 s.f3) (.int .i64 s.f4) (.string s.f5) (.slice a7 fl c7))
      have HZZ : ∀ wz : World, wz = set4 (wf.setCell ⟨bs, 3, none⟩ (.slice a7 fl c7)) (w.heap.size + 1) (.int .i64 s.f3) (.int .i64 s.f4) (.string s.f5) (.slice a7 fl c7) →
          Hid (GR w wz (.slice a7 fl c7) (fo rs xs xs.length 0).1 ∧ Blk wz (w.heap.size + 1) 58 [.int .i64 s.f3, .int .i64 s.f4, .string s.f5, .slice a7 fl c7]) := by
        rintro wz rfl
        have hres : Blk (wf.setCell ⟨bs, 3, none⟩ (.slice a7 fl c7)) (w.heap.size + 1) 58 [.int .i64 0, .int .i64 0, .string ⟨#[]⟩, .slice none 0 0] := HF.out.2.2.grown (grown_setCell wf ⟨bs, 3, none⟩ _) (by simp; omega)
        exact ⟨(HF.out.1.set1 HF.out.2.1 (by decide) (by omega) 3 _).set4 hres (by decide) (by omega) _ _ _ _, set4_blk hres _ _ _ _⟩
      obtain ⟨wz, hwz⟩ : ∃ wz, wz = set4 (wf.setCell ⟨bs, 3, none⟩ (.slice a7 fl c7)) (w.heap.size + 1) (.int .i64 s.f3) (.int .i64 s.f4) (.string s.f5) (.slice a7 fl c7) := ⟨_, rfl⟩
      rw [← hwz]
      have HZ9 := HZZ wz hwz
      clear HZZ hwz
      have r0 : wz.cell? ⟨w.heap.size + 1, 0, none⟩ = some (.int .i64 s.f3) := HZ9.out.2.cell 0
      have r1 : wz.cell? ⟨w.heap.size + 1, 1, none⟩ = some (.int .i64 s.f4) := HZ9.out.2.cell 1
      have r2 : wz.cell? ⟨w.heap.size + 1, 2, none⟩ = some (.string s.f5) := HZ9.out.2.cell 2
      have r3 : wz.cell? ⟨w.heap.size + 1, 3, none⟩ = some (.slice a7 fl c7) := HZ9.out.2.cell 3
      refine bodyPost_ret (v := .tuple #[.agg #[.int .i64 s.f3, .int .i64 s.f4, .string s.f5, .slice a7 fl c7], .int .i64 0]) (by simp [results, Try.results36, go_sem, r0, r1, r2, r3]) rfl ?_
      have hgood := OutAns.good (us := us) (show outOK us rs xs = true by rw [outOK, decide_eq_true HC.out, HTR.out, HALL.out]; rfl) HZ9.out.1
      rw [HSI.out] at hgood
      exact hgood
end Go.Proofs.Ytmikgaphknbcaaa.B
/- The walk of the law DeriveOutcomes. -/
namespace Go.Proofs.Ytmikgaphknbcaaa.B
open Go Go.RowKit Go.X Go.Proofs.YtmikgaphknbcaaaW.PrintWords Go.Proofs.Ytmikgaphknbcaaa.F

theorem caps_reps (w : World) (L : List S89) : Reps (k89.K w) k89.sz L (capsOf L) := by
  have H : ∀ n, n ≤ L.length → Reps (k89.K w) k89.sz (L.take n) (capsOf (L.take n)) := by
    intro n
    induction n with
    | zero => intro _; exact Reps.none _ _
    | succ n ih =>
      intro hn
      have h1 : L.take (n + 1) = L.take n ++ [L[n]] := by rw [List.take_succ_eq_append_getElem (by omega)]
      rw [h1, caps_app]
      have := (ih (by omega)).snoc (k89_mk w L[n]) (by rfl)
      simpa [capsOf, capCells] using this
  have := H L.length (Nat.le_refl _)
  rwa [List.take_length] at this
theorem caps_C {w : World} {base c : Nat} {a : Option Addr} {L : List S89} (h : w.ownsRow base 89 4 (.slice a L.length c) L.length (capsOf L)) (hm : L.length ≤ 4000000) : Kd.C k89 w a L.length L := by
  rcases h.2 with ⟨h1, h2⟩ | ⟨g, cap, cur, h1, _, h3, h4, h5, h6, h7⟩
  · have : L = [] := List.eq_nil_of_length_eq_zero h2
    subst this
    exact ⟨by simp, by simp, fun h => absurd h (Nat.lt_irrefl _)⟩
  · injection h1 with h1 h8 h9
    subst h1
    refine X.C_of_blk (e := 89) (cs := capsOf L) (rest := cur.toList.drop (L.length * 4)) ?_ (caps_reps w L) (by omega)
    rw [← h7, List.take_append_drop]
    simpa [Blk] using h3
theorem outFor_len (us : List S69) (rs : List S34) (xs : List S79) : (outFor us rs xs).length ≤ xs.length := by
  rw [outFor]
  split
  · have h1 := (fo_le rs xs xs.length 0).2
    have h2 := en_le (ks := kk xs) (i := 0) (Nat.zero_le _)
    rw [kk_length] at h2
    omega
  · exact Nat.zero_le _
/-- What the law goes on with: its box, and the lent steps. -/
structure LW (w wk : World) (Au Ar : Option Addr) (nu nr cu cr bl : Nat) (xs : List S79) : Prop where
  bel : Below w.heap.size w wk
  box : Blk wk w.heap.size 26 [.slice Au nu cu, .slice Ar nr cr]
  len : Lent k79 79 wk bl xs holdStep
theorem LW.below {w wk w' : World} {Au Ar : Option Addr} {nu nr cu cr bl : Nat} {xs : List S79} (h : LW w wk Au Ar nu nr cu cr bl xs) (hb : Below wk.heap.size wk w') : LW w w' Au Ar nu nr cu cr bl xs :=
  ⟨h.bel.trans (hb.mono h.bel.size), h.box.below hb h.box.lt, h.len.below hb⟩
/-- An answer that is kept. -/
structure Kept (wk : World) (b lo hi : Nat) (kd en : Int) (lb : ByteArray) (v : Value) (L : List S89) : Prop where
  cell : Blk wk b 58 [.int .i64 kd, .int .i64 en, .string lb, v]
  own : wk.ownsRow lo 89 4 v L.length (capsOf L)
  hi : ∀ k, v.ownBlock = some k → k < hi
theorem Kept.below {wk w' : World} {b lo hi : Nat} {kd en : Int} {lb : ByteArray} {v : Value} {L : List S89} (h : Kept wk b lo hi kd en lb v L) (hb : Below wk.heap.size wk w') : Kept w' b lo hi kd en lb v L :=
  ⟨h.cell.below hb h.cell.lt, h.own.kept (grown_below hb none) (by cases hv : v.ownBlock <;> simp), h.hi⟩
theorem Kept.of {w wk : World} {v : Value} {L : List S89} (h : GR w wk v L) (kd en : Int) (lb : ByteArray) : Kept (wk.alloc (.cells #[.int .i64 kd, .int .i64 en, .string lb, v] 58)) wk.heap.size w.heap.size wk.heap.size kd en lb v L :=
  ⟨Blk.alloc wk _ _, h.own.alloc _, fun k hk => (h.own.lt k hk).2⟩
set_option maxRecDepth 100000 in
set_option maxHeartbeats 4000000 in
theorem DeriveOutcomes.calls (Au Ar Ap : Option Addr) (cu cr cp : Nat) (us : List S69) (rs : List S34) (xs : List S79) (w : World) (hu : Kd.C k69 w Au us.length us) (hr : Kd.C k34 w Ar rs.length rs) (hx : Kd.C k79 w Ap xs.length xs)
    (hf : GramFit us rs) (ht : GramTexts us rs) (hsm : ∀ x ∈ xs, x.f6 ≤ 9223372036854775807) :
    Calls Try.prog 14 #[.agg #[.slice Au us.length cu, .slice Ar rs.length cr], .slice Ap xs.length cp] w fun e w' => e = .returned (.bool true) ∧ Below w.heap.size w w' := by
  have HU := Lib.hid hu; clear hu
  have HR := Lib.hid hr; clear hr
  have HX := Lib.hid hx; clear hx
  have HF := Lib.hid hf; clear hf
  have HT := Lib.hid ht; clear ht
  have HSM := Lib.hid hsm; clear hsm
  go_enter Try.func14, Try.ntmps14
  go_wp2_with (fail)
  have HB : Hid (Below w.heap.size w (w.alloc (.cells #[.slice Au us.length cu, .slice Ar rs.length cr] 26)) ∧ Blk (w.alloc (.cells #[.slice Au us.length cu, .slice Ar rs.length cr] 26)) w.heap.size 26 [.slice Au us.length cu, .slice Ar rs.length cr]) :=
    ⟨(Below.refl _ w).alloc (Nat.le_refl _) _, Blk.alloc w _ _⟩
  generalize w.alloc (.cells #[.slice Au us.length cu, .slice Ar rs.length cr] 26) = wa at *
  refine (heavy13.calls Au Ar cu cr us rs wa (Kd.C_below HR.out HB.out.1) HF.out).mono ?_
  rintro e w1 ⟨rfl, hb⟩
  have HB1 : Hid (Below w.heap.size w w1 ∧ Blk w1 w.heap.size 26 [.slice Au us.length cu, .slice Ar rs.length cr]) :=
    ⟨HB.out.1.trans (hb.mono HB.out.1.size), HB.out.2.below hb HB.out.2.lt⟩
  clear hb HB
  dsimp only
  by_cases hbig : 262144 ≤ wt13 rs ((us.length : Int) + rs.length)
  · go_wp2
    go_ret
    exact ⟨rfl, HB1.out.1⟩
  by_cases hbig2 : 16384 < xs.length
  · have h2' : (16384 : Int) < (xs.length : Int) := by omega
    go_wp2
    go_ret
    exact ⟨rfl, HB1.out.1⟩
  have h2' : ¬ (16384 : Int) < (xs.length : Int) := by omega
  have HN : Hid (xs.length ≤ 16384) := by show _ ≤ _; omega
  have HOK : Hid (GramOK us rs) := gramOK_of_wt13 (by omega)
  go_wp2_with (fail)
  clear hbig hbig2 h2'
  refine (lent13.calls Ap cp xs w1 (Kd.C_below HX.out HB1.out.1) (by have := HN.out; omega)).mono ?_
  rintro e w2 ⟨bl, rfl, hl, _, hb⟩
  have HL : Hid (LW w w2 Au Ar us.length rs.length cu cr bl xs) := ⟨HB1.out.1.trans (hb.mono HB1.out.1.size), HB1.out.2.below hb HB1.out.2.lt, hl⟩
  clear hb hl HB1
  dsimp only
  have a0 : w2.cell? ⟨w.heap.size, 0, none⟩ = some (.slice Au us.length cu) := HL.out.box.cell 0
  have a1 : w2.cell? ⟨w.heap.size, 1, none⟩ = some (.slice Ar rs.length cr) := HL.out.box.cell 1
  go_wp2_with (fail)
  clear a0 a1
  refine (LendGrammar.calls Au Ar cu cr us rs w2 (Kd.C_below HU.out HL.out.bel) (Kd.C_below HR.out HL.out.bel) HOK.out.1 HOK.out.2.1 HOK.out.2.2).mono ?_
  rintro e w3 ⟨bu, br, P, Q, rfl, hg, _, _, hb⟩
  have HL3 : Hid (LW w w3 Au Ar us.length rs.length cu cr bl xs ∧ GramAt w3 w2.heap.size bu br us rs P Q) := ⟨HL.out.below hb, hg⟩
  clear hb hg HL
  dsimp only
  go_wp2_with (fail)
  refine (Outcome.calls (some ⟨bu, 0, none⟩) (some ⟨br, 0, none⟩) (some ⟨bl, 0, none⟩) (us.length + 1) (rs.length + 1) (xs.length + 1) us rs xs w3 (HL3.out.2.uses (by have := HOK.out.1; omega)) (HL3.out.2.rules HOK.out) (HL3.out.1.len.C (by have := HN.out; omega)) HOK.out HT.out HN.out HSM.out).mono ?_
  rintro e w4 ⟨v1, rfl, hg⟩
  have HFL := Lib.hid (outFor_len us rs xs)
  obtain ⟨kd, hkd⟩ : ∃ kd, outKd us rs xs = kd := ⟨_, rfl⟩
  obtain ⟨en', hen⟩ : ∃ kd, outEnd us rs xs = kd := ⟨_, rfl⟩
  obtain ⟨lb, hlb⟩ : ∃ kd, outLb us rs xs = kd := ⟨_, rfl⟩
  obtain ⟨cc, hcc⟩ : ∃ kd, outCode us rs xs = kd := ⟨_, rfl⟩
  obtain ⟨L, hL⟩ : ∃ kd, outFor us rs xs = kd := ⟨_, rfl⟩
  rw [hL] at hg HFL
  rw [hkd, hen, hlb, hcc]
  have HEQ := Lib.hid (And.intro hkd (And.intro hen (And.intro hlb (And.intro hcc hL))))
  clear hkd hen hlb hcc hL
  obtain ⟨A1, c1, hv⟩ := own_form hg.own
  subst hv
  have HK1 : ∀ wk : World, wk = w4.alloc (.cells #[.int .i64 kd, .int .i64 en', .string lb, .slice A1 L.length c1] 58) → Hid (LW w wk Au Ar us.length rs.length cu cr bl xs ∧ Kept wk w4.heap.size w3.heap.size w4.heap.size kd en' lb (.slice A1 L.length c1) L ∧ w.heap.size ≤ w3.heap.size ∧ w4.heap.size ≤ wk.heap.size) := by
    rintro wk rfl
    exact ⟨(HL3.out.1.below hg.bel).below ((Below.refl _ w4).alloc (Nat.le_refl _) _), Kept.of hg _ _ _, HL3.out.1.bel.size, by simp⟩
  have a0 : (w4.alloc (.cells #[.int .i64 kd, .int .i64 en', .string lb, .slice A1 L.length c1] 58)).cell? ⟨w.heap.size, 0, none⟩ = some (.slice Au us.length cu) := (HK1 _ rfl).out.1.box.cell 0
  have a1 : (w4.alloc (.cells #[.int .i64 kd, .int .i64 en', .string lb, .slice A1 L.length c1] 58)).cell? ⟨w.heap.size, 1, none⟩ = some (.slice Ar rs.length cr) := (HK1 _ rfl).out.1.box.cell 1
  clear hg HL3
  dsimp only
  go_wp2_with (fail)
  clear a0 a1
  generalize hwk : w4.alloc (.cells #[.int .i64 kd, .int .i64 en', .string lb, .slice A1 L.length c1] 58) = wk
  have HK := HK1 wk hwk.symm
  clear HK1 hwk
  generalize hb1 : w4.heap.size = b1 at *
  clear hb1
  refine (Outcome.calls Au Ar (some ⟨bl, 0, none⟩) cu cr (xs.length + 1) us rs xs wk (Kd.C_below HU.out HK.out.1.bel) (Kd.C_below HR.out HK.out.1.bel) (HK.out.1.len.C (by have := HN.out; omega)) HOK.out HT.out HN.out HSM.out).mono ?_
  rintro e w5 ⟨v2, rfl, hg⟩
  rw [HEQ.out.1, HEQ.out.2.1, HEQ.out.2.2.1, HEQ.out.2.2.2.1]
  rw [HEQ.out.2.2.2.2] at hg
  obtain ⟨A2, c2, hv⟩ := own_form hg.own
  subst hv
  have HK2 : ∀ wl : World, wl = w5.alloc (.cells #[.int .i64 kd, .int .i64 en', .string lb, .slice A2 L.length c2] 58) → Hid (LW w wl Au Ar us.length rs.length cu cr bl xs ∧ Kept wl b1 w3.heap.size b1 kd en' lb (.slice A1 L.length c1) L ∧ Kept wl w5.heap.size wk.heap.size w5.heap.size kd en' lb (.slice A2 L.length c2) L ∧ w.heap.size ≤ w3.heap.size ∧ b1 ≤ wk.heap.size ∧ w.heap.size ≤ wk.heap.size) := by
    rintro wl rfl
    exact ⟨(HK.out.1.below hg.bel).below ((Below.refl _ w5).alloc (Nat.le_refl _) _), (HK.out.2.1.below hg.bel).below ((Below.refl _ w5).alloc (Nat.le_refl _) _), Kept.of hg _ _ _, HK.out.2.2.1, HK.out.2.2.2, HK.out.1.bel.size⟩
  have a0 : (w5.alloc (.cells #[.int .i64 kd, .int .i64 en', .string lb, .slice A2 L.length c2] 58)).cell? ⟨w.heap.size, 0, none⟩ = some (.slice Au us.length cu) := (HK2 _ rfl).out.1.box.cell 0
  have a1 : (w5.alloc (.cells #[.int .i64 kd, .int .i64 en', .string lb, .slice A2 L.length c2] 58)).cell? ⟨w.heap.size, 1, none⟩ = some (.slice Ar rs.length cr) := (HK2 _ rfl).out.1.box.cell 1
  clear hg HK
  dsimp only
  go_wp2_with (fail)
  clear a0 a1
  generalize hwl : w5.alloc (.cells #[.int .i64 kd, .int .i64 en', .string lb, .slice A2 L.length c2] 58) = wl
  have HM := HK2 wl hwl.symm
  clear HK2 hwl
  generalize hb2 : w5.heap.size = b2 at *
  clear hb2
  refine (RefOutcome.calls Au Ar Ap cu cr cp us rs xs wl (Kd.C_below HU.out HM.out.1.bel) (Kd.C_below HR.out HM.out.1.bel) (Kd.C_below HX.out HM.out.1.bel) HOK.out HT.out HN.out HSM.out).mono ?_
  rintro e w6 ⟨v3, rfl, hg⟩
  rw [HEQ.out.1, HEQ.out.2.1, HEQ.out.2.2.1, HEQ.out.2.2.2.1]
  rw [HEQ.out.2.2.2.2] at hg
  obtain ⟨A3, c3, hv⟩ := own_form hg.own
  subst hv
  have HK3 : ∀ wm : World, wm = w6.alloc (.cells #[.int .i64 kd, .int .i64 en', .string lb, .slice A3 L.length c3] 58) → Hid (LW w wm Au Ar us.length rs.length cu cr bl xs ∧ Kept wm b1 w3.heap.size b1 kd en' lb (.slice A1 L.length c1) L ∧ Kept wm b2 wk.heap.size b2 kd en' lb (.slice A2 L.length c2) L ∧ (w.heap.size ≤ w3.heap.size ∧ b1 ≤ wk.heap.size ∧ w.heap.size ≤ wk.heap.size) ∧ Kept wm w6.heap.size wl.heap.size w6.heap.size kd en' lb (.slice A3 L.length c3) L) := by
    rintro wm rfl
    have hal : Below w6.heap.size w6 (w6.alloc (.cells #[.int .i64 kd, .int .i64 en', .string lb, .slice A3 L.length c3] 58)) := (Below.refl _ w6).alloc (Nat.le_refl _) _
    exact ⟨(HM.out.1.below hg.bel).below hal, (HM.out.2.1.below hg.bel).below hal, (HM.out.2.2.1.below hg.bel).below hal, HM.out.2.2.2, Kept.of hg _ _ _⟩
  have k10 : (w6.alloc (.cells #[.int .i64 kd, .int .i64 en', .string lb, .slice A3 L.length c3] 58)).cell? ⟨b1, 0, none⟩ = some (.int .i64 kd) := (HK3 _ rfl).out.2.1.cell.cell 0
  have k30 : (w6.alloc (.cells #[.int .i64 kd, .int .i64 en', .string lb, .slice A3 L.length c3] 58)).cell? ⟨w6.heap.size, 0, none⟩ = some (.int .i64 kd) := (HK3 _ rfl).out.2.2.2.2.cell.cell 0
  have k31 : (w6.alloc (.cells #[.int .i64 kd, .int .i64 en', .string lb, .slice A3 L.length c3] 58)).cell? ⟨w6.heap.size, 1, none⟩ = some (.int .i64 en') := (HK3 _ rfl).out.2.2.2.2.cell.cell 1
  have k32 : (w6.alloc (.cells #[.int .i64 kd, .int .i64 en', .string lb, .slice A3 L.length c3] 58)).cell? ⟨w6.heap.size, 2, none⟩ = some (.string lb) := (HK3 _ rfl).out.2.2.2.2.cell.cell 2
  have k33 : (w6.alloc (.cells #[.int .i64 kd, .int .i64 en', .string lb, .slice A3 L.length c3] 58)).cell? ⟨w6.heap.size, 3, none⟩ = some (.slice A3 L.length c3) := (HK3 _ rfl).out.2.2.2.2.cell.cell 3
  have k11 : (w6.alloc (.cells #[.int .i64 kd, .int .i64 en', .string lb, .slice A3 L.length c3] 58)).cell? ⟨b1, 1, none⟩ = some (.int .i64 en') := (HK3 _ rfl).out.2.1.cell.cell 1
  have k12 : (w6.alloc (.cells #[.int .i64 kd, .int .i64 en', .string lb, .slice A3 L.length c3] 58)).cell? ⟨b1, 2, none⟩ = some (.string lb) := (HK3 _ rfl).out.2.1.cell.cell 2
  have k13 : (w6.alloc (.cells #[.int .i64 kd, .int .i64 en', .string lb, .slice A3 L.length c3] 58)).cell? ⟨b1, 3, none⟩ = some (.slice A1 L.length c1) := (HK3 _ rfl).out.2.1.cell.cell 3
  clear hg HM
  dsimp only
  go_wp2_with (fail)
  clear k10 k11 k12 k13 k30 k31 k32 k33
  generalize hwm : w6.alloc (.cells #[.int .i64 kd, .int .i64 en', .string lb, .slice A3 L.length c3] 58) = wm
  have HP := HK3 wm hwm.symm
  clear HK3 hwm
  generalize hb3 : w6.heap.size = b3 at *
  clear hb3
  have hll : L.length ≤ 4000000 := by have := HN.out; have := HFL.out; omega
  refine (Outcomes.calls A1 A3 c1 c3 kd en' lb L wm (caps_C HP.out.2.1.own hll) (caps_C HP.out.2.2.2.2.own hll) hll).mono ?_
  rintro e w7 ⟨rfl, hb⟩
  have HP7 : Hid (LW w w7 Au Ar us.length rs.length cu cr bl xs ∧ Kept w7 b1 w3.heap.size b1 kd en' lb (.slice A1 L.length c1) L ∧ Kept w7 b2 wk.heap.size b2 kd en' lb (.slice A2 L.length c2) L ∧ (w.heap.size ≤ w3.heap.size ∧ b1 ≤ wk.heap.size ∧ w.heap.size ≤ wk.heap.size) ∧ Kept w7 b3 wl.heap.size b3 kd en' lb (.slice A3 L.length c3) L) :=
    ⟨HP.out.1.below hb, HP.out.2.1.below hb, HP.out.2.2.1.below hb, HP.out.2.2.2.1, HP.out.2.2.2.2.below hb⟩
  clear hb HP
  dsimp only
  have k20 : w7.cell? ⟨b2, 0, none⟩ = some (.int .i64 kd) := HP7.out.2.2.1.cell.cell 0
  have k21 : w7.cell? ⟨b2, 1, none⟩ = some (.int .i64 en') := HP7.out.2.2.1.cell.cell 1
  have k22 : w7.cell? ⟨b2, 2, none⟩ = some (.string lb) := HP7.out.2.2.1.cell.cell 2
  have k23 : w7.cell? ⟨b2, 3, none⟩ = some (.slice A2 L.length c2) := HP7.out.2.2.1.cell.cell 3
  have k30 : w7.cell? ⟨b3, 0, none⟩ = some (.int .i64 kd) := HP7.out.2.2.2.2.cell.cell 0
  have k31 : w7.cell? ⟨b3, 1, none⟩ = some (.int .i64 en') := HP7.out.2.2.2.2.cell.cell 1
  have k32 : w7.cell? ⟨b3, 2, none⟩ = some (.string lb) := HP7.out.2.2.2.2.cell.cell 2
  have k33 : w7.cell? ⟨b3, 3, none⟩ = some (.slice A3 L.length c3) := HP7.out.2.2.2.2.cell.cell 3
  go_wp2_with (fail)
  clear k20 k21 k22 k23 k30 k31 k32 k33
  refine (Outcomes.calls A2 A3 c2 c3 kd en' lb L w7 (caps_C HP7.out.2.2.1.own hll) (caps_C HP7.out.2.2.2.2.own hll) hll).mono ?_
  rintro e w8 ⟨rfl, hb⟩
  have HP8 : Hid (LW w w8 Au Ar us.length rs.length cu cr bl xs ∧ Kept w8 b1 w3.heap.size b1 kd en' lb (.slice A1 L.length c1) L ∧ Kept w8 b2 wk.heap.size b2 kd en' lb (.slice A2 L.length c2) L ∧ (w.heap.size ≤ w3.heap.size ∧ b1 ≤ wk.heap.size ∧ w.heap.size ≤ wk.heap.size)) :=
    ⟨HP7.out.1.below hb, HP7.out.2.1.below hb, HP7.out.2.2.1.below hb, HP7.out.2.2.2.1⟩
  clear hb HP7
  dsimp only
  go_wp2_with (fail)
  refine (Steps.calls (some ⟨bl, 0, none⟩) Ap (xs.length + 1) cp xs w8 (HP8.out.1.len.C (by have := HN.out; omega)) (Kd.C_below HX.out HP8.out.1.bel) (by have := HN.out; omega)).mono ?_
  rintro e w9 ⟨rfl, hq⟩
  have hb := Below.drewQ hq
  have HP9 : Hid (LW w w9 Au Ar us.length rs.length cu cr bl xs ∧ Kept w9 b1 w3.heap.size b1 kd en' lb (.slice A1 L.length c1) L ∧ Kept w9 b2 wk.heap.size b2 kd en' lb (.slice A2 L.length c2) L ∧ (w.heap.size ≤ w3.heap.size ∧ b1 ≤ wk.heap.size ∧ w.heap.size ≤ wk.heap.size)) :=
    ⟨HP8.out.1.below hb, HP8.out.2.1.below hb, HP8.out.2.2.1.below hb, HP8.out.2.2.2⟩
  clear hb hq HP8
  dsimp only
  have k13 : w9.cell? ⟨b1, 3, none⟩ = some (.slice A1 L.length c1) := HP9.out.2.1.cell.cell 3
  have k23 : w9.cell? ⟨b2, 3, none⟩ = some (.slice A2 L.length c2) := HP9.out.2.2.1.cell.cell 3
  go_wp2_with (fail)
  clear k13 k23
  have hpre : Fr.Pre (w9.alloc (.cells #[.slice A1 L.length c1, .slice A2 L.length c2] 56)) 0 89 4 [.slice A1 L.length c1, .slice A2 L.length c2] := by
    obtain ⟨_, hk1, hk2, _, hle, _⟩ := HP9.out
    have o1 : (w9.alloc (.cells #[.slice A1 L.length c1, .slice A2 L.length c2] 56)).ownsRow 0 89 4 (.slice A1 L.length c1) L.length (capsOf L) := ownsRow_low (hk1.own.alloc _) (Nat.zero_le _)
    have o2 : (w9.alloc (.cells #[.slice A1 L.length c1, .slice A2 L.length c2] 56)).ownsRow 0 89 4 (.slice A2 L.length c2) L.length (capsOf L) := ownsRow_low (hk2.own.alloc _) (Nat.zero_le _)
    have hne : ∀ k, (Value.slice A1 L.length c1).ownBlock = some k → (Value.slice A2 L.length c2).ownBlock ≠ some k := fun k h1 h2 => by
      have := hk1.hi k h1
      have := (hk2.own.lt k h2).1
      omega
    refine ⟨fun j v hj => ?_, fun i j u v hij hu hv => ?_⟩
    · match j, hj with
      | 0, hj => obtain rfl := Option.some.inj hj; exact ⟨_, o1⟩
      | 1, hj => obtain rfl := Option.some.inj hj; exact ⟨_, o2⟩
    · match i, j, hu, hv with
      | 0, 0, _, _ => exact absurd rfl hij
      | 1, 1, _, _ => exact absurd rfl hij
      | 0, 1, hu, hv =>
        obtain rfl := Option.some.inj hu
        obtain rfl := Option.some.inj hv
        cases h : (Value.slice A1 L.length c1).ownBlock with
        | none => exact .inl rfl
        | some k => exact .inr fun e => hne k h e.symm
      | 1, 0, hu, hv =>
        obtain rfl := Option.some.inj hu
        obtain rfl := Option.some.inj hv
        cases h : (Value.slice A2 L.length c2).ownBlock with
        | none => exact .inl rfl
        | some k => exact .inr fun e => hne k e.symm h
  have hS : ∀ k, S [.slice A1 L.length c1, .slice A2 L.length c2] k → w.heap.size ≤ k := by
    rintro k ⟨v, hv, hk⟩
    obtain ⟨_, hk1, hk2, h3, _, hle⟩ := HP9.out
    rcases List.mem_cons.1 hv with rfl | hv
    · exact Nat.le_trans h3 (hk1.own.lt k hk).1
    · obtain rfl : v = .slice A2 L.length c2 := by simpa using hv
      exact Nat.le_trans hle (hk2.own.lt k hk).1
  refine (FreeForests.calls w9.heap.size 2 [.slice A1 L.length c1, .slice A2 L.length c2] _ (Blk.alloc w9 _ _) hpre (by simp) (fun v hv => ?_)).mono ?_
  · rcases List.mem_cons.1 hv with rfl | hv
    · exact hll
    · obtain rfl : v = .slice A2 L.length c2 := by simpa using hv
      exact hll
  rintro e w10 ⟨rfl, hbt⟩
  have HE : Hid (Below w.heap.size w w10) := (HP9.out.1.bel.alloc HP9.out.1.bel.size _).trans (hbt.below hS (by have := HP9.out.1.bel.size; simp; omega))
  clear hbt HP9 hpre hS
  dsimp only
  go_wp2
  go_ret
  exact ⟨rfl, HE.out⟩
end Go.Proofs.Ytmikgaphknbcaaa.B
/- Steps that are an argument, opened; and the law's texts. -/
namespace Go.X
open Go Go.RowKit Go.ChangeShapes Go.Proofs.YtmikgaphknbcaaaW.PrintWords
variable {P : Program} {w : World} {base : Nat}
/-- An int, with its bounds. -/
theorem OpensB.int {t : TypeId} {k : IntKind} (h : P.underlying t = some (.int k)) : OpensB P w base t (Kd.int k) (fun n => k.min ≤ n ∧ n ≤ k.max) := fun _ _ _ _ _ _ _ hx _ => by
  obtain ⟨n, rfl, _, hw⟩ := DataW.trod_int h hx
  refine ⟨n, rfl, ?_⟩
  simpa [Lit.wf] using hw
end Go.X
namespace Go.Proofs.Ytmikgaphknbcaaa.B
open Go Go.RowKit Go.X Go.Proofs.YtmikgaphknbcaaaW.PrintWords Go.Proofs.Ytmikgaphknbcaaa.F Go.ChangeShapes Go.WideShapes
variable {w : World} {base : Nat}
def Bs (x : S79) : Prop := x.f6 ≤ 9223372036854775807
theorem int3 : OpensB Try.prog w base 3 (Kd.int .i64) (fun n => IntKind.min .i64 ≤ n ∧ n ≤ IntKind.max .i64) := OpensB.int (by kernel_rfl)
theorem opensB79 : OpensB Try.prog w base 79 k79 Bs :=
  (OpensB.iso (fun p => ⟨p.1, p.2.1, p.2.2.1, p.2.2.2.1, p.2.2.2.2.1, p.2.2.2.2.2.1, p.2.2.2.2.2.2⟩) (fun _ => rfl) (OpensB.struct Try.underlying79
    (.step _ 1 rfl rfl (by kernel_rfl) (.of (.int (by kernel_rfl))) (.step _ 2 rfl rfl (by kernel_rfl) (.of (.int (by kernel_rfl))) (.step _ 3 rfl rfl (by kernel_rfl) (.of (.int (by kernel_rfl))) (.step _ 4 rfl rfl (by kernel_rfl) (.of (.int (by kernel_rfl)))
      (.step _ 5 rfl rfl (by kernel_rfl) (.of (.int (by kernel_rfl))) (.step _ 6 rfl rfl (by kernel_rfl) (.string (by kernel_rfl)) (.last _ rfl rfl (by kernel_rfl) int3)))))))) ).mono (fun _ h => h.2.2.2.2.2.2.2)
theorem opensB54 : OpensB Try.prog w base 54 (Kd.slice 79 k79) (fun xs => ∀ x ∈ xs, Bs x) :=
  (OpensB.slice Try.underlying54 (by kernel_rfl) opensB79).mono (fun _ h => h.2)
theorem Bx.texts {xs : List S47} (h : Bx xs) : TextsFit xs := fun x hx => by
  have := h.2 x hx
  have r := reachBytes_lt
  have h2 : x.f2.size ≤ reachBytes := this
  omega
theorem Bg.texts {us : List S69} {rs : List S34} (h : Bg (us, rs)) : GramTexts us rs := by
  obtain ⟨⟨_, h1⟩, _, h3⟩ := h
  have r := reachBytes_lt
  refine ⟨fun u hu => ?_, fun x hx => ?_⟩
  · have h2 : u.f0.size ≤ reachBytes ∧ u.f1.size ≤ reachBytes := h1 u hu
    omega
  · obtain ⟨_, ⟨_, a⟩, b⟩ := h3 x hx
    exact ⟨fun s hs => by have := a s hs; omega, Bx.texts b⟩
end Go.Proofs.Ytmikgaphknbcaaa.B
