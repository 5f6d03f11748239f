/- Texts joined: BFree, BFreeInts. -/
import Derived.Test.YtmikgaphknbcaaaXApp
import Derived.Test.YtmikgaphknbcaaaFx0
import Derived.WalkKit
import Derived.Lib.Hide
import Derived.Deep.LoopGhost
/- Plain facts for the Free.. functions: rows that are written full and grown, one by one. -/
namespace Go.X.Fr
open Go Go.RowKit

def slen : Value → Nat
  | .slice _ n _ => n
  | _ => 0
theorem slen_slice (A : Option Addr) (n c : Nat) : slen (.slice A n c) = n := rfl

/-- The rows: each one is the call's own (from base on), no two share a block. size: an element's cells; T: its type. -/
structure Pre (w : World) (base : Nat) (T : TypeId) (size : Nat) (vs : List Value) : Prop where
  own : ∀ (j : Nat) (v : Value), vs[j]? = some v → ∃ xs, w.ownsRow base T size v (slen v) xs
  apart : ∀ (i j : Nat) (u v : Value), i ≠ j → vs[i]? = some u → vs[j]? = some v → u.ownBlock = none ∨ u.ownBlock ≠ v.ownBlock

/-- Rows below i are written full with their marks; of row i the first k cells are. -/
def P1 (w : World) (base : Nat) (T : TypeId) (vs : List Value) (M : Nat → Value) (i k : Nat) : Prop :=
  ∀ (j : Nat) (v : Value), vs[j]? = some v → ∃ xs, w.ownsRow base T 1 v (slen v) xs ∧ (j < i → xs = List.replicate (slen v) (M j)) ∧ (j = i → xs.take k = List.replicate k (M j))

variable {w w' : World} {base : Nat} {T : TypeId} {vs : List Value} {M : Nat → Value}

theorem P1.begin (h : Pre w base T 1 vs) : P1 w base T vs M 0 0 := fun j v hj => by
  obtain ⟨xs, hx⟩ := h.own j v hj
  exact ⟨xs, hx, fun h0 => absurd h0 (Nat.not_lt_zero _), fun _ => by simp⟩

theorem own_form {n : Nat} {v : Value} {xs : List Value} {size : Nat} (h : w.ownsRow base T size v n xs) : ∃ A c, v = .slice A n c := by
  rcases h.2 with ⟨rfl, rfl⟩ | ⟨g, cap, cur, rfl, _⟩
  · exact ⟨_, _, rfl⟩
  · exact ⟨_, _, rfl⟩
theorem own_form' {v : Value} {xs : List Value} {size : Nat} (h : w.ownsRow base T size v (slen v) xs) : ∃ A n c, v = .slice A n c := by
  obtain ⟨A, c, e⟩ := own_form h
  exact ⟨A, _, c, e⟩
theorem own_some {n : Nat} {A : Option Addr} {c : Nat} {xs : List Value} {size : Nat} (h : w.ownsRow base T size (.slice A n c) n xs) (hn : 0 < n) : ∃ g, A = some ⟨g, 0, none⟩ ∧ base ≤ g ∧ ∃ cur, Blk w g T cur ∧ n * size ≤ cur.length ∧ cur.take (n * size) = xs := by
  rcases h.2 with ⟨h1, rfl⟩ | ⟨g, cap, cur, hv, hb, hh, h1, _, h2, h3⟩
  · omega
  · simp at hv
    obtain ⟨rfl, rfl⟩ := hv
    exact ⟨g, rfl, hb, cur.toList, by simpa [Blk] using hh, by rw [Array.length_toList, h2]; exact Nat.mul_le_mul_right _ h1, h3⟩

theorem P1.next {i n : Nat} {v : Value} (h : P1 w base T vs M i n) (hv : vs[i]? = some v) (hn : n = slen v) : P1 w base T vs M (i + 1) 0 := fun j u hj => by
  obtain ⟨xs, hx, h1, h2⟩ := h j u hj
  refine ⟨xs, hx, fun hlt => ?_, fun _ => by simp⟩
  rcases Nat.lt_or_ge j i with hji | hji
  · exact h1 hji
  · obtain rfl : j = i := by omega
    rw [hv] at hj
    obtain rfl := Option.some.inj hj
    have := h2 rfl
    subst hn
    rwa [List.take_of_length_le (by rw [hx.1]; omega)] at this

theorem P1.store {i k g n c : Nat} (h : P1 w base T vs M i k) (hp : Pre w base T 1 vs) (hv : vs[i]? = some (.slice (some ⟨g, 0, none⟩) n c)) (hk : k < n) :
    P1 (w.setCell ⟨g, k, none⟩ (M i)) base T vs M i (k + 1) ∧ w.grownBy (w.setCell ⟨g, k, none⟩ (M i)) (some g) ∧ Pre (w.setCell ⟨g, k, none⟩ (M i)) base T 1 vs := by
  obtain ⟨xs, hx, _, h2⟩ := h i _ hv
  obtain ⟨hs, hg⟩ := hx.stored k (M i)
  have key : P1 (w.setCell ⟨g, k, none⟩ (M i)) base T vs M i (k + 1) := by
    intro j u hj
    by_cases hji : j = i
    · subst hji
      rw [hv] at hj
      obtain rfl := Option.some.inj hj
      refine ⟨_, hs, fun h0 => absurd h0 (Nat.lt_irrefl _), fun _ => ?_⟩
      have hl : k < xs.length := by have := hx.1; rw [slen_slice] at this; omega
      have h3 := h2 rfl
      rw [List.take_succ_eq_append_getElem (by simpa using hl), List.take_set_of_le (Nat.le_refl _), h3, List.replicate_succ']
      simp
    · obtain ⟨ys, hy, h1, h3⟩ := h j u hj
      exact ⟨ys, hy.kept hg (hp.apart j i u _ hji hj hv), h1, fun e => absurd e hji⟩
  refine ⟨key, hg, ⟨fun j u hj => ?_, hp.apart⟩⟩
  obtain ⟨xs, hx, _⟩ := key j u hj
  exact ⟨xs, hx⟩

/-- Behind the first part: all rows are full; those below i were grown, gs are they; H: the heap's size ahead. -/
structure P2 (w : World) (base : Nat) (T : TypeId) (H : Nat) (vs : List Value) (M G : Nat → Value) (more : Nat) (gs : List Value) : Prop where
  full : ∀ (j : Nat) (v : Value), vs[j]? = some v → w.ownsRow base T 1 v (slen v) (List.replicate (slen v) (M j))
  low : ∀ v ∈ vs, ∀ k, v.ownBlock = some k → k < H
  apart : ∀ (i j : Nat) (u v : Value), i ≠ j → vs[i]? = some u → vs[j]? = some v → u.ownBlock = none ∨ u.ownBlock ≠ v.ownBlock
  len : gs.length ≤ vs.length
  grew : ∀ (j : Nat) (v u : Value), vs[j]? = some v → gs[j]? = some u → w.ownsRow base T 1 u (slen v + more) (List.replicate (slen v) (M j) ++ List.replicate more (G j)) ∧ (u.ownBlock = v.ownBlock ∨ ∃ b, u.ownBlock = some b ∧ H ≤ b)

/-- In the round of row i: x is the row, k elements longer. -/
structure P3 (w : World) (base : Nat) (T : TypeId) (H : Nat) (vs : List Value) (M G : Nat → Value) (more : Nat) (gs : List Value) (v x : Value) (H1 k : Nat) : Prop where
  two : P2 w base T H vs M G more gs
  hH : H ≤ H1
  own : w.ownsRow base T 1 x (slen v + k) (List.replicate (slen v) (M gs.length) ++ List.replicate k (G gs.length))
  place : x.ownBlock = v.ownBlock ∨ ∃ b, x.ownBlock = some b ∧ H1 ≤ b
  old : ∀ u ∈ gs, ∀ b, u.ownBlock = some b → b < H1
  size : H1 ≤ w.heap.size

theorem P2.begin {H : Nat} {G : Nat → Value} {more : Nat} (h : P1 w base T vs M vs.length 0) (hp : Pre w base T 1 vs) (hH : H = w.heap.size) : P2 w base T H vs M G more [] where
  full := fun j v hj => by
    obtain ⟨xs, hx, h1, _⟩ := h j v hj
    rwa [h1 (List.getElem?_eq_some_iff.1 hj).1] at hx
  low := fun v hv k hk => by
    obtain ⟨j, hj⟩ := List.getElem?_of_mem hv
    obtain ⟨xs, hx⟩ := hp.own j v hj
    rw [hH]
    exact (hx.lt k hk).2
  apart := hp.apart
  len := Nat.zero_le _
  grew := fun j v u _ hu => by simp at hu

theorem P2.keep {H : Nat} {G : Nat → Value} {more : Nat} {gs : List Value} (h : P2 w base T H vs M G more gs) {r : Option Nat} (hg : w.grownBy w' r)
    (hr : ∀ b e' sz u k ys, e' = T → w.ownsRow b e' sz u k ys → u.ownBlock = none ∨ u.ownBlock ≠ r) : P2 w' base T H vs M G more gs where
  full := fun j v hj => (h.full j v hj).kept hg (hr _ _ _ _ _ _ rfl (h.full j v hj))
  low := h.low
  apart := h.apart
  len := h.len
  grew := fun j v u hj hu => ⟨((h.grew j v u hj hu).1).kept hg (hr _ _ _ _ _ _ rfl (h.grew j v u hj hu).1), (h.grew j v u hj hu).2⟩

theorem P3.begin {H : Nat} {G : Nat → Value} {more : Nat} {gs : List Value} {v : Value} (h : P2 w base T H vs M G more gs) (hH : H ≤ w.heap.size) (hv : vs[gs.length]? = some v) : P3 w base T H vs M G more gs v v w.heap.size 0 where
  two := h
  hH := hH
  own := by simpa using h.full _ v hv
  place := .inl rfl
  old := fun u hu b hb => by
    obtain ⟨j, hj⟩ := List.getElem?_of_mem hu
    have hl := (List.getElem?_eq_some_iff.1 hj).1
    have := h.len
    obtain ⟨h1, _⟩ := h.grew j _ u (List.getElem?_eq_getElem (show j < vs.length by omega)) hj
    exact (h1.lt b hb).2
  size := Nat.le_refl _

theorem P3.step {H : Nat} {G : Nat → Value} {more k H1 : Nat} {gs : List Value} {v x x' : Value} (h : P3 w base T H vs M G more gs v x H1 k) (hv : vs[gs.length]? = some v)
    (ho : w'.ownsRow base T 1 x' (slen v + k + 1) ((List.replicate (slen v) (M gs.length) ++ List.replicate k (G gs.length)) ++ [G gs.length]))
    (ha : Appended (w.alloc (.cells #[G gs.length] T)) w' T 1 x x' (slen v + k)) : P3 w' base T H vs M G more gs v x' H1 (k + 1) where
  two := {
    full := fun j u hj => by
      refine ha.keeps _ _ _ _ _ _ ((h.two.full j u hj).alloc _) ?_
      by_cases hji : j = gs.length
      · subst hji
        rw [hv] at hj
        obtain rfl := Option.some.inj hj
        exact .inr (.inr ⟨rfl, by omega⟩)
      · rcases h.place with hp | ⟨b, hb, hle⟩
        · rw [hp]
          rcases h.two.apart j _ u v hji hj hv with h1 | h1
          · exact .inl h1
          · exact .inr (.inl h1)
        · refine .inr (.inl fun e => ?_)
          have := h.two.low u (List.mem_of_getElem? hj) b (e.trans hb)
          have := h.hH
          omega
    low := h.two.low
    apart := h.two.apart
    len := h.two.len
    grew := fun j u y hj hy => by
      obtain ⟨h1, h2⟩ := h.two.grew j u y hj hy
      refine ⟨ha.keeps _ _ _ _ _ _ (h1.alloc _) ?_, h2⟩
      have hl := (List.getElem?_eq_some_iff.1 hy).1
      have hne : j ≠ gs.length := by omega
      cases hyb : y.ownBlock with
      | none => exact .inl rfl
      | some c =>
        refine .inr (.inl ?_)
        rcases h.place with hp | ⟨b, hb, hle⟩
        · rw [hp]
          rcases h2 with h2 | ⟨c', hc', hc''⟩
          · rw [hyb] at h2
            rcases h.two.apart j _ u v hne hj hv with h3 | h3
            · rw [h3] at h2; cases h2
            · rw [← h2] at h3; exact h3
          · rw [hyb] at hc'
            obtain rfl := Option.some.inj hc'
            intro e
            have := h.two.low v (List.mem_of_getElem? hv) c e.symm
            omega
        · rw [hb]
          intro e
          have := h.old y (List.mem_of_getElem? hy) c hyb
          have := Option.some.inj e
          omega }
  hH := h.hH
  own := by
    have e : List.replicate (k + 1) (G gs.length) = List.replicate k (G gs.length) ++ [G gs.length] := List.replicate_succ'
    rw [e, ← List.append_assoc]
    exact ho
  place := by
    rcases ha.place with hp | ⟨hp, _⟩
    · rw [hp]; exact h.place
    · exact .inr ⟨_, hp, by have := h.size; simp; omega⟩
  old := h.old
  size := by
    have := ha.grown.size
    have := h.size
    simp at *
    omega

theorem P3.done {H : Nat} {G : Nat → Value} {more H1 : Nat} {gs : List Value} {v x : Value} (h : P3 w base T H vs M G more gs v x H1 more) (hv : vs[gs.length]? = some v) : P2 w base T H vs M G more (gs ++ [x]) where
  full := h.two.full
  low := h.two.low
  apart := h.two.apart
  len := by
    have := (List.getElem?_eq_some_iff.1 hv).1
    rw [List.length_append, List.length_singleton]
    omega
  grew := fun j u y hj hy => by
    rcases Nat.lt_or_ge j gs.length with hlt | hge
    · rw [List.getElem?_append_left hlt] at hy
      exact h.two.grew j u y hj hy
    · have hl := (List.getElem?_eq_some_iff.1 hy).1
      rw [List.length_append, List.length_singleton] at hl
      obtain rfl : j = gs.length := by omega
      rw [List.getElem?_append_right (Nat.le_refl _), Nat.sub_self] at hy
      obtain rfl : x = y := by simpa using hy
      rw [hv] at hj
      obtain rfl := Option.some.inj hj
      refine ⟨h.own, ?_⟩
      rcases h.place with hp | ⟨b, hb, hle⟩
      · exact .inl hp
      · exact .inr ⟨b, hb, Nat.le_trans h.hH hle⟩
end Go.X.Fr
/- dowelbook.FreeInts: lists of the call's own, no two in one block, share no memory. -/
namespace Go.Proofs.Ytmikgaphknbcaaa.B
open Go Go.RowKit Go.X Go.X.Fr Go.Proofs.YtmikgaphknbcaaaW.PrintWords Go.Proofs.Ytmikgaphknbcaaa.F

def MI (j : Nat) : Value := .int .i64 (-1 - (j : Int))
/-- the rows' blocks -/
def S (vs : List Value) (k : Nat) : Prop := ∃ v ∈ vs, v.ownBlock = some k
def GI (j : Nat) : Value := .int .i64 (-100000 - (j : Int))

theorem Pre.hid_store {w : World} {base : Nat} {T : TypeId} {vs : List Value} {M : Nat → Value} {i k g n c B : Nat} {w0 : World} (h : P1 w base T vs M i k) (hp : Pre w base T 1 vs) (hv : vs[i]? = some (.slice (some ⟨g, 0, none⟩) n c)) (hk : k < n)
    {e' : TypeId} (hB : Blk w B e' vs) (hne : e' ≠ T) (hbel : But (S vs) w0 w) :
    P1 (w.setCell ⟨g, k, none⟩ (M i)) base T vs M i (k + 1) ∧ Pre (w.setCell ⟨g, k, none⟩ (M i)) base T 1 vs ∧ Blk (w.setCell ⟨g, k, none⟩ (M i)) B e' vs ∧ But (S vs) w0 (w.setCell ⟨g, k, none⟩ (M i)) ∧ (w.setCell ⟨g, k, none⟩ (M i)).heap.size = w.heap.size := by
  obtain ⟨h1, h2, h3⟩ := h.store hp hv hk
  obtain ⟨xs, hx⟩ := hp.own i _ hv
  obtain ⟨g', hg', _, cur, hcur, _⟩ := own_some hx (show 0 < n by omega)
  obtain rfl : g = g' := by simpa using hg'
  refine ⟨h1, h3, hB.grown h2 ?_, hbel.grown h2 (by intro k hk; obtain rfl := Option.some.inj hk; exact .inl ⟨_, List.mem_of_getElem? hv, rfl⟩), by simp [World.setCell]⟩
  intro e
  exact hB.ne hcur hne (Option.some.inj e)

set_option maxRecDepth 100000 in
set_option maxHeartbeats 4000000 in
theorem FreeInts.calls (B c : Nat) (vs : List Value) (w : World) (hB : Blk w B 36 vs) (hp : Pre w 0 3 1 vs) (hn : vs.length ≤ 1000) (hs : ∀ v ∈ vs, slen v ≤ 4000000) :
    Calls Try.prog 27 #[.slice (some ⟨B, 0, none⟩) vs.length c] w fun e w' => e = .returned (.bool true) ∧ But (S vs) w w' := by
  have HB := Lib.hid hB; clear hB
  have HP := Lib.hid hp; clear hp
  have HS := Lib.hid hs; clear hs
  go_enter Try.func27, Try.ntmps27
  go_wp2
  go_loopg [3] vs.length (fun q v wr => ∃ i : Nat, q + i = vs.length ∧ v = .int .i64 i ∧ Hid (P1 wr 0 3 vs MI i 0 ∧ Pre wr 0 3 1 vs ∧ Blk wr B 36 vs ∧ But (S vs) w wr ∧ wr.heap.size = w.heap.size))
  case atStart => exact ⟨0, by simp, rfl, P1.begin HP.out, HP.out, HB.out, But.refl _ _, rfl⟩
  case round =>
    obtain ⟨i, hi, rfl, HI⟩ := hrel
    by_cases hlt : i < vs.length
    · obtain ⟨v, hv⟩ : ∃ v, vs[i]? = some v := ⟨_, List.getElem?_eq_getElem hlt⟩
      obtain ⟨xs, hx⟩ := HI.out.2.1.own i v hv
      obtain ⟨A, n, cp, rfl⟩ := own_form' hx
      clear hx
      have hsl : n ≤ 4000000 := HS.out _ (List.mem_of_getElem? hv)
      have hc : wr.cell? ⟨B, i, none⟩ = some (.slice A n cp) := (HI.out.2.2.1.cell i).trans hv
      have HV := Lib.hid hv; clear hv
      go_wp2
      go_loopg [4] n (fun q v wr' => ∃ k : Nat, q + k = n ∧ v = .int .i64 k ∧ Hid (P1 wr' 0 3 vs MI i k ∧ Pre wr' 0 3 1 vs ∧ Blk wr' B 36 vs ∧ But (S vs) w wr' ∧ wr'.heap.size = w.heap.size))
      case atStart => exact ⟨0, by simp, rfl, HI.out⟩
      case round =>
        clear hc
        obtain ⟨k, hk, rfl, HK⟩ := hrel
        have hc : wr.cell? ⟨B, i, none⟩ = some (.slice A n cp) := (HK.out.2.2.1.cell i).trans HV.out
        by_cases hkn : k < n
        · obtain ⟨xs, hx⟩ := HK.out.2.1.own i _ HV.out
          obtain ⟨g, rfl, hbg, cur, hcur, hcl, _⟩ := own_some hx (show 0 < n by omega)
          have hfz := hcur.frozen k
          obtain ⟨old, hold⟩ : ∃ old, wr.cell? ⟨g, k, none⟩ = some old := ⟨_, (hcur.cell k).trans (List.getElem?_eq_getElem (by omega))⟩
          clear hx hcur hcl
          go_wp2
          have hst := Pre.hid_store HK.out.1 HK.out.2.1 HV.out hkn HK.out.2.2.1 (by decide) HK.out.2.2.2.1
          go_roundg (n - (k + 1))
          case measure => omega
          case rel => exact ⟨k + 1, by omega, by go_num, hst.1, hst.2.1, hst.2.2.1, hst.2.2.2.1, hst.2.2.2.2.trans HK.out.2.2.2.2⟩
        · go_wp2
          have hnx := P1.next HK.out.1 HV.out (show k = slen (.slice A n cp) by rw [slen_slice]; omega)
          go_roundg (vs.length - (i + 1))
          case measure => omega
          case rel => exact ⟨i + 1, by omega, by go_num, hnx, HK.out.2⟩
    · obtain rfl : i = vs.length := by omega
      have H2 : Hid (P2 wr 0 3 w.heap.size vs MI GI 20 [] ∧ wr.ownsRow 0 36 1 (.slice none 0 0) 0 [] ∧ Blk wr B 36 vs ∧ But (S vs) w wr ∧ w.heap.size ≤ wr.heap.size ∧ (∀ b, (Value.slice none 0 0).ownBlock = some b → w.heap.size ≤ b)) :=
        ⟨P2.begin HI.out.1 HI.out.2.1 HI.out.2.2.2.2.symm, World.ownsRow_nil _ _ _ _, HI.out.2.2.1, HI.out.2.2.2.1, Nat.le_of_eq HI.out.2.2.2.2.symm, by simp [Value.ownBlock]⟩
      clear HI
      go_wp2
      go_loopg [5, 6] vs.length (fun q v5 v6 wr => ∃ gs : List Value, q + gs.length = vs.length ∧ v6 = .int .i64 gs.length ∧ Hid (P2 wr 0 3 w.heap.size vs MI GI 20 gs ∧ wr.ownsRow 0 36 1 v5 gs.length gs ∧ Blk wr B 36 vs ∧ But (S vs) w wr ∧ w.heap.size ≤ wr.heap.size ∧ (∀ b, v5.ownBlock = some b → w.heap.size ≤ b)))
      case atStart => exact ⟨[], by simp, rfl, H2⟩
      case round =>
        clear H2
        obtain ⟨gs, hgs, rfl, HI⟩ := hrel
        by_cases hlt : gs.length < vs.length
        · obtain ⟨v, hv⟩ : ∃ v, vs[gs.length]? = some v := ⟨_, List.getElem?_eq_getElem hlt⟩
          obtain ⟨A, n, cp, rfl⟩ := own_form' (HI.out.1.full _ v hv)
          have hsl : n ≤ 4000000 := HS.out _ (List.mem_of_getElem? hv)
          have hc : wr.cell? ⟨B, gs.length, none⟩ = some (.slice A n cp) := (HI.out.2.2.1.cell _).trans hv
          have HV := Lib.hid hv; clear hv
          have H3 : Hid (P3 wr 0 3 w.heap.size vs MI GI 20 gs (.slice A n cp) (.slice A n cp) wr.heap.size 0 ∧ wr.ownsRow 0 36 1 u5 gs.length gs ∧ Blk wr B 36 vs ∧ But (S vs) w wr ∧ (∀ b, u5.ownBlock = some b → w.heap.size ≤ b)) :=
            ⟨P3.begin HI.out.1 HI.out.2.2.2.2.1 HV.out, HI.out.2.1, HI.out.2.2.1, HI.out.2.2.2.1, HI.out.2.2.2.2.2⟩
          obtain ⟨HH, hHH⟩ : ∃ HH, HH = wr.heap.size := ⟨_, rfl⟩
          rw [← hHH] at H3
          clear hHH
          go_wp2
          clear HI hc
          go_loopg [7, 8] 20 (fun q v7 v8 wr' => ∃ k : Nat, q + k = 20 ∧ v8 = .int .i64 k ∧ Hid (P3 wr' 0 3 w.heap.size vs MI GI 20 gs (.slice A n cp) v7 HH k ∧ wr'.ownsRow 0 36 1 u5 gs.length gs ∧ Blk wr' B 36 vs ∧ But (S vs) w wr' ∧ (∀ b, u5.ownBlock = some b → w.heap.size ≤ b)))
          case atStart => exact ⟨0, by simp, rfl, H3⟩
          case round =>
            clear H3
            obtain ⟨k, hk, rfl, HK⟩ := hrel
            by_cases hk20 : k < 20
            · have hbw' : 0 ≤ wr.heap.size := Nat.zero_le _
              go_wp2_with (first
                | (at_builtin; refine X.append1 rfl (.tmp 50) (.tmp 53) 36 3 rfl 0 (.int .i64 0) 1 8 Try.underlying36 info3 rfl u7 (n + k) _ rfl HK.out.1.own [.int .i64 (-100000 - (gs.length : Int))] rfl rfl ?_ ?_ ?_ hbw' ?_)
                | fail)
              · intro u hu; simp at hu; subst hu; rfl
              · simp only [maxLen]; omega
              · omega
              · intro x' w1 ho ha
                rw [← List.append_assoc] at ho
                have H4 : Hid (P3 w1 0 3 w.heap.size vs MI GI 20 gs (.slice A n cp) x' HH (k + 1) ∧ w1.ownsRow 0 36 1 u5 gs.length gs ∧ Blk w1 B 36 vs ∧ But (S vs) w w1 ∧ (∀ b, u5.ownBlock = some b → w.heap.size ≤ b)) := by
                  have hx := HK.out.1.own
                  refine ⟨HK.out.1.step HV.out ho ha, ha.keeps _ _ _ _ _ _ (HK.out.2.1.alloc _) ?_, ha.keeps_lt (HK.out.2.2.1.grown (World.grownBy_alloc _ _ none) (by simp)) ?_, ?_, HK.out.2.2.2.2⟩
                  · rcases own_type_ne HK.out.2.1 hx (by decide) with h1 | h1
                    · exact .inl h1
                    · exact .inr (.inl h1)
                  · intro e
                    obtain ⟨cells, hcs⟩ := own_typed hx B e.symm
                    exact HK.out.2.2.1.ne (show Blk wr B 3 cells.toList by simpa [Blk] using hcs) (by decide) rfl
                  · exact (HK.out.2.2.2.1.alloc _).grown ha.grown (fun b hb => HK.out.1.place.elim (fun hp => .inl ⟨_, List.mem_of_getElem? HV.out, hp.symm.trans hb⟩) (fun ⟨b', hp, hle⟩ => .inr (by rw [hp] at hb; have := HK.out.1.hH; have := Option.some.inj hb; omega)))
                clear ho ha
                go_wp2
                go_roundg (20 - (k + 1))
                case measure => omega
                case rel => exact ⟨k + 1, by omega, by go_num, H4⟩
            · obtain rfl : k = 20 := by omega
              have hbw' : 0 ≤ wr.heap.size := Nat.zero_le _
              obtain ⟨A', c', e7⟩ := own_form HK.out.1.own
              rw [slen_slice] at e7
              subst e7
              go_wp2_with (first
                | (at_builtin; refine X.append1 rfl (.tmp 55) (.tmp 57) 42 36 rfl 0 (.slice none 0 0) 1 24 Try.underlying42 info36 rfl u5 gs.length _ rfl HK.out.2.1 [(Value.slice A' (n + 20) c')] rfl rfl ?_ ?_ ?_ hbw' ?_)
                | fail)
              · intro u hu; simp at hu; subst hu; rfl
              · simp only [maxLen]; omega
              · omega
              · intro g' w1 ho ha
                have H4 : Hid (P2 w1 0 3 w.heap.size vs MI GI 20 (gs ++ [(Value.slice A' (n + 20) c')]) ∧ w1.ownsRow 0 36 1 g' (gs ++ [(Value.slice A' (n + 20) c')]).length (gs ++ [(Value.slice A' (n + 20) c')]) ∧ Blk w1 B 36 vs ∧ But (S vs) w w1 ∧ w.heap.size ≤ w1.heap.size ∧ (∀ b, g'.ownBlock = some b → w.heap.size ≤ b)) := by
                  have hsz := HK.out.2.2.2.1.size
                  have hd := (HK.out.1.done HV.out).keep (World.grownBy_alloc wr (.cells #[(Value.slice A' (n + 20) c')] 36) none) (fun _ _ _ u _ _ _ _ => by cases u.ownBlock <;> simp)
                  refine ⟨hd.keep ha.grown fun b e' sz u k ys he' hu => ?_, by rw [List.length_append, List.length_singleton]; exact ho, ha.keeps_lt (HK.out.2.2.1.grown (World.grownBy_alloc _ _ none) (by simp)) ?_, ?_, ?_, ?_⟩
                  · subst he'
                    exact own_type_ne hu (HK.out.2.1.alloc _) (by decide)
                  · intro e
                    have := HK.out.2.2.2.2 B e.symm
                    have := HB.out.lt
                    omega
                  · exact (HK.out.2.2.2.1.alloc _).grown ha.grown (fun b hb => .inr (HK.out.2.2.2.2 b hb))
                  · have := ha.grown.size
                    simp at this
                    omega
                  · intro b hb
                    rcases ha.place with hp | ⟨hp, _⟩
                    · exact HK.out.2.2.2.2 b (hp.symm.trans hb)
                    · rw [hp] at hb
                      simp at hb
                      omega
                clear ho ha
                go_wp2
                go_roundg (vs.length - (gs ++ [(Value.slice A' (n + 20) c')]).length)
                case measure => simp; omega
                case rel => exact ⟨gs ++ [(Value.slice A' (n + 20) c')], by simp; omega, by simp, H4⟩
        · have HN0 : Hid (gs.length = vs.length) := by show _ = _; omega
          go_wp2
          go_loopg [9] vs.length (fun q v9 wr => ∃ i : Nat, q + i = vs.length ∧ v9 = .int .i64 i ∧ Hid (P2 wr 0 3 w.heap.size vs MI GI 20 gs ∧ wr.ownsRow 0 36 1 u5 gs.length gs ∧ Blk wr B 36 vs ∧ But (S vs) w wr))
          case atStart => exact ⟨0, by simp, rfl, HI.out.1, HI.out.2.1, HI.out.2.2.1, HI.out.2.2.2.1⟩
          case round =>
            clear HI
            obtain ⟨i, hi, rfl, HI⟩ := hrel
            by_cases hlt : i < vs.length
            · have hN := HN0.out
              obtain ⟨v, hv⟩ : ∃ v, vs[i]? = some v := ⟨_, List.getElem?_eq_getElem hlt⟩
              obtain ⟨u, hu⟩ : ∃ u, gs[i]? = some u := ⟨_, List.getElem?_eq_getElem (by omega)⟩
              have hfull := HI.out.1.full i v hv
              have hgrew := (HI.out.1.grew i v u hv hu).1
              obtain ⟨A, n, cp, rfl⟩ := own_form' hfull
              rw [slen_slice] at hgrew hfull
              obtain ⟨A', cu, rfl⟩ := own_form hgrew
              obtain ⟨ga, rfl, _, cur, hcur, hcl, hct⟩ := own_some hgrew (by omega)
              obtain ⟨Ag, cg, e5⟩ := own_form HI.out.2.1
              obtain ⟨gb, eg, _, gcur, hgcur, hgl, hgt⟩ := own_some (e5 ▸ HI.out.2.1) (by omega)
              subst e5
              subst eg
              have hsl : n ≤ 4000000 := HS.out _ (List.mem_of_getElem? hv)
              have hc : wr.cell? ⟨B, i, none⟩ = some (.slice A n cp) := (HI.out.2.2.1.cell _).trans hv
              have hg : wr.cell? ⟨gb, i, none⟩ = some (.slice (some ⟨ga, 0, none⟩) (n + 20) cu) := by
                rw [hgcur.cell, ← hu, ← hgt, List.getElem?_take, if_pos (by omega)]
              have HX : ∀ k, k < n + 20 → wr.cell? ⟨ga, k, none⟩ = some (if k < n then MI i else GI i) := by
                intro k hk
                rw [hcur.cell]
                have h1 : (cur.take ((n + 20) * 1))[k]? = cur[k]? := by rw [List.getElem?_take, if_pos (by omega)]
                rw [← h1, hct]
                by_cases hkn : k < n
                · rw [if_pos hkn, List.getElem?_append_left (by simpa using hkn), List.getElem?_replicate, if_pos hkn]
                · rw [if_neg hkn, List.getElem?_append_right (by simp; omega), List.length_replicate, List.getElem?_replicate, if_pos (by omega)]
              have HY : ∀ k, k < n → ∃ g0, A = some ⟨g0, 0, none⟩ ∧ wr.cell? ⟨g0, k, none⟩ = some (MI i) := by
                intro k hk
                obtain ⟨g0, e0, _, cur0, hcur0, hcl0, hct0⟩ := own_some hfull (by omega)
                refine ⟨g0, e0, ?_⟩
                have h1 : (cur0.take (n * 1))[k]? = cur0[k]? := by rw [List.getElem?_take, if_pos (by omega)]
                rw [hcur0.cell, ← h1, hct0, List.getElem?_replicate, if_pos hk]
              have HX' := Lib.hid HX; clear HX
              have HY' := Lib.hid HY; clear HY
              clear hv hu hfull hgrew hcur hcl hct hgcur hgl hgt
              clear hN
              clear HN0
              go_wp2
              go_loopg [10] (n + 20) (fun q v10 wr' => ∃ k : Nat, q + k = n + 20 ∧ v10 = .int .i64 k ∧ wr' = wr)
              case atStart => exact ⟨0, by simp, rfl, rfl⟩
              case round =>
                obtain ⟨k, hk, rfl, rfl⟩ := hrel
                by_cases hk20 : k < n + 20
                · have hx := HX'.out k hk20
                  by_cases hkn : k < n
                  · rw [if_pos hkn] at hx
                    have hx' : wr.cell? ⟨ga, k, none⟩ = some (.int .i64 (-1 - (i : Int))) := hx
                    clear hx
                    go_wp2
                    go_roundg (n + 20 - (k + 1))
                    case measure => omega
                    case rel => exact ⟨k + 1, by omega, by go_num, rfl⟩
                  · rw [if_neg hkn] at hx
                    have hx' : wr.cell? ⟨ga, k, none⟩ = some (.int .i64 (-100000 - (i : Int))) := hx
                    clear hx
                    go_wp2
                    go_roundg (n + 20 - (k + 1))
                    case measure => omega
                    case rel => exact ⟨k + 1, by omega, by go_num, rfl⟩
                · go_wp2
                  go_loopg [12] n (fun q v12 wr' => ∃ k : Nat, q + k = n ∧ v12 = .int .i64 k ∧ wr' = wr)
                  case atStart => exact ⟨0, by simp, rfl, rfl⟩
                  case round =>
                    obtain ⟨k', hk', rfl, rfl⟩ := hrel
                    by_cases hkn : k' < n
                    · obtain ⟨g0, rfl, hy⟩ := HY'.out k' hkn
                      have hy' : wr.cell? ⟨g0, k', none⟩ = some (.int .i64 (-1 - (i : Int))) := hy
                      clear hy
                      go_wp2
                      go_roundg (n - (k' + 1))
                      case measure => omega
                      case rel => exact ⟨k' + 1, by omega, by go_num, rfl⟩
                    · go_wp2
                      go_roundg (vs.length - (i + 1))
                      case measure => omega
                      case rel => exact ⟨i + 1, by omega, by go_num, HI.out⟩
            · go_wp2
              go_ret
              exact ⟨rfl, HI.out.2.2.2⟩
end Go.Proofs.Ytmikgaphknbcaaa.B
