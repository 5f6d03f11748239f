/- ScriptParts: what the walk of the law carries along. -/
import Derived.Test.YtmikgaphknbcaaaSNest2
import Derived.Test.YtmikgaphknbcaaaBFreeInts
namespace Go.Proofs.Ytmikgaphknbcaaa.B
open Go Go.RowKit Go.X Go.Proofs.YtmikgaphknbcaaaW.PrintWords Go.Proofs.Ytmikgaphknbcaaa.F

/-- At world wc, begun at w0: the list that was lent (block b), and rows of ints, no two in one block. -/
structure LS (w0 wc : World) (b : Nat) (xs : List S47) (L : List (Value × List Int)) : Prop where
  lent : Lent k47 47 wc b xs holdNode
  hb : w0.heap.size ≤ b
  bel : Below w0.heap.size w0 wc
  rows : ∀ (j : Nat) (p : Value × List Int), L[j]? = some p → wc.ownsRow (b + 1) 3 1 p.1 p.2.length (nums .i64 p.2)
  apart : ∀ (i j : Nat) (p q : Value × List Int), i ≠ j → L[i]? = some p → L[j]? = some q → p.1.ownBlock = none ∨ p.1.ownBlock ≠ q.1.ownBlock

variable {w0 wc wd : World} {b : Nat} {xs : List S47} {L : List (Value × List Int)}
theorem own_below {w w' : World} {base n : Nat} {e : TypeId} {size : Nat} {v : Value} {ys : List Value} (h : w.ownsRow base e size v n ys) (hb : Below w.heap.size w w') : w'.ownsRow base e size v n ys :=
  h.kept (row := none) ⟨hb.os, hb.tape, hb.output, hb.size, fun k hk _ => hb.block k hk⟩ (by cases v.ownBlock <;> simp)
theorem LS.below (h : LS w0 wc b xs L) (hb : Below wc.heap.size wc wd) : LS w0 wd b xs L :=
  ⟨h.lent.below hb, h.hb, h.bel.trans (hb.mono h.bel.size), fun j p hj => own_below (h.rows j p hj) hb, h.apart⟩
theorem LS.add {l : List Int} {e : Ending} (h : LS w0 wc b xs L) (ho : OwnI wc wd l e) : ∃ A c, e = .returned (.slice A l.length c) ∧ LS w0 wd b xs (L ++ [(.slice A l.length c, l)]) := by
  obtain ⟨v, rfl, ho, hb⟩ := ho
  obtain ⟨A, c, rfl, -, -⟩ := C_of_own ho
  have hd := h.below hb
  have hlt := h.lent.lt
  refine ⟨A, c, rfl, hd.lent, hd.hb, hd.bel, fun j p hj => ?_, fun i j p q hij hi hj => ?_⟩
  · rcases Nat.lt_or_ge j L.length with hl | hl
    · rw [List.getElem?_append_left hl] at hj
      exact hd.rows j p hj
    · have hl2 := (List.getElem?_eq_some_iff.1 hj).1
      rw [List.length_append, List.length_singleton] at hl2
      obtain rfl : j = L.length := by omega
      rw [List.getElem?_append_right (Nat.le_refl _), Nat.sub_self] at hj
      obtain rfl : _ = p := by simpa using hj
      exact own_weaken ho (by omega)
  · have key : ∀ (j : Nat) (p : Value × List Int), L[j]? = some p → p.1.ownBlock = none ∨ ∃ k, p.1.ownBlock = some k ∧ k < wc.heap.size := by
      intro j p hj
      cases hp : p.1.ownBlock with
      | none => exact .inl rfl
      | some k => exact .inr ⟨k, rfl, ((h.rows j p hj).lt k hp).2⟩
    have new : ∀ k, (Value.slice A l.length c).ownBlock = some k → wc.heap.size ≤ k := fun k hk => (ho.lt k hk).1
    have at_ : ∀ (j : Nat) (p : Value × List Int), (L ++ [(Value.slice A l.length c, l)])[j]? = some p → (j < L.length ∧ L[j]? = some p) ∨ (j = L.length ∧ p = (Value.slice A l.length c, l)) := by
      intro j p hj
      rcases Nat.lt_or_ge j L.length with hl | hl
      · rw [List.getElem?_append_left hl] at hj
        exact .inl ⟨hl, hj⟩
      · have hl2 := (List.getElem?_eq_some_iff.1 hj).1
        rw [List.length_append, List.length_singleton] at hl2
        obtain rfl : j = L.length := by omega
        rw [List.getElem?_append_right (Nat.le_refl _), Nat.sub_self] at hj
        exact .inr ⟨rfl, by simpa using hj.symm⟩
    rcases at_ i p hi with ⟨_, h1⟩ | ⟨e1, rfl⟩
    · rcases at_ j q hj with ⟨_, h2⟩ | ⟨e2, rfl⟩
      · exact h.apart i j p q hij h1 h2
      · rcases key i p h1 with h3 | ⟨k, h3, h4⟩
        · exact .inl h3
        · refine .inr fun e => ?_
          rw [h3] at e
          have := new k e.symm
          omega
    · rcases at_ j q hj with ⟨_, h2⟩ | ⟨e2, rfl⟩
      · rcases key j q h2 with h3 | ⟨k, h3, h4⟩
        · cases hn : (Value.slice A l.length c).ownBlock with
          | none => exact .inl rfl
          | some k => exact .inr (by rw [h3]; simp)
        · refine .inr fun e => ?_
          rw [h3] at e
          have := new k e
          omega
      · omega
theorem LS.C {A : Option Addr} {l : List Int} {c : Nat} (h : LS w0 wc b xs L) (j : Nat) (hj : L[j]? = some (.slice A l.length c, l)) : Kd.C (Kd.int .i64) wc A l.length l := by
  obtain ⟨A', c', e, -, hC⟩ := C_of_own (h.rows j _ hj)
  simp at e
  rw [← e.1] at hC
  exact hC
theorem LS.own (h : LS w0 wc b xs L) (hn : xs.length ≤ 1048576) : Kd.C k47 wc (some ⟨b, 0, none⟩) xs.length xs := h.lent.C (by omega)
/-- What FreeInts asks of the rows. -/
theorem LS.pre (h : LS w0 wc b xs L) (M : List (Value × List Int)) (hM : ∀ (j : Nat) (p : Value × List Int), M[j]? = some p → L[j]? = some p) (hs : ∀ p ∈ M, Fr.slen p.1 = p.2.length) (o : Obj) : Fr.Pre (wc.alloc o) 0 3 1 (M.map (·.1)) where
  own := fun j v hj => by
    rw [List.getElem?_map] at hj
    obtain ⟨p, hp, rfl⟩ := Option.map_eq_some_iff.1 hj
    have := h.rows j p (hM j p hp)
    rw [hs p (List.mem_of_getElem? hp)]
    exact ⟨_, own_weaken (this.alloc o) (Nat.zero_le _)⟩
  apart := fun i j u v hij hi hj => by
    rw [List.getElem?_map] at hi hj
    obtain ⟨p, hp, rfl⟩ := Option.map_eq_some_iff.1 hi
    obtain ⟨q, hq, rfl⟩ := Option.map_eq_some_iff.1 hj
    exact h.apart i j p q hij (hM i p hp) (hM j q hq)
/-- Behind FreeInts: what was lent, and a row that was not handed in. -/
theorem LS.free (h : LS w0 wc b xs L) {M : List (Value × List Int)} {v : Value} {l : List Int} (hL : L = M ++ [(v, l)]) {o : Obj} (g : But (S (M.map (·.1))) (wc.alloc o) wd) :
    LS w0 wd b xs [(v, l)] := by
  subst hL
  have hS : ∀ k, S (M.map (·.1)) k → b + 1 ≤ k := by
    rintro k ⟨u, hu, hk⟩
    obtain ⟨p, hp, rfl⟩ := List.mem_map.1 hu
    obtain ⟨j, hj⟩ := List.getElem?_of_mem hp
    exact ((h.rows j p (by rw [List.getElem?_append_left (List.getElem?_eq_some_iff.1 hj).1]; exact hj)).lt k hk).1
  have hlt := h.lent.lt
  have hsz : wc.heap.size ≤ wd.heap.size := Nat.le_trans (by simp) g.size
  have hbelow : Below (b + 1) wc wd := by
    have h1 : Below (b + 1) wc (wc.alloc o) := (Below.refl _ _).alloc (by omega) o
    exact h1.trans (g.below hS (by simp; omega))
  refine ⟨?_, h.hb, h.bel.trans (hbelow.mono (by have := h.hb; omega)), fun j p hj => ?_, fun i j p q hij hi hj => ?_⟩
  · obtain ⟨cs, hr, hblk⟩ := h.lent.out
    refine ⟨cs, hr.imp_ (fun x c hk => ?_), hblk.below hbelow (by omega)⟩
    have := k47_open hk
    rw [this]
    exact k47_mk wd x
  · have hj0 : j = 0 := by have := (List.getElem?_eq_some_iff.1 hj).1; simp at this; omega
    subst hj0
    obtain rfl : (v, l) = p := by simpa using hj
    have hv := h.rows M.length (v, l) (by simp)
    refine ⟨hv.1, ?_⟩
    rcases hv.2 with hnil | ⟨gg, cap, cur, e1, e2, e3, e4⟩
    · exact .inl hnil
    · refine .inr ⟨gg, cap, cur, e1, e2, ?_, e4⟩
      have hgl : gg < wc.heap.size := (Array.getElem?_eq_some_iff.1 e3).1
      have hal : (wc.alloc o).heap[gg]? = some (.cells cur 3) := (Below.heap_alloc wc o gg hgl).trans e3
      refine (g.block gg (by simp; omega) ?_).trans hal
      rintro ⟨u, hu, hgu⟩
      obtain ⟨p, hp, rfl⟩ := List.mem_map.1 hu
      obtain ⟨i, hi⟩ := List.getElem?_of_mem hp
      have hil := (List.getElem?_eq_some_iff.1 hi).1
      rcases h.apart i M.length p (v, l) (by omega) (by rw [List.getElem?_append_left hil]; exact hi) (by simp) with h1 | h1
      · rw [hgu] at h1; cases h1
      · refine h1 (hgu.trans ?_)
        rw [e1]; rfl
  · have h1 := (List.getElem?_eq_some_iff.1 hi).1
    have h2 := (List.getElem?_eq_some_iff.1 hj).1
    simp at h1 h2
    omega
end Go.Proofs.Ytmikgaphknbcaaa.B
