/- Arguments opened: a datum that reads as type t is a value of the kind d. -/
import Derived.Test.YtmikgaphknbcaaaXCore
import Derived.Deep.Slices
import Derived.OpenShut
namespace Go.X
open Go Go.RowKit Go.Proofs.YtmikgaphknbcaaaW.PrintWords Go.ChangeShapes Go.WideShapes
variable {α β : Type} {P : Program} {w : World} {base : Nat}

/-- Whatever reads as type t is of the kind d. -/
def Opens (P : Program) (w : World) (base : Nat) (t : TypeId) (d : Kd α) : Prop :=
  ∀ (H : Type) (enc : TypeId × Value → H) (spare : Nat → Bool) (held : Bool) (fuel : Nat) (cs : List Value) (x : DataW H × List MemPlace), DataW.trod enc P w base spare held fuel t cs = some x → ∃ v, d.K w v cs

theorem Opens.int {t : TypeId} {k : IntKind} (h : P.underlying t = some (.int k)) : Opens P w base t (Kd.int k) := fun _ _ _ _ _ _ _ hx => by
  obtain ⟨n, rfl, _⟩ := DataW.trod_int h hx
  exact ⟨n, rfl⟩
theorem Opens.bool {t : TypeId} (h : P.underlying t = some .bool) : Opens P w base t Kd.bool := fun _ _ _ _ _ _ _ hx => by
  obtain ⟨n, rfl, _⟩ := DataW.trod_bool h hx
  exact ⟨n, rfl⟩
theorem Opens.string {t : TypeId} (h : P.underlying t = some .string) : Opens P w base t Kd.string := fun _ _ _ _ _ _ _ hx => by
  obtain ⟨n, rfl, _⟩ := DataW.trod_string h hx
  exact ⟨n, rfl⟩
theorem Opens.slice {t e : TypeId} {d : Kd α} (h : P.underlying t = some (.slice e)) (hc : P.cellsOf e = d.sz) (hd : Opens P w base e d) : Opens P w base t (Kd.slice e d) := fun H enc spare held fuel cs x hx => by
  rcases Go.Deep.open_slice h hx with ⟨rfl, _⟩ | ⟨a, len, cap, m, n, D, Pl, rfl, hb, hl, hm, hmm, _, hi⟩
  · exact ⟨[], none, 0, rfl, Nat.le_refl _, rfl, by simp, fun h => absurd h (Nat.lt_irrefl _)⟩
  · have hlm : len ≤ m := by rw [hmm]; split <;> omega
    obtain ⟨⟨v0⟩⟩ | hne : Nonempty α ∨ len = 0 := by
      rcases Nat.eq_zero_or_pos len with h0 | h0
      · exact .inr h0
      · obtain ⟨cs', h1, h2⟩ := hi 0 (by omega)
        obtain ⟨v, _⟩ := hd _ _ _ _ _ _ _ h2
        exact .inl ⟨v⟩
    · letI : Inhabited α := ⟨v0⟩
      obtain ⟨V, hV⟩ := Go.Deep.choose_lt (α := α) (n := len) (p := fun i v => ∃ cs', w.cells? base (a.add (i * P.cellsOf e)) (P.cellsOf e) = some cs' ∧ d.K w v cs') (fun i hilt => by
        obtain ⟨cs', h1, h2⟩ := hi i (by omega)
        obtain ⟨v, hv⟩ := hd _ _ _ _ _ _ _ h2
        exact ⟨v, cs', h1, hv⟩)
      refine ⟨(List.range len).map V, some a, cap, by simp, by simpa using hl, by simp, by simp [maxLen] at hm ⊢; omega, fun _ => ⟨a, rfl, fun j p hj => ?_⟩⟩
      have hjl : j < len := by
        have := (List.getElem?_eq_some_iff.1 hj).1
        simpa using this
      obtain rfl : V j = p := by simpa [hjl] using hj
      obtain ⟨cs', h1, hv⟩ := hV j hjl
      obtain ⟨_, hlen, hcl⟩ := World.cells?_some h1
      refine ⟨cs', by rw [hlen, hc], hv, fun i u hiu => ?_⟩
      have hi' : i < cs'.length := (List.getElem?_eq_some_iff.1 hiu).1
      rw [← Go.Deep.add_add, ← hc, hcl i (by omega), hiu]
    · subst hne
      exact ⟨[], some a, cap, rfl, Nat.zero_le _, rfl, by simp, fun h => absurd h (Nat.lt_irrefl _)⟩
theorem Opens.iso {t : TypeId} {d : Kd α} {f : β → α} (g : α → β) (hg : ∀ x, f (g x) = x) (hd : Opens P w base t d) : Opens P w base t (Kd.iso d f) := fun H enc spare held fuel cs x hx => by
  obtain ⟨v, hv⟩ := hd H enc spare held fuel cs x hx
  exact ⟨g v, by show d.K w (f (g v)) cs; rw [hg]; exact hv⟩

/-- The fields from the i-th on (from cell o on) read as the kind d; N: the cells of all. -/
def OpensFs (P : Program) (w : World) (base : Nat) (fs : Array Field) (N i o : Nat) (d : Kd α) : Prop :=
  ∀ (H : Type) (enc : TypeId × Value → H) (spare : Nat → Bool) (held : Bool) (fuel : Nat) (cs : List Value), cs.length = N →
    (∀ (j : Nat) (f : Field), i ≤ j → fs[j]? = some f → ∃ x, DataW.trod enc P w base spare held fuel f.type ((cs.drop f.offset).take (P.cellsOf f.type)) = some x) → ∃ v, d.K w v (cs.drop o)
theorem OpensFs.last {fs : Array Field} {N i o : Nat} {d : Kd α} (f : Field) (hf : fs[i]? = some f) (ho : f.offset = o) (hN : o + P.cellsOf f.type = N) (hd : Opens P w base f.type d) : OpensFs P w base fs N i o d := fun H enc spare held fuel cs hcs h => by
  obtain ⟨x, hx⟩ := h i f (Nat.le_refl _) hf
  rw [ho, List.take_of_length_le (by rw [List.length_drop]; omega)] at hx
  exact hd _ _ _ _ _ _ _ hx
theorem OpensFs.step {fs : Array Field} {N i o : Nat} {d1 : Kd α} {d2 : Kd β} (f : Field) (o' : Nat) (hf : fs[i]? = some f) (ho : f.offset = o) (hN : o + P.cellsOf f.type = o') (hd : Opens P w base f.type d1) (hr : OpensFs P w base fs N (i + 1) o' d2) : OpensFs P w base fs N i o (Kd.pair d1 d2) := fun H enc spare held fuel cs hcs h => by
  obtain ⟨x, hx⟩ := h i f (Nat.le_refl _) hf
  rw [ho] at hx
  obtain ⟨v1, h1⟩ := hd _ _ _ _ _ _ _ hx
  obtain ⟨v2, h2⟩ := hr H enc spare held fuel cs hcs (fun j f hj hjf => h j f (by omega) hjf)
  refine ⟨(v1, v2), _, _, ?_, h1, h2⟩
  rw [← hN, ← List.drop_drop, List.take_append_drop]
theorem Opens.struct {t : TypeId} {fs : Array Field} {d : Kd α} (h : P.underlying t = some (.struct fs)) (hd : OpensFs P w base fs (P.cellsOf t) 0 0 d) : Opens P w base t d := fun H enc spare held fuel cs x hx => by
  obtain ⟨xs, n, _, _, hl, hxl, hf⟩ := DataW.trod_struct h hx
  obtain ⟨v, hv⟩ := hd H enc spare held n cs hl (fun j f _ hj => ⟨xs[j]'(by rw [hxl]; exact (Array.getElem?_eq_some_iff.1 hj).1), by rw [hf j f hj]; exact List.getElem?_eq_getElem _⟩)
  exact ⟨v, by simpa using hv⟩

/-- The parts of an array from the i-th on. -/
def OpensAs (P : Program) (w : World) (base : Nat) (e : TypeId) (n i : Nat) (d : Kd α) : Prop :=
  ∀ (H : Type) (enc : TypeId × Value → H) (spare : Nat → Bool) (held : Bool) (fuel : Nat) (cs : List Value), cs.length = n * P.cellsOf e →
    (∀ (j : Nat), j < n → ∃ x, DataW.trod enc P w base spare held fuel e ((cs.drop (j * P.cellsOf e)).take (P.cellsOf e)) = some x) → ∃ v, d.K w v (cs.drop (i * P.cellsOf e))
theorem OpensAs.last {e : TypeId} {n i : Nat} {d : Kd α} (hi : i + 1 = n) (hd : Opens P w base e d) : OpensAs P w base e n i d := fun H enc spare held fuel cs hcs h => by
  obtain ⟨x, hx⟩ := h i (by omega)
  rw [List.take_of_length_le (by rw [List.length_drop, hcs, ← hi, Nat.succ_mul]; omega)] at hx
  exact hd _ _ _ _ _ _ _ hx
theorem OpensAs.step {e : TypeId} {n i : Nat} {d1 : Kd α} {d2 : Kd β} (hi : i < n) (hd : Opens P w base e d1) (hr : OpensAs P w base e n (i + 1) d2) : OpensAs P w base e n i (Kd.pair d1 d2) := fun H enc spare held fuel cs hcs h => by
  obtain ⟨x, hx⟩ := h i hi
  obtain ⟨v1, h1⟩ := hd _ _ _ _ _ _ _ hx
  obtain ⟨v2, h2⟩ := hr H enc spare held fuel cs hcs h
  refine ⟨(v1, v2), _, _, ?_, h1, h2⟩
  rw [Nat.succ_mul, ← List.drop_drop, List.take_append_drop]
theorem Opens.array {t e : TypeId} {n : Nat} {d : Kd α} (h : P.underlying t = some (.array n e)) (hc : P.cellsOf t = n * P.cellsOf e) (hd : OpensAs P w base e n 0 d) : Opens P w base t d := fun H enc spare held fuel cs x hx => by
  obtain ⟨xs, m, _, _, hl, hxl, hf⟩ := DataW.trod_array h hx
  obtain ⟨v, hv⟩ := hd H enc spare held m cs (by rw [hl, hc]) (fun j hj => ⟨xs[j]'(by omega), by rw [hf j hj]; exact List.getElem?_eq_getElem _⟩)
  exact ⟨v, by simpa using hv⟩

/-- An argument that is a slice. -/
theorem Opens.arg {H : Type} {enc : TypeId × Value → H} {spare : Nat → Bool} {held : Bool} {r : Reach} {b0 : Nat} {t e : TypeId} {d : Kd α} {v : Value} {x : DataW H} {p : List MemPlace} (ht : P.underlying t = some (.slice e)) (hd : Opens P w base t (Kd.slice e d))
    (hv : Value.okWide P w r b0 t v) (h : DataW.Trod enc P w base spare held t v x p) :
    ∃ (A : Option Addr) (c : Nat) (xs : List α), v = .slice A xs.length c ∧ xs.length ≤ c ∧ Kd.C d w A xs.length xs := by
  obtain ⟨a0, len0, cap0, rfl⟩ := okWide_slice ht hv
  obtain ⟨m, hm⟩ := h
  obtain ⟨xs, A, c, e1, hl, hC⟩ := hd _ _ _ _ _ _ _ (by simpa [Value.cells] using hm)
  exact ⟨A, c, xs, by simpa using e1, hl, hC⟩
/-- Where what is read lies. -/
theorem trod_lt {H : Type} {enc : TypeId × Value → H} {spare : Nat → Bool} {held : Bool} {t : TypeId} {v : Value} {x : DataW H} {p : List MemPlace} (h : DataW.Trod enc P w base spare held t v x p) : ∀ y ∈ p, y.block < w.heap.size := by
  obtain ⟨m, hm⟩ := h
  exact DataW.trod_lt m _ _ _ hm
end Go.X
