/- Arguments opened, with what memory can hold: a datum that reads as type t, within the reach, is a value of the kind d that meets B. -/
import Derived.Test.YtmikgaphknbcaaaXOpen
import Derived.SizedLaws
namespace Go.X
open Go Go.RowKit Go.Proofs.YtmikgaphknbcaaaW.PrintWords Go.ChangeShapes Go.WideShapes
variable {α β : Type} {P : Program} {w : World} {base : Nat}

def Fits {H : Type} (P : Program) (t : TypeId) (x : DataW H) : Prop := ∀ n ∈ x.weights P t, n ≤ reachBytes
/-- Whatever reads as type t within the reach is of the kind d and meets B. -/
def OpensB (P : Program) (w : World) (base : Nat) (t : TypeId) (d : Kd α) (B : α → Prop) : Prop :=
  ∀ (H : Type) (enc : TypeId × Value → H) (spare : Nat → Bool) (held : Bool) (fuel : Nat) (cs : List Value) (x : DataW H × List MemPlace), DataW.trod enc P w base spare held fuel t cs = some x → Fits P t x.1 → ∃ v, d.K w v cs ∧ B v

theorem OpensB.of {t : TypeId} {d : Kd α} (h : Opens P w base t d) : OpensB P w base t d (fun _ => True) := fun _ _ _ _ _ _ _ hx _ => by
  obtain ⟨v, hv⟩ := h _ _ _ _ _ _ _ hx
  exact ⟨v, hv, trivial⟩
theorem OpensB.mono {t : TypeId} {d : Kd α} {B B' : α → Prop} (h : OpensB P w base t d B) (hb : ∀ v, B v → B' v) : OpensB P w base t d B' := fun _ _ _ _ _ _ _ hx hf => by
  obtain ⟨v, hv, h1⟩ := h _ _ _ _ _ _ _ hx hf
  exact ⟨v, hv, hb v h1⟩
theorem OpensB.string {t : TypeId} (h : P.underlying t = some .string) : OpensB P w base t Kd.string (fun s => s.size ≤ reachBytes) := fun _ _ _ _ _ _ x hx hf => by
  obtain ⟨n, rfl, e, _⟩ := DataW.trod_string h hx
  refine ⟨n, rfl, ?_⟩
  have := hf n.data.toList.length (by subst e; simp [DataW.weights])
  simpa using this
theorem OpensB.slice {t e : TypeId} {d : Kd α} {B : α → Prop} (h : P.underlying t = some (.slice e)) (hc : P.cellsOf e = d.sz) (hd : OpensB P w base e d B) : OpensB P w base t (Kd.slice e d) (fun xs => xs.length * P.bytesOf e ≤ reachBytes ∧ ∀ x ∈ xs, B x) := fun H enc spare held fuel cs x hx hf => by
  rcases Go.Deep.open_slice h hx with ⟨rfl, _⟩ | ⟨a, len, cap, m, n, D, Pl, rfl, hb, hl, hm, hmm, e0, hi⟩
  · exact ⟨[], ⟨none, 0, rfl, Nat.le_refl _, rfl, by simp, fun h => absurd h (Nat.lt_irrefl _)⟩, by simp, by simp⟩
  · have hlm : len ≤ m := by rw [hmm]; split <;> omega
    subst e0
    have hlen : len * P.bytesOf e ≤ reachBytes := by
      have := hf ((((List.range len).map D).length + ((List.range (m - len)).map fun j => D (len + j)).length) * P.bytesOf e) (by simp [DataW.weights, h])
      refine Nat.le_trans (Nat.mul_le_mul_right _ ?_) this
      simp
    have helt : ∀ i, i < len → Fits P e (D i) := fun i hi n hn => hf n (by
      simp only [DataW.weights, h, List.mem_cons, List.mem_append]
      refine .inr (.inl ?_)
      have : ∀ (l : List (DataW H)) (d0 : DataW H), d0 ∈ l → n ∈ d0.weights P e → n ∈ DataW.weightsAll P e l := by
        intro l d0 h1 h2
        induction l with
        | nil => cases h1
        | cons a r ih =>
          simp only [DataW.weightsAll, List.mem_append]
          rcases List.mem_cons.1 h1 with rfl | h1
          · exact .inl h2
          · exact .inr (ih h1)
      exact this _ (D i) (List.mem_map.2 ⟨i, by simpa using hi, rfl⟩) hn)
    obtain ⟨⟨v0⟩⟩ | hne : Nonempty α ∨ len = 0 := by
      rcases Nat.eq_zero_or_pos len with h0 | h0
      · exact .inr h0
      · obtain ⟨cs', h1, h2⟩ := hi 0 (by omega)
        obtain ⟨v, _⟩ := hd _ _ _ _ _ _ _ h2 (helt 0 h0)
        exact .inl ⟨v⟩
    · letI : Inhabited α := ⟨v0⟩
      obtain ⟨V, hV⟩ := Go.Deep.choose_lt (α := α) (n := len) (p := fun i v => (∃ cs', w.cells? base (a.add (i * P.cellsOf e)) (P.cellsOf e) = some cs' ∧ d.K w v cs') ∧ B v) (fun i hilt => by
        obtain ⟨cs', h1, h2⟩ := hi i (by omega)
        obtain ⟨v, hv, hB⟩ := hd _ _ _ _ _ _ _ h2 (helt i hilt)
        exact ⟨v, ⟨cs', h1, hv⟩, hB⟩)
      refine ⟨(List.range len).map V, ⟨some a, cap, by simp, by simpa using hl, by simp, by simp [maxLen] at hm ⊢; omega, fun _ => ⟨a, rfl, fun j p hj => ?_⟩⟩, by simpa using hlen, fun x hx => ?_⟩
      · have hjl : j < len := by
          have := (List.getElem?_eq_some_iff.1 hj).1
          simpa using this
        obtain rfl : V j = p := by simpa [hjl] using hj
        obtain ⟨⟨cs', h1, hv⟩, _⟩ := hV j hjl
        obtain ⟨_, hlen, hcl⟩ := World.cells?_some h1
        refine ⟨cs', by rw [hlen, hc], hv, fun i u hiu => ?_⟩
        have hi' : i < cs'.length := (List.getElem?_eq_some_iff.1 hiu).1
        rw [← Go.Deep.add_add, ← hc, hcl i (by omega), hiu]
      · obtain ⟨i, hi, rfl⟩ := List.mem_map.1 hx
        exact (hV i (by simpa using hi)).2
    · subst hne
      exact ⟨[], ⟨some a, cap, rfl, Nat.zero_le _, rfl, by simp, fun h => absurd h (Nat.lt_irrefl _)⟩, by simp, by simp⟩
theorem OpensB.iso {t : TypeId} {d : Kd α} {B : α → Prop} {f : β → α} (g : α → β) (hg : ∀ x, f (g x) = x) (hd : OpensB P w base t d B) : OpensB P w base t (Kd.iso d f) (fun v => B (f v)) := fun H enc spare held fuel cs x hx hf => by
  obtain ⟨v, hv, hB⟩ := hd H enc spare held fuel cs x hx hf
  exact ⟨g v, by show d.K w (f (g v)) cs; rw [hg]; exact hv, by show B (f (g v)); rw [hg]; exact hB⟩

/-- The fields from the i-th on (from cell o on) read as the kind d; N: the cells of all. -/
def OpensFsB (P : Program) (w : World) (base : Nat) (fs : Array Field) (N i o : Nat) (d : Kd α) (B : α → Prop) : Prop :=
  ∀ (H : Type) (enc : TypeId × Value → H) (spare : Nat → Bool) (held : Bool) (fuel : Nat) (cs : List Value), cs.length = N →
    (∀ (j : Nat) (f : Field), i ≤ j → fs[j]? = some f → ∃ x, DataW.trod enc P w base spare held fuel f.type ((cs.drop f.offset).take (P.cellsOf f.type)) = some x ∧ Fits P f.type x.1) → ∃ v, d.K w v (cs.drop o) ∧ B v
theorem OpensFsB.last {fs : Array Field} {N i o : Nat} {d : Kd α} {B : α → Prop} (f : Field) (hf : fs[i]? = some f) (ho : f.offset = o) (hN : o + P.cellsOf f.type = N) (hd : OpensB P w base f.type d B) : OpensFsB P w base fs N i o d B := fun H enc spare held fuel cs hcs h => by
  obtain ⟨x, hx, hF⟩ := h i f (Nat.le_refl _) hf
  rw [ho, List.take_of_length_le (by rw [List.length_drop]; omega)] at hx
  exact hd _ _ _ _ _ _ _ hx hF
theorem OpensFsB.step {fs : Array Field} {N i o : Nat} {d1 : Kd α} {d2 : Kd β} {B1 : α → Prop} {B2 : β → Prop} (f : Field) (o' : Nat) (hf : fs[i]? = some f) (ho : f.offset = o) (hN : o + P.cellsOf f.type = o') (hd : OpensB P w base f.type d1 B1) (hr : OpensFsB P w base fs N (i + 1) o' d2 B2) : OpensFsB P w base fs N i o (Kd.pair d1 d2) (fun p => B1 p.1 ∧ B2 p.2) := fun H enc spare held fuel cs hcs h => by
  obtain ⟨x, hx, hF⟩ := h i f (Nat.le_refl _) hf
  rw [ho] at hx
  obtain ⟨v1, h1, b1⟩ := hd _ _ _ _ _ _ _ hx hF
  obtain ⟨v2, h2, b2⟩ := hr H enc spare held fuel cs hcs (fun j f hj hjf => h j f (by omega) hjf)
  refine ⟨(v1, v2), ⟨_, _, ?_, h1, h2⟩, b1, b2⟩
  rw [← hN, ← List.drop_drop, List.take_append_drop]
theorem OpensB.struct {t : TypeId} {fs : Array Field} {d : Kd α} {B : α → Prop} (h : P.underlying t = some (.struct fs)) (hd : OpensFsB P w base fs (P.cellsOf t) 0 0 d B) : OpensB P w base t d B := fun H enc spare held fuel cs x hx hF => by
  obtain ⟨xs, n, _, e, hl, hxl, hf⟩ := DataW.trod_struct h hx
  subst e
  obtain ⟨v, hv, hB⟩ := hd H enc spare held n cs hl (fun j f _ hj => by
    have hj' : j < fs.size := (Array.getElem?_eq_some_iff.1 hj).1
    refine ⟨xs[j]'(by rw [hxl]; exact hj'), by rw [hf j f hj]; exact List.getElem?_eq_getElem _, fun n hn => hF n ?_⟩
    simp only [DataW.weights, h]
    exact DataW.weights_mem_each (j := j) (t := f.type) (d := (xs[j]'(by rw [hxl]; exact hj')).1) (by simp [hj]) (by rw [List.getElem?_map, List.getElem?_eq_getElem (by rw [hxl]; exact hj')]; rfl) n hn)
  exact ⟨v, by simpa using hv, hB⟩
/-- An argument that is a slice. -/
theorem OpensB.arg {H : Type} {enc : TypeId × Value → H} {spare : Nat → Bool} {held : Bool} {r : Reach} {b0 : Nat} {t e : TypeId} {d : Kd α} {B : List α → Prop} {v : Value} {x : DataW H} {p : List MemPlace} (ht : P.underlying t = some (.slice e)) (hd : OpensB P w base t (Kd.slice e d) B)
    (hv : Value.okWide P w r b0 t v) (h : DataW.Trod enc P w base spare held t v x p) (hf : Fits P t x) :
    ∃ (A : Option Addr) (c : Nat) (xs : List α), v = .slice A xs.length c ∧ xs.length ≤ c ∧ Kd.C d w A xs.length xs ∧ B xs := by
  obtain ⟨a0, len0, cap0, rfl⟩ := okWide_slice ht hv
  obtain ⟨m, hm⟩ := h
  obtain ⟨xs, ⟨A, c, e1, hl, hC⟩, hB⟩ := hd _ _ _ _ _ _ _ (by simpa [Value.cells] using hm) hf
  exact ⟨A, c, xs, by simpa using e1, hl, hC, hB⟩
/-- An argument that is a struct. -/
theorem OpensB.argStruct {H : Type} {enc : TypeId × Value → H} {spare : Nat → Bool} {held : Bool} {r : Reach} {b0 : Nat} {t : TypeId} {fs : Array Field} {d : Kd α} {B : α → Prop} {v : Value} {x : DataW H} {p : List MemPlace} (ht : P.underlying t = some (.struct fs)) (hd : OpensB P w base t d B)
    (hv : Value.okWide P w r b0 t v) (h : DataW.Trod enc P w base spare held t v x p) (hf : Fits P t x) :
    ∃ (y : α) (cs : List Value), v = .agg cs.toArray ∧ d.K w y cs ∧ B y := by
  obtain ⟨cs, rfl, _⟩ := okWide_struct ht hv
  obtain ⟨m, hm⟩ := h
  obtain ⟨y, hy, hB⟩ := hd _ _ _ _ _ _ _ hm hf
  exact ⟨y, cs.toList, by simp, by simpa [Value.cells] using hy, hB⟩
/-- Each argument's own weights. -/
theorem Fits.of_each {H : Type} {ts : List TypeId} {ds : List (DataW H)} (h : (DataW.weightsEach P ts ds).all (· ≤ reachBytes) = true) {j : Nat} {t : TypeId} {x : DataW H} (ht : ts[j]? = some t) (hd : ds[j]? = some x) : Fits P t x := fun n hn => by
  simpa using List.all_eq_true.1 h n (DataW.weights_mem_each ht hd n hn)
end Go.X
