/- Texts joined and shortened (wip/tools/shrink.py): XCore, XOpen, XSize, XArr, Fx0, MSize, XKd, XApp, BFree, BFree4, MCaps, MStep0, MStep. -/
import Derived.Below
import Derived.OwnWalk
import Derived.Laws.CopyOwn
import Derived.Deep.MidRow
import Derived.Laws.MakeOwn
import Derived.Test.YtmpkkphohilkoaaDoorQu1
import Derived.Deep.Slices
import Derived.OpenShut
import Derived.SizedLaws
import Derived.ChangeKeysEq
import Derived.Test.YtmpkkphohilkoaaDoorProg
import Derived.Deep.Draws
import Derived.Deep.AppendLies
import Derived.Maps.AppendAt
import Derived.Laws.BytesArg
import Derived.Laws.OwnMore
import Derived.Deep.OwnRows
import Derived.Tactics
import Derived.Lib.ConvBytes
import Derived.Laws.Slices
import Derived.WalkKit
import Derived.KernelRfl
import Derived.RowKit3
import Derived.Deep.LoopGhost
import Derived.Deep.QuietTactic
import Derived.BigQuiet
import Derived.WideLaws
import Derived.Deep.DeepCutAuto
import Derived.Deep.CutBlock
import Derived.Deep.RegionHeld3
import Derived.Laws.Rows
import Derived.Lib.AppendStr
import Derived.ArgAppend
import Derived.Laws.IdiomCopy
import Derived.OrdersHeld
import Derived.Laws.BitsLemmas
import Derived.RowKit
import Derived.Deep.AppendSrc
import Derived.Lib.Hide
import Derived.Test.YtmpkkphohilkoaaDoorQu0
/- Step laws in one form: the world behind a step is a letter, of which the written block is told, and that all else is kept. -/
namespace Go.X
open Go Go.RowKit
variable {P : Program}

theorem grown_setRow {w : World} (b : Nat) (cs : Array Value) : w.grownBy (w.setRow b cs) (some b) :=
  ⟨rfl, rfl, rfl, by simp [World.setRow], fun k _ hk => setRow_other w b k cs (fun e => hk (by rw [e]))⟩

/-- A block that is a row of cells, its elements' type, nothing frozen. -/
def Blk (w : World) (b : Nat) (e : TypeId) (cs : List Value) : Prop := w.heap[b]? = some (.cells cs.toArray e (0, 0))

theorem Blk.lt {w : World} {b : Nat} {e : TypeId} {cs : List Value} (h : Blk w b e cs) : b < w.heap.size := (Array.getElem?_eq_some_iff.1 h).1
theorem Blk.grown {w w' : World} {b : Nat} {e : TypeId} {cs : List Value} {r : Option Nat} (h : Blk w b e cs) (g : w.grownBy w' r) (hr : some b ≠ r) : Blk w' b e cs :=
  (g.block b h.lt hr).trans h
theorem Blk.below {B : Nat} {w w' : World} {b : Nat} {e : TypeId} {cs : List Value} (h : Blk w b e cs) (g : Below B w w') (hb : b < B) : Blk w' b e cs :=
  (g.block b hb).trans h
theorem Blk.cell {w : World} {b : Nat} {e : TypeId} {cs : List Value} (h : Blk w b e cs) (i : Nat) : w.cell? ⟨b, i, none⟩ = cs[i]? := by
  simp [World.cell?, show w.heap[b]? = _ from h]
theorem Blk.frozen {w : World} {b : Nat} {e : TypeId} {cs : List Value} (h : Blk w b e cs) (i : Nat) : w.frozen? ⟨b, i, none⟩ = false := by
  simp [World.frozen?, show w.heap[b]? = _ from h]
theorem Blk.ne {w : World} {b b' : Nat} {e e' : TypeId} {cs cs' : List Value} (h : Blk w b e cs) (h' : Blk w b' e' cs') (hne : e ≠ e') : b ≠ b' := by
  rintro rfl
  have h1 : w.heap[b]? = _ := h
  have h2 : w.heap[b]? = _ := h'
  rw [h1] at h2
  simp at h2
  exact hne h2.2

theorem Blk.ex {w : World} {b : Nat} {e : TypeId} {cs : Array Value} {n : Nat} (h : Blk w b e cs.toList) (hn : cs.size = n) : ∃ z : List Value, z.length = n ∧ Blk w b e z :=
  ⟨cs.toList, by simpa using hn, h⟩
theorem Blk.setCell {w : World} {b : Nat} {e : TypeId} {cs : List Value} (h : Blk w b e cs) (i : Nat) (v : Value) : Blk (w.setCell ⟨b, i, none⟩ v) b e (cs.set i v) := by
  have := heap_setCell_same w b i cs.toArray e v h
  simpa [Blk] using this
theorem grown_setCell (w : World) (a : Addr) (v : Value) : w.grownBy (w.setCell a v) (some a.block) :=
  ⟨rfl, rfl, rfl, by simp [World.setCell], fun k _ hk => Below.heap_setCell w a v k (fun e => hk (by rw [e]))⟩
theorem Blk.alloc (w : World) (cs : Array Value) (e : TypeId) : Blk (w.alloc (.cells cs e)) w.heap.size e cs.toList := by
  have := heap_alloc_new w (.cells cs e)
  simpa [Blk] using this
/-- All but the blocks S (and new ones) is as it was. -/
structure But (S : Nat → Prop) (w w' : World) : Prop where
  os : w'.os = w.os
  tape : w'.tape = w.tape
  output : w'.output = w.output
  size : w.heap.size ≤ w'.heap.size
  block : ∀ k, k < w.heap.size → ¬ S k → w'.heap[k]? = w.heap[k]?
theorem But.refl (S : Nat → Prop) (w : World) : But S w w := ⟨rfl, rfl, rfl, Nat.le_refl _, fun _ _ _ => rfl⟩
theorem But.grown {S : Nat → Prop} {w w1 w2 : World} (h : But S w w1) {r : Option Nat} (hg : w1.grownBy w2 r) (hr : ∀ k, r = some k → S k ∨ w.heap.size ≤ k) : But S w w2 :=
  ⟨hg.os.trans h.os, hg.tape.trans h.tape, hg.output.trans h.output, Nat.le_trans h.size hg.size, fun k hk hs => (hg.block k (Nat.lt_of_lt_of_le hk h.size) (fun e => (hr k e.symm).elim hs (fun h1 => by omega))).trans (h.block k hk hs)⟩
theorem But.below {S : Nat → Prop} {w w' : World} (h : But S w w') {B : Nat} (hB : ∀ k, S k → B ≤ k) (hw : B ≤ w.heap.size) : Below B w w' :=
  ⟨h.os, h.tape, h.output, h.size, fun k hk => h.block k (by omega) (fun hs => by have := hB k hs; omega)⟩
theorem Blk.but {S : Nat → Prop} {w w' : World} {b : Nat} {e : TypeId} {cs : List Value} (h : Blk w b e cs) (g : But S w w') (hs : ¬ S b) : Blk w' b e cs := (g.block b h.lt hs).trans h
section
variable {w : World} {ops : Array Oper} {rest : List Oper} {o : Oper} {a : Act} {Q : Exit → Act → World → Prop}

/-- 'make([]T, n)' -/
theorem make (hg : o.guard = none) (l c : Operand) (t : TypeId) (hop : o.op = Op.makeSlice t l c)
    (e : TypeId) (z : Value) (size bytes : Nat) (h1 : P.underlying t = some (.slice e)) (h2 : (P.info? e).map (fun i => (i.zero, i.size, i.bytes)) = some (some z, size, bytes))
    (kl kc : IntKind) (L C : Int) (n : Nat) (hl : a.eval l = .int kl L) (hc : a.eval c = .int kc C) (hL : L = (n : Int)) (hC : C = (n : Int)) (b2 : bytes * n ≤ 281474976710656) (b3 : n ≤ maxLen)
    (hK : ∀ w', Blk w' w.heap.size e (madeCells z.cells (n * size)).toList → w.grownBy w' none → wpList P ops Q rest (a.put o.dst (.slice (some ⟨w.heap.size, 0, none⟩) n n)) w') :
    wpList P ops Q (o :: rest) a w := by
  obtain ⟨i, hi, hz, hs, hb⟩ : ∃ i, P.info? e = some i ∧ i.zero = some z ∧ i.size = size ∧ i.bytes = bytes := by
    cases hq : P.info? e with
    | none => simp [hq] at h2
    | some i => simp [hq] at h2; exact ⟨i, rfl, h2⟩
  refine wpList_make_full w hg l c t hop 0 e i z size h1 hi hz hs kl kc L C n hl hc hL hC (by rw [hb]; exact b2) b3 (Nat.zero_le _) fun w' ho hgr => hK w' ?_ hgr
  obtain ⟨hlen, h⟩ := ho
  rcases h with ⟨h, _⟩ | ⟨g, cap, cur, hv, _, hh, hn, hm, hsz, ht⟩
  · simp at h
  · simp at hv
    obtain ⟨rfl, rfl⟩ := hv
    have : cur.toList.take (n * size) = cur.toList := List.take_of_length_le (by simp; omega)
    rw [this] at ht
    unfold Blk
    rw [hh]
    congr 2
    rw [← ht]

theorem run_copy_sz (w : World) (dT sT ty elem : TypeId) (b off dLen dCap : Nat) (src : Option Addr) (sLen sCap sz : Nat) (cs cur : List Value) (t : TypeId)
    (hu : P.underlying dT = some (.slice elem)) (hs : (P.info? elem).map (·.size) = some sz) (hn : cs.length = Nat.min sLen dLen * sz)
    (hsrc : cs ≠ [] → ∃ ad, src = some ad ∧ ∀ j v, cs[j]? = some v → w.cell? (ad.add j) = some v) (hg : Blk w b t cur) (hfit : off + cs.length ≤ cur.length) (h1 : ∀ v ∈ cs, v.oneCell' = true) :
    (Builtin.copy_ #[dT, sT] ty #[.slice (some ⟨b, off, none⟩) dLen dCap, .slice src sLen sCap]).run P w = .ok (goInt (Nat.min sLen dLen)) (w.setRow b (splice cur off cs).toArray) := by
  have hst := run_storeCells_at P b off t cs 0 cur.toArray w hg (by simpa using hfit) h1
  cases hq : P.info? elem with
  | none => simp [hq] at hs
  | some i =>
    have hi : i.size = sz := by simpa [hq] using hs
    have hfirst : (Builtin.firstCells sz (Nat.min sLen dLen) (.slice src sLen sCap)).run P w = .ok cs.toArray w := by
      by_cases h0 : cs = []
      · subst h0
        have hz : Nat.min sLen dLen * sz = 0 := by simpa using hn.symm
        cases src with
        | none => rfl
        | some ad =>
          have := run_loadCells_list (P := P) w ad [] (by simp)
          simpa [Builtin.firstCells, hz] using this
      · obtain ⟨ad, rfl, hc⟩ := hsrc h0
        have := run_loadCells_list (P := P) w ad cs hc
        simp only [Builtin.firstCells]
        rw [← hn]
        exact this
    simp only [Nat.add_zero] at hst
    have hsp : (splice cur off cs).toArray = (cur.take off ++ cs ++ cur.drop (off + cs.length)).toArray := by simp [splice]
    rw [hsp]
    simp [Builtin.copy_, run_underlying hu, Builtin.lenOf, sizeOf, typeInfo, hq, hi, hfirst, hst]

/-- 'copy(l, src)' into a block -/
theorem copy (hgd : o.guard = none) (d s : Operand) (dT sT : TypeId)
    (ho : o.op = .call { callee := .builtin .copy, args := #[d, s], argTypes := #[dT, sT] }) (elem : TypeId) (sz : Nat) (hu : P.underlying dT = some (.slice elem)) (hsz : (P.info? elem).map (·.size) = some sz)
    (b off dLen dCap : Nat) (src : Option Addr) (sLen sCap : Nat) (hd : a.eval d = .slice (some ⟨b, off, none⟩) dLen dCap) (hs : a.eval s = .slice src sLen sCap)
    (cur : List Value) (t : TypeId) (hg : Blk w b t cur) (cs : List Value) (hn : cs.length = Nat.min sLen dLen * sz)
    (hsrc : cs ≠ [] → ∃ ad, src = some ad ∧ ∀ j v, cs[j]? = some v → w.cell? (ad.add j) = some v) (hfit : off + cs.length ≤ cur.length) (h1 : ∀ v ∈ cs, v.oneCell' = true)
    (h : ∀ w', Blk w' b t (splice cur off cs) → w.grownBy w' (some b) → wpList P ops Q rest (a.put o.dst (goInt (Nat.min sLen dLen))) w') : wpList P ops Q (o :: rest) a w := by
  refine wpList_plain hgd fun K hK => ?_
  have hrun := run_copy_sz (P := P) w dT sT o.type elem b off dLen dCap src sLen sCap sz cs cur t hu hsz hn hsrc hg hfit h1
  unfold Oper.wp
  simp [execOp, ho, resolve, invoke, builtin, hd, hs, hrun, Result.andThen]
  exact hK _ _ (h _ (setRow_heap w b _ _ t _ hg) (grown_setRow b _))

/-- a store of a value of several cells, or of one, into a block -/
theorem store (hgd : o.guard = none) (ty : TypeId) (x y : Operand) (ho : o.op = .store ty x y) (b off : Nat) (v : Value) (hx : a.eval x = .pointer (some ⟨b, off, none⟩)) (hy : a.eval y = v)
    (cur : List Value) (t : TypeId) (hg : Blk w b t cur) (hi : (P.info? ty).map (·.size) = some v.cells.size) (hfit : off + v.cells.size ≤ cur.length) (h1 : ∀ u ∈ v.cells.toList, u.oneCell' = true)
    (h : ∀ w', Blk w' b t (splice cur off v.cells.toList) → w.grownBy w' (some b) → wpList P ops Q rest (a.put o.dst undef) w') : wpList P ops Q (o :: rest) a w := by
  refine wpList_plain hgd fun K hK => ?_
  have hst := run_storeCells_at P b off t v.cells.toList 0 cur.toArray w hg (by simpa using hfit) h1
  have hsp : (splice cur off v.cells.toList).toArray = (cur.take off ++ v.cells.toList ++ cur.drop (off + v.cells.toList.length)).toArray := by simp [splice]
  have hrun : (Instr.storeAt ty (.pointer (some ⟨b, off, none⟩)) v).run P w = .ok () (w.setRow b (splice cur off v.cells.toList).toArray) := by
    cases hq : P.info? ty with
    | none => simp [hq] at hi
    | some i =>
      have hs : i.size = v.cells.size := by simpa [hq] using hi
      simp only [Nat.add_zero] at hst
      rw [hsp]
      simp only [Instr.storeAt, Instr.sureAddr, Sem.run_bind, Sem.run_pure, Result.andThen_ok]
      simp [storeVar, sizeOf, typeInfo, hq, hs, hst]
  unfold Oper.wp
  simp [execOp, ho, hx, hy, hrun]
  exact hK _ _ (h _ (setRow_heap w b _ _ t _ hg) (grown_setRow b _))
end
end Go.X
/- Arguments opened: a datum that reads as type t is a value of the kind d. -/
namespace Go.X
open Go Go.RowKit Go.Proofs.YtmpkkphohilkoaaDoorW.PrintWords Go.ChangeShapes Go.WideShapes
variable {α β : Type} {P : Program} {w : World} {base : Nat}

/-- Whatever reads as type t is of the kind d. -/
def Opens (P : Program) (w : World) (base : Nat) (t : TypeId) (d : Kd α) : Prop :=
  ∀ (H : Type) (enc : TypeId × Value → H) (spare : Nat → Bool) (held : Bool) (fuel : Nat) (cs : List Value) (x : DataW H × List MemPlace), DataW.trod enc P w base spare held fuel t cs = some x → ∃ v, d.K w v cs

theorem Opens.int {t : TypeId} {k : IntKind} (h : P.underlying t = some (.int k)) : Opens P w base t (Kd.int k) := fun _ _ _ _ _ _ _ hx => by
  obtain ⟨n, rfl, _⟩ := DataW.trod_int h hx
  exact ⟨n, rfl⟩
theorem Opens.string {t : TypeId} (h : P.underlying t = some .string) : Opens P w base t Kd.string := fun _ _ _ _ _ _ _ hx => by
  obtain ⟨n, rfl, _⟩ := DataW.trod_string h hx
  exact ⟨n, rfl⟩
theorem Opens.iso {t : TypeId} {d : Kd α} {f : β → α} (g : α → β) (hg : ∀ x, f (g x) = x) (hd : Opens P w base t d) : Opens P w base t (Kd.iso d f) := fun H enc spare held fuel cs x hx => by
  obtain ⟨v, hv⟩ := hd H enc spare held fuel cs x hx
  exact ⟨g v, by show d.K w (f (g v)) cs; rw [hg]; exact hv⟩

/-- The fields from the i-th on (from cell o on) read as the kind d; N: the cells of all. -/
def OpensFs (P : Program) (w : World) (base : Nat) (fs : Array Field) (N i o : Nat) (d : Kd α) : Prop :=
  ∀ (H : Type) (enc : TypeId × Value → H) (spare : Nat → Bool) (held : Bool) (fuel : Nat) (cs : List Value), cs.length = N →
    (∀ (j : Nat) (f : Field), i ≤ j → fs[j]? = some f → ∃ x, DataW.trod enc P w base spare held fuel f.type ((cs.drop f.offset).take (P.cellsOf f.type)) = some x) → ∃ v, d.K w v (cs.drop o)
theorem OpensFs.last {fs : Array Field} {N i o : Nat} {d : Kd α} (f : Field) (hf : fs[i]? = some f) (ho : f.offset = o) (hN : o + P.cellsOf f.type = N) (hd : Opens P w base f.type d) : OpensFs P w base fs N i o d := fun H enc spare held fuel cs hcs h => by
  obtain ⟨x, hx⟩ := h i f (Nat.le_refl _) hf
  rw [ho, List.take_of_length_le (by rw [List.length_drop]; omega)] at hx
  exact hd _ _ _ _ _ _ _ hx
theorem OpensFs.step {fs : Array Field} {N i o : Nat} {d1 : Kd α} {d2 : Kd β} (f : Field) (o' : Nat) (hf : fs[i]? = some f) (ho : f.offset = o) (hN : o + P.cellsOf f.type = o') (hd : Opens P w base f.type d1) (hr : OpensFs P w base fs N (i + 1) o' d2) : OpensFs P w base fs N i o (Kd.pair d1 d2) := fun H enc spare held fuel cs hcs h => by
  obtain ⟨x, hx⟩ := h i f (Nat.le_refl _) hf
  rw [ho] at hx
  obtain ⟨v1, h1⟩ := hd _ _ _ _ _ _ _ hx
  obtain ⟨v2, h2⟩ := hr H enc spare held fuel cs hcs (fun j f hj hjf => h j f (by omega) hjf)
  refine ⟨(v1, v2), _, _, ?_, h1, h2⟩
  rw [← hN, ← List.drop_drop, List.take_append_drop]
theorem Opens.struct {t : TypeId} {fs : Array Field} {d : Kd α} (h : P.underlying t = some (.struct fs)) (hd : OpensFs P w base fs (P.cellsOf t) 0 0 d) : Opens P w base t d := fun H enc spare held fuel cs x hx => by
  obtain ⟨xs, n, _, _, hl, hxl, hf⟩ := DataW.trod_struct h hx
  obtain ⟨v, hv⟩ := hd H enc spare held n cs hl (fun j f _ hj => ⟨xs[j]'(by rw [hxl]; exact (Array.getElem?_eq_some_iff.1 hj).1), by rw [hf j f hj]; exact List.getElem?_eq_getElem _⟩)
  exact ⟨v, by simpa using hv⟩

/-- The parts of an array from the i-th on. -/
def OpensAs (P : Program) (w : World) (base : Nat) (e : TypeId) (n i : Nat) (d : Kd α) : Prop :=
  ∀ (H : Type) (enc : TypeId × Value → H) (spare : Nat → Bool) (held : Bool) (fuel : Nat) (cs : List Value), cs.length = n * P.cellsOf e →
    (∀ (j : Nat), j < n → ∃ x, DataW.trod enc P w base spare held fuel e ((cs.drop (j * P.cellsOf e)).take (P.cellsOf e)) = some x) → ∃ v, d.K w v (cs.drop (i * P.cellsOf e))
theorem OpensAs.last {e : TypeId} {n i : Nat} {d : Kd α} (hi : i + 1 = n) (hd : Opens P w base e d) : OpensAs P w base e n i d := fun H enc spare held fuel cs hcs h => by
  obtain ⟨x, hx⟩ := h i (by omega)
  rw [List.take_of_length_le (by rw [List.length_drop, hcs, ← hi, Nat.succ_mul]; omega)] at hx
  exact hd _ _ _ _ _ _ _ hx
theorem OpensAs.step {e : TypeId} {n i : Nat} {d1 : Kd α} {d2 : Kd β} (hi : i < n) (hd : Opens P w base e d1) (hr : OpensAs P w base e n (i + 1) d2) : OpensAs P w base e n i (Kd.pair d1 d2) := fun H enc spare held fuel cs hcs h => by
  obtain ⟨x, hx⟩ := h i hi
  obtain ⟨v1, h1⟩ := hd _ _ _ _ _ _ _ hx
  obtain ⟨v2, h2⟩ := hr H enc spare held fuel cs hcs h
  refine ⟨(v1, v2), _, _, ?_, h1, h2⟩
  rw [Nat.succ_mul, ← List.drop_drop, List.take_append_drop]
theorem Opens.array {t e : TypeId} {n : Nat} {d : Kd α} (h : P.underlying t = some (.array n e)) (hc : P.cellsOf t = n * P.cellsOf e) (hd : OpensAs P w base e n 0 d) : Opens P w base t d := fun H enc spare held fuel cs x hx => by
  obtain ⟨xs, m, _, _, hl, hxl, hf⟩ := DataW.trod_array h hx
  obtain ⟨v, hv⟩ := hd H enc spare held m cs (by rw [hl, hc]) (fun j hj => ⟨xs[j]'(by omega), by rw [hf j hj]; exact List.getElem?_eq_getElem _⟩)
  exact ⟨v, by simpa using hv⟩

/-- Where what is read lies. -/
theorem trod_lt {H : Type} {enc : TypeId × Value → H} {spare : Nat → Bool} {held : Bool} {t : TypeId} {v : Value} {x : DataW H} {p : List MemPlace} (h : DataW.Trod enc P w base spare held t v x p) : ∀ y ∈ p, y.block < w.heap.size := by
  obtain ⟨m, hm⟩ := h
  exact DataW.trod_lt m _ _ _ hm
end Go.X
/- Arguments opened, with what memory can hold: a datum that reads as type t, within the reach, is a value of the kind d that meets B. -/
namespace Go.X
open Go Go.RowKit Go.Proofs.YtmpkkphohilkoaaDoorW.PrintWords Go.ChangeShapes Go.WideShapes
variable {α β : Type} {P : Program} {w : World} {base : Nat}

def Fits {H : Type} (P : Program) (t : TypeId) (x : DataW H) : Prop := ∀ n ∈ x.weights P t, n ≤ reachBytes
/-- Whatever reads as type t within the reach is of the kind d and meets B. -/
def OpensB (P : Program) (w : World) (base : Nat) (t : TypeId) (d : Kd α) (B : α → Prop) : Prop :=
  ∀ (H : Type) (enc : TypeId × Value → H) (spare : Nat → Bool) (held : Bool) (fuel : Nat) (cs : List Value) (x : DataW H × List MemPlace), DataW.trod enc P w base spare held fuel t cs = some x → Fits P t x.1 → ∃ v, d.K w v cs ∧ B v

theorem OpensB.of {t : TypeId} {d : Kd α} (h : Opens P w base t d) : OpensB P w base t d (fun _ => True) := fun _ _ _ _ _ _ _ hx _ => by
  obtain ⟨v, hv⟩ := h _ _ _ _ _ _ _ hx
  exact ⟨v, hv, trivial⟩
theorem OpensB.mono {t : TypeId} {d : Kd α} {B B' : α → Prop} (h : OpensB P w base t d B) (hb : ∀ v, B v → B' v) : OpensB P w base t d B' := fun _ _ _ _ _ _ _ hx hf => by
  obtain ⟨v, hv, h1⟩ := h _ _ _ _ _ _ _ hx hf
  exact ⟨v, hv, hb v h1⟩
theorem OpensB.string {t : TypeId} (h : P.underlying t = some .string) : OpensB P w base t Kd.string (fun s => s.size ≤ reachBytes) := fun _ _ _ _ _ _ x hx hf => by
  obtain ⟨n, rfl, e, _⟩ := DataW.trod_string h hx
  refine ⟨n, rfl, ?_⟩
  have := hf n.data.toList.length (by subst e; simp [DataW.weights])
  simpa using this
theorem OpensB.slice {t e : TypeId} {d : Kd α} {B : α → Prop} (h : P.underlying t = some (.slice e)) (hc : P.cellsOf e = d.sz) (hd : OpensB P w base e d B) : OpensB P w base t (Kd.slice e d) (fun xs => xs.length * P.bytesOf e ≤ reachBytes ∧ ∀ x ∈ xs, B x) := fun H enc spare held fuel cs x hx hf => by
  rcases Go.Deep.open_slice h hx with ⟨rfl, _⟩ | ⟨a, len, cap, m, n, D, Pl, rfl, hb, hl, hm, hmm, e0, hi⟩
  · exact ⟨[], ⟨none, 0, rfl, Nat.le_refl _, rfl, by simp, fun h => absurd h (Nat.lt_irrefl _)⟩, by simp, by simp⟩
  · have hlm : len ≤ m := by rw [hmm]; split <;> omega
    subst e0
    have hlen : len * P.bytesOf e ≤ reachBytes := by
      have := hf ((((List.range len).map D).length + ((List.range (m - len)).map fun j => D (len + j)).length) * P.bytesOf e) (by simp [DataW.weights, h])
      refine Nat.le_trans (Nat.mul_le_mul_right _ ?_) this
      simp
    have helt : ∀ i, i < len → Fits P e (D i) := fun i hi n hn => hf n (by
      simp only [DataW.weights, h, List.mem_cons, List.mem_append]
      refine .inr (.inl ?_)
      have : ∀ (l : List (DataW H)) (d0 : DataW H), d0 ∈ l → n ∈ d0.weights P e → n ∈ DataW.weightsAll P e l := by
        intro l d0 h1 h2
        induction l with
        | nil => cases h1
        | cons a r ih =>
          simp only [DataW.weightsAll, List.mem_append]
          rcases List.mem_cons.1 h1 with rfl | h1
          · exact .inl h2
          · exact .inr (ih h1)
      exact this _ (D i) (List.mem_map.2 ⟨i, by simpa using hi, rfl⟩) hn)
    obtain ⟨⟨v0⟩⟩ | hne : Nonempty α ∨ len = 0 := by
      rcases Nat.eq_zero_or_pos len with h0 | h0
      · exact .inr h0
      · obtain ⟨cs', h1, h2⟩ := hi 0 (by omega)
        obtain ⟨v, _⟩ := hd _ _ _ _ _ _ _ h2 (helt 0 h0)
        exact .inl ⟨v⟩
    · letI : Inhabited α := ⟨v0⟩
      obtain ⟨V, hV⟩ := Go.Deep.choose_lt (α := α) (n := len) (p := fun i v => (∃ cs', w.cells? base (a.add (i * P.cellsOf e)) (P.cellsOf e) = some cs' ∧ d.K w v cs') ∧ B v) (fun i hilt => by
        obtain ⟨cs', h1, h2⟩ := hi i (by omega)
        obtain ⟨v, hv, hB⟩ := hd _ _ _ _ _ _ _ h2 (helt i hilt)
        exact ⟨v, ⟨cs', h1, hv⟩, hB⟩)
      refine ⟨(List.range len).map V, ⟨some a, cap, by simp, by simpa using hl, by simp, by simp [maxLen] at hm ⊢; omega, fun _ => ⟨a, rfl, fun j p hj => ?_⟩⟩, by simpa using hlen, fun x hx => ?_⟩
      · have hjl : j < len := by
          have := (List.getElem?_eq_some_iff.1 hj).1
          simpa using this
        obtain rfl : V j = p := by simpa [hjl] using hj
        obtain ⟨⟨cs', h1, hv⟩, _⟩ := hV j hjl
        obtain ⟨_, hlen, hcl⟩ := World.cells?_some h1
        refine ⟨cs', by rw [hlen, hc], hv, fun i u hiu => ?_⟩
        have hi' : i < cs'.length := (List.getElem?_eq_some_iff.1 hiu).1
        rw [← Go.Deep.add_add, ← hc, hcl i (by omega), hiu]
      · obtain ⟨i, hi, rfl⟩ := List.mem_map.1 hx
        exact (hV i (by simpa using hi)).2
    · subst hne
      exact ⟨[], ⟨some a, cap, rfl, Nat.zero_le _, rfl, by simp, fun h => absurd h (Nat.lt_irrefl _)⟩, by simp, by simp⟩
theorem OpensB.iso {t : TypeId} {d : Kd α} {B : α → Prop} {f : β → α} (g : α → β) (hg : ∀ x, f (g x) = x) (hd : OpensB P w base t d B) : OpensB P w base t (Kd.iso d f) (fun v => B (f v)) := fun H enc spare held fuel cs x hx hf => by
  obtain ⟨v, hv, hB⟩ := hd H enc spare held fuel cs x hx hf
  exact ⟨g v, by show d.K w (f (g v)) cs; rw [hg]; exact hv, by show B (f (g v)); rw [hg]; exact hB⟩

/-- The fields from the i-th on (from cell o on) read as the kind d; N: the cells of all. -/
def OpensFsB (P : Program) (w : World) (base : Nat) (fs : Array Field) (N i o : Nat) (d : Kd α) (B : α → Prop) : Prop :=
  ∀ (H : Type) (enc : TypeId × Value → H) (spare : Nat → Bool) (held : Bool) (fuel : Nat) (cs : List Value), cs.length = N →
    (∀ (j : Nat) (f : Field), i ≤ j → fs[j]? = some f → ∃ x, DataW.trod enc P w base spare held fuel f.type ((cs.drop f.offset).take (P.cellsOf f.type)) = some x ∧ Fits P f.type x.1) → ∃ v, d.K w v (cs.drop o) ∧ B v
theorem OpensFsB.last {fs : Array Field} {N i o : Nat} {d : Kd α} {B : α → Prop} (f : Field) (hf : fs[i]? = some f) (ho : f.offset = o) (hN : o + P.cellsOf f.type = N) (hd : OpensB P w base f.type d B) : OpensFsB P w base fs N i o d B := fun H enc spare held fuel cs hcs h => by
  obtain ⟨x, hx, hF⟩ := h i f (Nat.le_refl _) hf
  rw [ho, List.take_of_length_le (by rw [List.length_drop]; omega)] at hx
  exact hd _ _ _ _ _ _ _ hx hF
theorem OpensFsB.step {fs : Array Field} {N i o : Nat} {d1 : Kd α} {d2 : Kd β} {B1 : α → Prop} {B2 : β → Prop} (f : Field) (o' : Nat) (hf : fs[i]? = some f) (ho : f.offset = o) (hN : o + P.cellsOf f.type = o') (hd : OpensB P w base f.type d1 B1) (hr : OpensFsB P w base fs N (i + 1) o' d2 B2) : OpensFsB P w base fs N i o (Kd.pair d1 d2) (fun p => B1 p.1 ∧ B2 p.2) := fun H enc spare held fuel cs hcs h => by
  obtain ⟨x, hx, hF⟩ := h i f (Nat.le_refl _) hf
  rw [ho] at hx
  obtain ⟨v1, h1, b1⟩ := hd _ _ _ _ _ _ _ hx hF
  obtain ⟨v2, h2, b2⟩ := hr H enc spare held fuel cs hcs (fun j f hj hjf => h j f (by omega) hjf)
  refine ⟨(v1, v2), ⟨_, _, ?_, h1, h2⟩, b1, b2⟩
  rw [← hN, ← List.drop_drop, List.take_append_drop]
theorem OpensB.struct {t : TypeId} {fs : Array Field} {d : Kd α} {B : α → Prop} (h : P.underlying t = some (.struct fs)) (hd : OpensFsB P w base fs (P.cellsOf t) 0 0 d B) : OpensB P w base t d B := fun H enc spare held fuel cs x hx hF => by
  obtain ⟨xs, n, _, e, hl, hxl, hf⟩ := DataW.trod_struct h hx
  subst e
  obtain ⟨v, hv, hB⟩ := hd H enc spare held n cs hl (fun j f _ hj => by
    have hj' : j < fs.size := (Array.getElem?_eq_some_iff.1 hj).1
    refine ⟨xs[j]'(by rw [hxl]; exact hj'), by rw [hf j f hj]; exact List.getElem?_eq_getElem _, fun n hn => hF n ?_⟩
    simp only [DataW.weights, h]
    exact DataW.weights_mem_each (j := j) (t := f.type) (d := (xs[j]'(by rw [hxl]; exact hj')).1) (by simp [hj]) (by rw [List.getElem?_map, List.getElem?_eq_getElem (by rw [hxl]; exact hj')]; rfl) n hn)
  exact ⟨v, by simpa using hv, hB⟩
/-- An argument that is a struct. -/
theorem OpensB.argStruct {H : Type} {enc : TypeId × Value → H} {spare : Nat → Bool} {held : Bool} {r : Reach} {b0 : Nat} {t : TypeId} {fs : Array Field} {d : Kd α} {B : α → Prop} {v : Value} {x : DataW H} {p : List MemPlace} (ht : P.underlying t = some (.struct fs)) (hd : OpensB P w base t d B)
    (hv : Value.okWide P w r b0 t v) (h : DataW.Trod enc P w base spare held t v x p) (hf : Fits P t x) :
    ∃ (y : α) (cs : List Value), v = .agg cs.toArray ∧ d.K w y cs ∧ B y := by
  obtain ⟨cs, rfl, _⟩ := okWide_struct ht hv
  obtain ⟨m, hm⟩ := h
  obtain ⟨y, hy, hB⟩ := hd _ _ _ _ _ _ _ hm hf
  exact ⟨y, cs.toList, by simp, by simpa [Value.cells] using hy, hB⟩
/-- Each argument's own weights. -/
theorem Fits.of_each {H : Type} {ts : List TypeId} {ds : List (DataW H)} (h : (DataW.weightsEach P ts ds).all (· ≤ reachBytes) = true) {j : Nat} {t : TypeId} {x : DataW H} (ht : ts[j]? = some t) (hd : ds[j]? = some x) : Fits P t x := fun n hn => by
  simpa using List.all_eq_true.1 h n (DataW.weights_mem_each ht hd n hn)
end Go.X
/- '==' of arrays of whole numbers as one Bool. -/
namespace Go
section
variable {P : Program} {w : World}
theorem xpart_one {e : TypeId} {k : IntKind} (he : P.underlying e = some (.int k)) (xs : Array Value) (j : Nat) {v : Value} (hv : xs[j]? = some v) :
    (part e xs j).run P w = .ok v w := by
  have hp : P.plainKey e = true := by simp [Program.plainKey, he]
  exact run_part_plain w hp hv
theorem xitems_cons {e : TypeId} {k : IntKind} (he : P.underlying e = some (.int k)) (hc : P.cellsOf e = 1) (d : Nat) (xs ys : Array Value) (i : Nat) (is : List Nat) {a b : Int}
    (ha : xs[i]? = some (.int k a)) (hb : ys[i]? = some (.int k b)) {r : Bool} (h : (Op.eqItems (d + 1) e (P.cellsOf e) xs ys is).run P w = .ok r w) :
    (Op.eqItems (d + 1) e (P.cellsOf e) xs ys (i :: is)).run P w = .ok (a == b && r) w := by
  have ea : (part e xs (i * 1)).run P w = .ok (.int k a) w := xpart_one he xs _ (by simpa using ha)
  have eb : (part e ys (i * 1)).run P w = .ok (.int k b) w := xpart_one he ys _ (by simpa using hb)
  have eq := run_equalIn_int (P := P) w d e k k a b he
  rw [hc] at h ⊢
  simp only [Op.eqItems, Sem.run_bind, ea, eb, eq, Result.andThen_ok]
  cases hab : (a == b)
  · simp
  · simpa using h
theorem eqArr4 {t e : TypeId} {k : IntKind} {i : TypeInfo} (hu : P.underlying t = some (.array 4 e)) (hi : P.info? e = some i) (hc : P.cellsOf e = 1) (he : P.underlying e = some (.int k))
    (d : Nat) (w : World) (x0 y0 x1 y1 x2 y2 x3 y3 : Int) :
    (Op.equalIn (d + 2) t (.agg #[.int k x0, .int k x1, .int k x2, .int k x3]) (.agg #[.int k y0, .int k y1, .int k y2, .int k y3])).run P w = .ok (x0 == y0 && (x1 == y1 && (x2 == y2 && (x3 == y3)))) w := by
  rw [run_equalIn_array (P := P) w (d + 1) _ _ hu hi]
  have h0 : (Op.eqItems (d + 1) e (P.cellsOf e) #[.int k x0, .int k x1, .int k x2, .int k x3] #[.int k y0, .int k y1, .int k y2, .int k y3] []).run P w = .ok true w := by simp [Op.eqItems]
  have h := xitems_cons he hc d #[.int k x0, .int k x1, .int k x2, .int k x3] #[.int k y0, .int k y1, .int k y2, .int k y3] 0 [1, 2, 3] rfl rfl
    (xitems_cons he hc d _ _ 1 [2, 3] rfl rfl (xitems_cons he hc d _ _ 2 [3] rfl rfl (xitems_cons he hc d _ _ 3 [] rfl rfl h0)))
  rw [Bool.and_true] at h
  exact h
end
end Go
namespace Go.Proofs.YtmpkkphohilkoaaDoor.F
open Go.RowKit Go.Proofs.YtmpkkphohilkoaaDoorW.PrintWords Go.Proofs.YtmpkkphohilkoaaDoorW.PrintLast Go.Proofs.YtmpkkphohilkoaaDoorW.PrintMore
attribute [local go_sem] max2_int min2_int max_two min_two max_three min_three max_four min_four   -- for this text's walks alone
set_option linter.unusedVariables false
set_option linter.unusedSimpArgs false



def errW : Option Int → Value
  | none => .nilIface
  | some c => .iface 0 (.int .i64 c)
theorem errW_none : errW none = .nilIface := rfl
theorem errW_some (c : Int) : errW (some c) = .iface 0 (.int .i64 c) := rfl

-- the values' own types
/-! #### struct type 45 -/
structure S45 where
  f0 : Int
  f1 : Int
  f2 : Int
  f3 : Int
def z45 : S45 := ⟨(0 : Int), (0 : Int), (0 : Int), (0 : Int)⟩
def k45 : Kd S45 := Kd.iso (Kd.pair (Kd.int .u64) (Kd.pair (Kd.int .u64) (Kd.pair (Kd.int .u64) (Kd.int .u64)))) (fun x : S45 => (x.f0, x.f1, x.f2, x.f3))
theorem k45_open {w : World} {x : S45} {cs : List Value} (h : k45.K w x cs) : cs = [.int .u64 x.f0, .int .u64 x.f1, .int .u64 x.f2, .int .u64 x.f3] := by
  obtain ⟨_, _, rfl, rfl, ⟨_, _, rfl, rfl, ⟨_, _, rfl, rfl, rfl⟩⟩⟩ := h
  exact rfl
theorem k45_mk (w : World) (x : S45)  : k45.K w x [.int .u64 x.f0, .int .u64 x.f1, .int .u64 x.f2, .int .u64 x.f3] := ⟨[.int .u64 x.f0], [.int .u64 x.f1, .int .u64 x.f2, .int .u64 x.f3], rfl, rfl, ⟨[.int .u64 x.f1], [.int .u64 x.f2, .int .u64 x.f3], rfl, rfl, ⟨[.int .u64 x.f2], [.int .u64 x.f3], rfl, rfl, rfl⟩⟩⟩

/-! #### struct type 47 -/
structure S47 where
  f0 : Int
  f1 : S45
  f2 : Int
  f3 : ByteArray
def z47 : S47 := ⟨(0 : Int), z45, (0 : Int), (⟨#[]⟩ : ByteArray)⟩
def k47 : Kd S47 := Kd.iso (Kd.pair (Kd.int .i64) (Kd.pair k45 (Kd.pair (Kd.int .i64) Kd.string))) (fun x : S47 => (x.f0, x.f1, x.f2, x.f3))
theorem k47_open {w : World} {x : S47} {cs : List Value} (h : k47.K w x cs) : cs = [.int .i64 x.f0, .int .u64 x.f1.f0, .int .u64 x.f1.f1, .int .u64 x.f1.f2, .int .u64 x.f1.f3, .int .i64 x.f2, .string x.f3] := by
  obtain ⟨_, _, rfl, rfl, ⟨_, _, rfl, s1, ⟨_, _, rfl, rfl, rfl⟩⟩⟩ := h
  obtain rfl := k45_open s1
  exact rfl
theorem k47_mk (w : World) (x : S47)  : k47.K w x [.int .i64 x.f0, .int .u64 x.f1.f0, .int .u64 x.f1.f1, .int .u64 x.f1.f2, .int .u64 x.f1.f3, .int .i64 x.f2, .string x.f3] := ⟨[.int .i64 x.f0], [.int .u64 x.f1.f0, .int .u64 x.f1.f1, .int .u64 x.f1.f2, .int .u64 x.f1.f3, .int .i64 x.f2, .string x.f3], rfl, rfl, ⟨[.int .u64 x.f1.f0, .int .u64 x.f1.f1, .int .u64 x.f1.f2, .int .u64 x.f1.f3], [.int .i64 x.f2, .string x.f3], rfl, (k45_mk w x.f1 ), ⟨[.int .i64 x.f2], [.string x.f3], rfl, rfl, rfl⟩⟩⟩
def rd_T47 (xs : List S47) (i : Int) : S47 := xs.getD i.toNat z47
theorem at_T47 {w : World} {A : Option Addr} {n : Nat} {xs : List S47} (h : Kd.C k47 w A n xs) (i : Int) (h0 : 0 ≤ i) (h1 : i < n) : ∃ ad , A = some ad ∧ w.cell? (ad.add (i.toNat * 7)) = some (.int .i64 (rd_T47 xs i).f0) ∧ w.cell? ⟨(ad.add (i.toNat * 7)).block, (ad.add (i.toNat * 7)).off + 1, none⟩ = some (.int .u64 (rd_T47 xs i).f1.f0) ∧ w.cell? ⟨(ad.add (i.toNat * 7)).block, (ad.add (i.toNat * 7)).off + 2, none⟩ = some (.int .u64 (rd_T47 xs i).f1.f1) ∧ w.cell? ⟨(ad.add (i.toNat * 7)).block, (ad.add (i.toNat * 7)).off + 3, none⟩ = some (.int .u64 (rd_T47 xs i).f1.f2) ∧ w.cell? ⟨(ad.add (i.toNat * 7)).block, (ad.add (i.toNat * 7)).off + 4, none⟩ = some (.int .u64 (rd_T47 xs i).f1.f3) ∧ w.cell? ⟨(ad.add (i.toNat * 7)).block, (ad.add (i.toNat * 7)).off + 5, none⟩ = some (.int .i64 (rd_T47 xs i).f2) ∧ w.cell? ⟨(ad.add (i.toNat * 7)).block, (ad.add (i.toNat * 7)).off + 6, none⟩ = some (.string (rd_T47 xs i).f3) := by
  obtain ⟨ad, c, e, _, hK, hc0⟩ := Kd.C_get h z47 i h0 h1
  have hc : ∀ j u, c[j]? = some u → w.cell? (ad.add (i.toNat * 7 + j)) = some u := hc0
  obtain rfl := k47_open hK
  exact ⟨ad, e, hc 0 _ rfl, by rw [← add_field _ _ 1 (by omega)]; exact hc 1 _ rfl, by rw [← add_field _ _ 2 (by omega)]; exact hc 2 _ rfl, by rw [← add_field _ _ 3 (by omega)]; exact hc 3 _ rfl, by rw [← add_field _ _ 4 (by omega)]; exact hc 4 _ rfl, by rw [← add_field _ _ 5 (by omega)]; exact hc 5 _ rfl, by rw [← add_field _ _ 6 (by omega)]; exact hc 6 _ rfl⟩


/-! #### struct type 42 -/
structure S42 where
  f0 : ByteArray
  f1 : (List S47)
def z42 : S42 := ⟨(⟨#[]⟩ : ByteArray), ([] : List S47)⟩
def k42 : Kd S42 := Kd.iso (Kd.pair Kd.string (Kd.slice 47 k47)) (fun x : S42 => (x.f0, x.f1))
theorem k42_open {w : World} {x : S42} {cs : List Value} (h : k42.K w x cs) : ∃ A1 c1, cs = [.string x.f0, .slice A1 x.f1.length c1] ∧ x.f1.length ≤ c1 ∧ k47.C w A1 x.f1.length x.f1 := by
  obtain ⟨_, _, rfl, rfl, ⟨A1, c1, rfl, l1, g1⟩⟩ := h
  exact ⟨A1, c1, rfl, l1, g1⟩
theorem k42_mk (w : World) (x : S42) {A1 : Option Addr} {c1 : Nat} (l1 : x.f1.length ≤ c1) (g1 : k47.C w A1 x.f1.length x.f1) : k42.K w x [.string x.f0, .slice A1 x.f1.length c1] := ⟨[.string x.f0], [.slice A1 x.f1.length c1], rfl, rfl, ⟨A1, c1, rfl, l1, g1⟩⟩
def rd_T42 (xs : List S42) (i : Int) : S42 := xs.getD i.toNat z42
theorem at_T42 {w : World} {A : Option Addr} {n : Nat} {xs : List S42} (h : Kd.C k42 w A n xs) (i : Int) (h0 : 0 ≤ i) (h1 : i < n) : ∃ ad A1 c1, A = some ad ∧ w.cell? (ad.add (i.toNat * 2)) = some (.string (rd_T42 xs i).f0) ∧ w.cell? ⟨(ad.add (i.toNat * 2)).block, (ad.add (i.toNat * 2)).off + 1, none⟩ = some (.slice A1 (rd_T42 xs i).f1.length c1) ∧ (rd_T42 xs i).f1.length ≤ c1 ∧ k47.C w A1 (rd_T42 xs i).f1.length (rd_T42 xs i).f1 := by
  obtain ⟨ad, c, e, _, hK, hc0⟩ := Kd.C_get h z42 i h0 h1
  have hc : ∀ j u, c[j]? = some u → w.cell? (ad.add (i.toNat * 2 + j)) = some u := hc0
  obtain ⟨A1, c1, rfl, l1, g1⟩ := k42_open hK
  exact ⟨ad, A1, c1, e, hc 0 _ rfl, by rw [← add_field _ _ 1 (by omega)]; exact hc 1 _ rfl, l1, g1⟩

/-! #### struct type 49 -/
structure S49 where
  f0 : ByteArray
  f1 : Int
  f2 : Int
  f3 : Int
def z49 : S49 := ⟨(⟨#[]⟩ : ByteArray), (0 : Int), (0 : Int), (0 : Int)⟩
def k49 : Kd S49 := Kd.iso (Kd.pair Kd.string (Kd.pair (Kd.int .i64) (Kd.pair (Kd.int .i64) (Kd.int .i64)))) (fun x : S49 => (x.f0, x.f1, x.f2, x.f3))
theorem k49_open {w : World} {x : S49} {cs : List Value} (h : k49.K w x cs) : cs = [.string x.f0, .int .i64 x.f1, .int .i64 x.f2, .int .i64 x.f3] := by
  obtain ⟨_, _, rfl, rfl, ⟨_, _, rfl, rfl, ⟨_, _, rfl, rfl, rfl⟩⟩⟩ := h
  exact rfl
theorem k49_mk (w : World) (x : S49)  : k49.K w x [.string x.f0, .int .i64 x.f1, .int .i64 x.f2, .int .i64 x.f3] := ⟨[.string x.f0], [.int .i64 x.f1, .int .i64 x.f2, .int .i64 x.f3], rfl, rfl, ⟨[.int .i64 x.f1], [.int .i64 x.f2, .int .i64 x.f3], rfl, rfl, ⟨[.int .i64 x.f2], [.int .i64 x.f3], rfl, rfl, rfl⟩⟩⟩
def rd_T49 (xs : List S49) (i : Int) : S49 := xs.getD i.toNat z49
theorem at_T49 {w : World} {A : Option Addr} {n : Nat} {xs : List S49} (h : Kd.C k49 w A n xs) (i : Int) (h0 : 0 ≤ i) (h1 : i < n) : ∃ ad , A = some ad ∧ w.cell? (ad.add (i.toNat * 4)) = some (.string (rd_T49 xs i).f0) ∧ w.cell? ⟨(ad.add (i.toNat * 4)).block, (ad.add (i.toNat * 4)).off + 1, none⟩ = some (.int .i64 (rd_T49 xs i).f1) ∧ w.cell? ⟨(ad.add (i.toNat * 4)).block, (ad.add (i.toNat * 4)).off + 2, none⟩ = some (.int .i64 (rd_T49 xs i).f2) ∧ w.cell? ⟨(ad.add (i.toNat * 4)).block, (ad.add (i.toNat * 4)).off + 3, none⟩ = some (.int .i64 (rd_T49 xs i).f3) := by
  obtain ⟨ad, c, e, _, hK, hc0⟩ := Kd.C_get h z49 i h0 h1
  have hc : ∀ j u, c[j]? = some u → w.cell? (ad.add (i.toNat * 4 + j)) = some u := hc0
  obtain rfl := k49_open hK
  exact ⟨ad, e, hc 0 _ rfl, by rw [← add_field _ _ 1 (by omega)]; exact hc 1 _ rfl, by rw [← add_field _ _ 2 (by omega)]; exact hc 2 _ rfl, by rw [← add_field _ _ 3 (by omega)]; exact hc 3 _ rfl⟩

/-! #### struct type 81 -/

end Go.Proofs.YtmpkkphohilkoaaDoor.F
/- The laws' core grammars and limits, opened: their parts, and that none is larger than what memory can hold. -/
namespace Go.Proofs.YtmpkkphohilkoaaDoor.B
open Go Go.RowKit Go.X Go.Proofs.YtmpkkphohilkoaaDoorW.PrintWords Go.Proofs.YtmpkkphohilkoaaDoor.F Go.ChangeShapes Go.WideShapes
variable {w : World} {base : Nat}

theorem opens53 : Opens Tryd.prog w base 45 k45 :=
  .iso (fun p => ⟨p.1, p.2.1, p.2.2.1, p.2.2.2⟩) (fun _ => rfl) (.array Tryd.underlying45 (by kernel_rfl) (.step (by decide) (.int (by kernel_rfl)) (.step (by decide) (.int (by kernel_rfl)) (.step (by decide) (.int (by kernel_rfl)) (.last rfl (.int (by kernel_rfl)))))))
theorem opens55 : Opens Tryd.prog w base 47 k47 :=
  .iso (fun p => ⟨p.1, p.2.1, p.2.2.1, p.2.2.2⟩) (fun _ => rfl) (.struct Tryd.underlying47
    (.step _ 1 rfl rfl (by kernel_rfl) (.int (by kernel_rfl)) (.step _ 5 rfl rfl (by kernel_rfl) opens53 (.step _ 6 rfl rfl (by kernel_rfl) (.int (by kernel_rfl)) (.last _ rfl rfl (by kernel_rfl) (.string (by kernel_rfl)))))))
def Br (x : S42) : Prop := x.f0.size ≤ reachBytes ∧ x.f1.length * 64 ≤ reachBytes
def Bc (y : List S42 × Int) : Prop := y.1.length * 40 ≤ reachBytes ∧ ∀ x ∈ y.1, Br x
theorem by55 : Tryd.prog.bytesOf 47 = 64 := by kernel_rfl
theorem by45 : Tryd.prog.bytesOf 42 = 40 := by kernel_rfl
theorem opensB43 : OpensB Tryd.prog w base 40 (Kd.slice 47 k47) (fun xs => xs.length * 64 ≤ reachBytes) :=
  (OpensB.slice Tryd.underlying40 (by kernel_rfl) (.of opens55)).mono (fun v h => by rw [by55] at h; exact h.1)
theorem opensB45 : OpensB Tryd.prog w base 42 k42 Br :=
  .iso (fun p => ⟨p.1, p.2⟩) (fun _ => rfl) (.struct Tryd.underlying42 (.step _ 1 rfl rfl (by kernel_rfl) (.string (by kernel_rfl)) (.last _ rfl rfl (by kernel_rfl) opensB43)))
theorem opensB22 : OpensB Tryd.prog w base 22 (Kd.slice 42 k42) (fun xs => xs.length * 40 ≤ reachBytes ∧ ∀ x ∈ xs, Br x) :=
  (OpensB.slice Tryd.underlying22 (by kernel_rfl) opensB45).mono (fun v h => by rw [by45] at h; exact h)
theorem opensB24 : OpensB Tryd.prog w base 24 (Kd.pair (Kd.slice 42 k42) (Kd.int .i64)) Bc :=
  (OpensB.struct Tryd.underlying24 (.step _ 1 rfl rfl (by kernel_rfl) opensB22 (.last _ rfl rfl (by kernel_rfl) (.of (.int (by kernel_rfl)))))).mono (fun _ h => h.1)
theorem Bc.fit {rs : List S42} {st : Int} (h : Bc (rs, st)) : ∀ x ∈ rs, x.f1.length ≤ 140737488355328 ∧ x.f0.size ≤ 140737488355328 := fun x hx => by
  obtain ⟨h1, h2⟩ := h.2 x hx
  have r := reachBytes_lt
  exact ⟨by omega, by omega⟩
set_option maxRecDepth 100000 in
/-- A core grammar that is an argument. -/
theorem openCore {H : Type} {enc : TypeId × Value → H} {spare : Nat → Bool} {held : Bool} {r : Reach} {b0 : Nat} {v : Value} {x : DataW H} {p : List MemPlace}
    (hv : Value.okWide Tryd.prog w r b0 24 v) (h : DataW.Trod enc Tryd.prog w base spare held 24 v x p) (hf : Fits Tryd.prog 24 x) :
    ∃ (Ar : Option Addr) (c : Nat) (rs : List S42) (st : Int), v = .agg #[.slice Ar rs.length c, .int .i64 st] ∧ rs.length ≤ c ∧ Kd.C k42 w Ar rs.length rs ∧ Bc (rs, st) := by
  obtain ⟨⟨rs, st⟩, cs, rfl, ⟨c1, c2, e, ⟨Ar, c, e1, lr, hr⟩, e2⟩, hB⟩ := OpensB.argStruct Tryd.underlying24 opensB24 hv h hf
  subst e
  have e2' : c2 = [.int .i64 st] := e2
  simp only at e1
  subst e1
  subst e2'
  exact ⟨Ar, c, rs, st, rfl, lr, hr, hB⟩
end Go.Proofs.YtmpkkphohilkoaaDoor.B
/- Rows that are read (Kd.C) and rows of cells: one out of the other; a row that is lent. -/
namespace Go.X
open Go Go.RowKit Go.Proofs.YtmpkkphohilkoaaDoorW.PrintWords
variable {α : Type} {d : Kd α} {w w' : World}

theorem C_cells {A : Option Addr} {n : Nat} {xs : List α} (h : d.C w A n xs) :
    ∃ cs, Reps (d.K w) d.sz xs cs ∧ (cs ≠ [] → ∃ ad, A = some ad ∧ ∀ j v, cs[j]? = some v → w.cell? (ad.add j) = some v) := by
  obtain ⟨hl, _, hc⟩ := h
  rcases Nat.eq_zero_or_pos n with h0 | h0
  · obtain rfl : xs = [] := List.eq_nil_of_length_eq_zero (by omega)
    exact ⟨[], Reps.none _ _, fun h => absurd rfl h⟩
  · obtain ⟨ad, rfl, hcc⟩ := hc h0
    clear hc
    suffices H : ∀ m, m ≤ xs.length → ∃ cs, Reps (d.K w) d.sz (xs.take m) cs ∧ ∀ j v, cs[j]? = some v → w.cell? (ad.add j) = some v by
      obtain ⟨cs, h1, h2⟩ := H xs.length (Nat.le_refl _)
      rw [List.take_length] at h1
      exact ⟨cs, h1, fun _ => ⟨ad, rfl, h2⟩⟩
    intro m
    induction m with
    | zero => exact fun _ => ⟨[], by simpa using Reps.none _ _, by simp⟩
    | succ m ih =>
      intro hm
      obtain ⟨cs, h1, h2⟩ := ih (by omega)
      obtain ⟨c, e1, e2, e3⟩   := hcc m _ (List.getElem?_eq_getElem (show m < xs.length by omega))
      have hlen : cs.length = m * d.sz := by rw [h1.1, List.length_take]; congr 1; omega
      refine ⟨cs ++ c, ?_, fun j v hj => ?_⟩
      · rw [List.take_succ_eq_append_getElem (by omega)]
        exact h1.snoc e2 e1
      · rcases Nat.lt_or_ge j cs.length with hlt | hge
        · rw [List.getElem?_append_left hlt] at hj
          exact h2 j v hj
        · rw [List.getElem?_append_right hge] at hj
          have := e3 (j - cs.length) v hj
          rwa [show m * d.sz + (j - cs.length) = j by omega] at this

theorem Reps_oneCell {xs : List α} {cs : List Value} (h : Reps (d.K w) d.sz xs cs) : ∀ v ∈ cs, v.oneCell' = true := by
  suffices H : ∀ (xs : List α) (cs : List Value), Reps (d.K w) d.sz xs cs → ∀ v ∈ cs, v.oneCell' = true from H xs cs h
  intro xs
  induction xs with
  | nil =>
    intro cs h v hv
    have : cs = [] := List.eq_nil_of_length_eq_zero (by have := h.1; simpa using this)
    rw [this] at hv
    cases hv
  | cons x xs ih =>
    intro cs h v hv
    have hl := h.1
    have h0 := h.2 0 x rfl
    simp only [Nat.zero_mul, List.drop_zero] at h0
    have hr : Reps (d.K w) d.sz xs (cs.drop d.sz) := by
      refine ⟨by rw [List.length_drop, hl, List.length_cons, Nat.succ_mul]; omega, fun j p hj => ?_⟩
      have := h.2 (j + 1) p (by simpa using hj)
      rwa [List.drop_drop, show d.sz + j * d.sz = (j + 1) * d.sz by rw [Nat.succ_mul, Nat.add_comm]]
    rw [← List.take_append_drop d.sz cs] at hv
    rcases List.mem_append.1 hv with hv | hv
    · exact d.K_one h0 v hv
    · exact ih _ hr v hv

theorem C_of_blk {b : Nat} {e : TypeId} {xs : List α} {cs rest : List Value} (h : Blk w b e (cs ++ rest)) (hr : Reps (d.K w) d.sz xs cs) (hm : xs.length ≤ 9223372036854775807) :
    d.C w (some ⟨b, 0, none⟩) xs.length xs := by
  refine ⟨rfl, hm, fun _ => ⟨_, rfl, fun j p hj => ⟨(cs.drop (j * d.sz)).take d.sz, ?_, hr.2 j p hj, fun i u hu => ?_⟩⟩⟩
  · have hjl := (List.getElem?_eq_some_iff.1 hj).1
    have h1 : j * d.sz + d.sz ≤ cs.length := by rw [hr.1, ← Nat.succ_mul]; exact Nat.mul_le_mul_right _ hjl
    rw [List.length_take, List.length_drop]
    omega
  · rw [add_plain, h.cell]
    rw [List.getElem?_take] at hu
    split at hu
    · rw [List.getElem?_drop] at hu
      rw [List.getElem?_append_left (List.getElem?_eq_some_iff.1 hu).1]
      exact hu
    · cases hu

/-- A row that is lent: its elements, and behind them its holder's. -/
structure Lent (d : Kd α) (e : TypeId) (w : World) (b : Nat) (xs : List α) (hold : List Value) : Prop where
  mk' ::
  out : ∃ cs, Reps (d.K w) d.sz xs cs ∧ Blk w b e (cs ++ hold)

theorem Lent.lt {e : TypeId} {b : Nat} {xs : List α} {hold : List Value} (h : Lent d e w b xs hold) : b < w.heap.size := by
  obtain ⟨cs, _, hb⟩ := h.out
  exact hb.lt
theorem Lent.below {e : TypeId} {b : Nat} {xs : List α} {hold : List Value} (h : Lent d e w b xs hold) (g : Below w.heap.size w w') : Lent d e w' b xs hold := by
  obtain ⟨cs, hr, hb⟩ := h.out
  exact ⟨cs, hr.imp_ (fun _ _ hk => d.K_below g hk), hb.below g hb.lt⟩
theorem Lent.C {e : TypeId} {b : Nat} {xs : List α} {hold : List Value} (h : Lent d e w b xs hold) (hm : xs.length ≤ 9223372036854775807) : d.C w (some ⟨b, 0, none⟩) xs.length xs := by
  obtain ⟨cs, hr, hb⟩ := h.out
  exact C_of_blk hb hr hm
theorem splice_begin {α : Type} (L cs : List α) : splice L 0 cs = cs ++ L.drop cs.length := by simp [splice]
theorem splice_end {α : Type} (cs r hold : List α) (h : r.length = hold.length) : splice (cs ++ r) cs.length hold = cs ++ hold := by
  simp [splice, h.symm]
end Go.X
/- append to a row of the call's own: what else is kept, of rows in the same block, too. -/
namespace Go.X
open Go Go.RowKit
variable {P : Program}

/-- What an append of m elements to the row v (n elements of type e) leaves: v' in w'. -/
structure Appended (w w' : World) (e : TypeId) (size : Nat) (v v' : Value) (n : Nat) : Prop where
  grown : w.grownBy w' v.ownBlock
  place : v'.ownBlock = v.ownBlock ∨ v'.ownBlock = some w.heap.size ∧ w.grownBy w' none
  keeps : ∀ b e' sz u k ys, w.ownsRow b e' sz u k ys → (u.ownBlock = none ∨ u.ownBlock ≠ v.ownBlock ∨ sz = size ∧ k ≤ n) → w'.ownsRow b e' sz u k ys

theorem run_append_x (w : World) (base : Nat) (t ty e : TypeId) (i : TypeInfo) (z : Value) (size bytes : Nat) (ht : P.underlying t = some (.slice e)) (hi : P.info? e = some i) (hz : i.zero = some z)
    (hsize : i.size = size) (hby : i.bytes = bytes) (hzs : z.cells.size = size)
    (v : Value) (n : Nat) (xs : List Value) (hown : w.ownsRow base e size v n xs)
    (a : Addr) (m c : Nat) (news : List Value) (hl : news.length = m * size) (hnews : ∀ j u, news[j]? = some u → w.cell? (a.add j) = some u) (h1 : ∀ u ∈ news, u.oneCell' = true)
    (h63 : n + m ≤ maxLen) (hbytes : (n + m) * bytes ≤ 140737488355328) (hbase : base ≤ w.heap.size) :
    ∃ v' w', (Builtin.append_ #[t, t] ty #[v, .slice (some a) m c]).run P w = .ok v' w' ∧ w'.ownsRow base e size v' (n + m) (xs ++ news) ∧ Appended w w' e size v v' n := by
  subst hsize
  subst hby
  have hsmall : n + m ≤ 9223372036854775807 := by simp only [maxLen] at h63; omega
  have hlen : (xs ++ news).length = (n + m) * i.size := by rw [List.length_append, hown.1, hl, Nat.add_mul]
  have grown : ∀ (old : Nat), old < n + m →
      (w.drew.alloc (.cells (xs.toArray ++ news.toArray ++ Builtin.zeroCells z.cells (grownCap w (n + m) old e - (n + m))) e)).ownsRow base e i.size
        (.slice (some ⟨w.heap.size, 0, none⟩) (n + m) (grownCap w (n + m) old e)) (n + m) (xs ++ news) ∧
      ∀ row, w.grownBy (w.drew.alloc (.cells (xs.toArray ++ news.toArray ++ Builtin.zeroCells z.cells (grownCap w (n + m) old e - (n + m))) e)) row := by
    intro old ho
    have hge := grownCap_ge w (n + m) old e
    have hcm : grownCap w (n + m) old e ≤ maxLen := grownCap_le_maxLen w (n + m) old e h63
    refine ⟨⟨hlen, .inr ⟨w.heap.size, _, _, rfl, hbase, heap_alloc_new w.drew _, hge, hcm, ?_, ?_⟩⟩, fun row => ⟨rfl, rfl, rfl, by simp, fun k hk _ => Below.heap_alloc w.drew _ k hk⟩⟩
    · simp only [Array.size_append, List.size_toArray, size_zeroCells, hzs, hown.1, hl, ← Nat.add_mul]
      congr 1
      omega
    · simp only [Array.toList_append, List.append_assoc]
      rw [← List.append_assoc, ← hlen]
      exact List.take_left
  have keep : ∀ {w' : World}, w.grownBy w' none → ∀ b e' sz u k ys, w.ownsRow b e' sz u k ys → w'.ownsRow b e' sz u k ys := by
    intro w' hg b e' sz u k ys h
    exact h.kept hg (by cases hv : u.ownBlock <;> simp)
  rcases hown.2 with ⟨rfl, rfl⟩ | ⟨g, cap, cur, rfl, hbg, hg, hnc, hcm, hcs, htake⟩
  · have hx : xs = [] := List.eq_nil_of_length_eq_zero (by simpa using hown.1)
    subst hx
    by_cases hm : m = 0
    · subst hm
      have hn : news = [] := List.eq_nil_of_length_eq_zero (by simpa using hl)
      subst hn
      refine ⟨.slice none 0 0, w, ?_, World.ownsRow_nil w base e i.size, ⟨⟨rfl, rfl, rfl, Nat.le_refl _, fun _ _ _ => rfl⟩, Or.inl rfl, fun _ _ _ _ _ _ h _ => h⟩⟩
      simp [Builtin.append_, run_underlying ht, sizeOf, typeInfo, hi, Builtin.lenOf, Builtin.firstCells, loadCells, loadCellsFrom]
    · have hr := run_append_nil (P := P) w t ty e i z ht hi hz a m c news hl hnews (by omega) (by omega) (by have hb := hbytes; simp only [Nat.zero_add] at hb; omega)
      have hgr := grown 0 (by omega)
      simp only [Nat.zero_add, List.nil_append, Array.empty_append] at hgr ⊢
      exact ⟨_, _, hr, hgr.1, ⟨hgr.2 _, Or.inr ⟨rfl, hgr.2 _⟩, fun b e' sz u k ys h _ => keep (hgr.2 none) b e' sz u k ys h⟩⟩
  · by_cases hroom : n + m ≤ cap
    · have hfit : n * i.size + news.length ≤ cur.size := by rw [hl, hcs, ← Nat.add_mul]; exact Nat.mul_le_mul_right _ hroom
      have hr := run_append_room (P := P) w t ty e i ht hi g n cap cur hg a m c news hl hnews h1 hroom hfit
      have hgrow : w.grownBy (w.setRow g (cur.toList.take (n * i.size) ++ news ++ cur.toList.drop (n * i.size + news.length)).toArray) (some g) := ⟨rfl, rfl, rfl, by simp, fun k _ hk => setRow_other w g k _ (fun e => hk (by simp [e]))⟩
      refine ⟨_, _, hr, ⟨hlen, .inr ⟨g, cap, _, rfl, hbg, setRow_heap w g cur _ e _ hg, hroom, hcm, ?_, ?_⟩⟩, ⟨hgrow, Or.inl rfl, ?_⟩⟩
      · simp only [List.size_toArray, List.length_append, List.length_take, List.length_drop, Array.length_toList]
        omega
      · rw [htake, ← hlen]
        exact List.take_left
      · intro b e' sz u k ys h hh
        rcases hh with hh | hh | ⟨rfl, hk⟩
        · exact h.kept hgrow (.inl hh)
        · exact h.kept hgrow (.inr hh)
        · by_cases hu : u.ownBlock = some g
          · refine ⟨h.1, ?_⟩
            rcases h.2 with hn | ⟨g', cap', cur', rfl, hb', hgg, h1', h2', h3', h4'⟩
            · exact .inl hn
            · have : g' = g := by simpa [Value.ownBlock] using hu
              subst this
              rw [hg] at hgg
              simp at hgg
              obtain ⟨rfl, rfl⟩ := hgg
              refine .inr ⟨g', cap', _, rfl, hb', setRow_heap w g' cur _ e _ hg, h1', h2', ?_, ?_⟩
              · rw [← h3']
                simp only [List.size_toArray, List.length_append, List.length_take, List.length_drop, Array.length_toList]
                omega
              · rw [← h4']
                have hkn : k * i.size ≤ n * i.size := Nat.mul_le_mul_right _ hk
                rw [List.toList_toArray, List.append_assoc, List.take_append_of_le_length (by rw [List.length_take, Array.length_toList]; omega), List.take_take, Nat.min_eq_left hkn]
          · exact h.kept hgrow (.inr hu)
    · have holds : ∀ j u, xs[j]? = some u → w.cell? ((⟨g, 0, none⟩ : Addr).add j) = some u := hown.cells (g := g) rfl
      have hr := run_append_grow (P := P) w t ty e i z ht hi hz ⟨g, 0, none⟩ n cap xs hown.1 holds a m c news hl hnews (by omega) (by omega) (growslice_fits (by omega) hbytes)
      have hgr := grown cap (by omega)
      exact ⟨_, _, hr, hgr.1, ⟨hgr.2 _, Or.inr ⟨rfl, hgr.2 _⟩, fun b e' sz u k ys h _ => keep (hgr.2 none) b e' sz u k ys h⟩⟩

section
variable {w : World} {ops : Array Oper} {rest : List Oper} {o : Oper} {a : Act} {Q : Exit → Act → World → Prop}
/-- 'append(v, x)' of one element (news: its cells), which lies in the block made last. -/
theorem append1 (hgd : o.guard = none) (s x : Operand) (t e : TypeId) (ho : o.op = .call { callee := .builtin .append, args := #[s, x], argTypes := #[t, t] })
    (base : Nat) (z : Value) (size bytes : Nat) (ht : P.underlying t = some (.slice e)) (hinfo : (P.info? e).map (fun i => (i.zero, i.size, i.bytes)) = some (some z, size, bytes)) (hzs : z.cells.size = size)
    (v : Value) (n : Nat) (xs : List Value) (hs : a.eval s = v) (hown : w.ownsRow base e size v n xs)
    (news : List Value) (hx : a.eval x = .slice (some ⟨w.heap.size, 0, none⟩) 1 1) (hl : news.length = size) (h1 : ∀ u ∈ news, u.oneCell' = true)
    (h63 : n + 1 ≤ maxLen) (hbytes : (n + 1) * bytes ≤ 140737488355328) (hbase : base ≤ w.heap.size)
    (h : ∀ v' w', w'.ownsRow base e size v' (n + 1) (xs ++ news) → Appended (w.alloc (.cells news.toArray e)) w' e size v v' n → wpList P ops Q rest (a.put o.dst v') w') :
    wpList P ops Q (o :: rest) a (w.alloc (.cells news.toArray e)) := by
  refine wpList_plain hgd fun K hK => ?_
  obtain ⟨i, hi, hzz⟩ := Option.map_eq_some_iff.1 hinfo
  simp only [Prod.mk.injEq] at hzz
  obtain ⟨hz0, hz1, hz2⟩ := hzz
  obtain ⟨v', w', hr, h2, h3⟩ := run_append_x (P := P) (w.alloc (.cells news.toArray e)) base t o.type e i z size bytes ht hi hz0 hz1 hz2 hzs v n xs (hown.alloc _) ⟨w.heap.size, 0, none⟩ 1 1 news (by simpa using hl)
    (by have := World.news_of_block (w := w.alloc (.cells news.toArray e)) (B := w.heap.size) (cs := news.toArray) (t := e) (fr := (0, 0)) (heap_alloc_new w _); simpa using this) h1 h63 hbytes (by simp; omega)
  unfold Oper.wp execOp
  simp only [ho, resolve, invoke, builtin, Sem.run_bind, Sem.run_pure, Result.andThen_ok, List.map_toArray, List.map_cons, List.map_nil, hs, hx, hr]
  exact hK _ _ (h v' w' h2 h3)
end
theorem Appended.keeps_lt {w w' : World} {e e' : TypeId} {size : Nat} {v v' : Value} {n : Nat} (h : Appended w w' e size v v' n) {b : Nat} {cs : List Value} (hb : Blk w b e' cs) (hne : some b ≠ v.ownBlock) : Blk w' b e' cs :=
  hb.grown h.grown hne
end Go.X
/- Plain facts for the Free.. functions: rows that are written full and grown, one by one. -/
namespace Go.X.Fr
open Go Go.RowKit




variable {w w' : World} {base : Nat} {T : TypeId} {vs : List Value} {M : Nat → Value}











end Go.X.Fr
/- Plain facts for FreeForests: rows of elements of four cells, whose last cell is written and grown, one by one. -/
namespace Go.X.Fr4
open Go Go.RowKit Go.X.Fr


variable {w w' : World} {base : Nat} {T : TypeId} {vs : List Value} {M : Nat → Value}

theorem grown2 {w w' w'' : World} {r : Option Nat} (h : w.grownBy w' r) (h' : w'.grownBy w'' r) : w.grownBy w'' r :=
  ⟨h'.os.trans h.os, h'.tape.trans h.tape, h'.output.trans h.output, Nat.le_trans h.size h'.size, fun k hk hne => (h'.block k (Nat.lt_of_lt_of_le hk h.size) hne).trans (h.block k hk hne)⟩
end Go.X.Fr4
/- Rows of captures: owned, grown, joined, read. -/
namespace Go.X
open Go Go.RowKit
variable {P : Program}
theorem run_append_x_none (w : World) (t ty e : TypeId) (i : TypeInfo) (ht : P.underlying t = some (.slice e)) (hi : P.info? e = some i) (g n cap : Nat) (h : n ≤ cap) :
    (Builtin.append_ #[t, t] ty #[.slice (some ⟨g, 0, none⟩) n cap, .slice none 0 0]).run P w = .ok (.slice (some ⟨g, 0, none⟩) n cap) w := by
  simp [Builtin.append_, run_underlying ht, sizeOf, typeInfo, hi, Builtin.lenOf, Builtin.firstCells, loadCells, h, storeCells]
theorem Appended.refl (w : World) (e : TypeId) (size : Nat) (v : Value) (n : Nat) : Appended w w e size v v n := ⟨⟨rfl, rfl, rfl, Nat.le_refl _, fun _ _ _ => rfl⟩, Or.inl rfl, fun _ _ _ _ _ _ h _ => h⟩
/-- 'append(v, x...)': the row x behind the row v. -/
theorem run_append_row (w : World) (base b2 : Nat) (t ty e : TypeId) (i : TypeInfo) (z : Value) (size bytes : Nat) (ht : P.underlying t = some (.slice e)) (hi : P.info? e = some i) (hz : i.zero = some z)
    (hsize : i.size = size) (hby : i.bytes = bytes) (hzs : z.cells.size = size)
    (v : Value) (n : Nat) (xs : List Value) (hown : w.ownsRow base e size v n xs)
    (vx : Value) (m : Nat) (news : List Value) (hx : w.ownsRow b2 e size vx m news) (h1 : ∀ u ∈ news, u.oneCell' = true)
    (h63 : n + m ≤ maxLen) (hbytes : (n + m) * bytes ≤ 140737488355328) (hbase : base ≤ w.heap.size) :
    ∃ v' w', (Builtin.append_ #[t, t] ty #[v, vx]).run P w = .ok v' w' ∧ w'.ownsRow base e size v' (n + m) (xs ++ news) ∧ Appended w w' e size v v' n := by
  rcases hx.2 with ⟨rfl, rfl⟩ | ⟨g, cap, cur, rfl, _, _, _, _, _, _⟩
  · obtain rfl : news = [] := List.eq_nil_of_length_eq_zero (by simpa using hx.1)
    refine ⟨v, w, ?_, by simpa using hown, Appended.refl _ _ _ _ _⟩
    rcases hown.2 with ⟨rfl, rfl⟩ | ⟨g, cap, cur, rfl, _, _, hc, _, _, _⟩
    · simp [Builtin.append_, run_underlying ht, sizeOf, typeInfo, hi, Builtin.lenOf, Builtin.firstCells]
    · exact run_append_x_none w t ty e i ht hi g n cap hc
  · exact run_append_x w base t ty e i z size bytes ht hi hz hsize hby hzs v n xs hown ⟨g, 0, none⟩ m cap news hx.1 (hx.cells rfl) h1 h63 hbytes hbase
section
variable {w : World} {ops : Array Oper} {rest : List Oper} {o : Oper} {a : Act} {Q : Exit → Act → World → Prop}
theorem appendRow (hgd : o.guard = none) (s x : Operand) (t e : TypeId) (ho : o.op = .call { callee := .builtin .append, args := #[s, x], argTypes := #[t, t] })
    (base b2 : Nat) (z : Value) (size bytes : Nat) (ht : P.underlying t = some (.slice e)) (hinfo : (P.info? e).map (fun i => (i.zero, i.size, i.bytes)) = some (some z, size, bytes)) (hzs : z.cells.size = size)
    (v : Value) (n : Nat) (xs : List Value) (hs : a.eval s = v) (hown : w.ownsRow base e size v n xs)
    (vx : Value) (m : Nat) (news : List Value) (hx : a.eval x = vx) (hxo : w.ownsRow b2 e size vx m news) (h1 : ∀ u ∈ news, u.oneCell' = true)
    (h63 : n + m ≤ maxLen) (hbytes : (n + m) * bytes ≤ 140737488355328) (hbase : base ≤ w.heap.size)
    (h : ∀ v' w', w'.ownsRow base e size v' (n + m) (xs ++ news) → Appended w w' e size v v' n → wpList P ops Q rest (a.put o.dst v') w') :
    wpList P ops Q (o :: rest) a w := by
  refine wpList_plain hgd fun K hK => ?_
  obtain ⟨i, hi, hzz⟩ := Option.map_eq_some_iff.1 hinfo
  simp only [Prod.mk.injEq] at hzz
  obtain ⟨hz0, hz1, hz2⟩ := hzz
  obtain ⟨v', w', hr, h2, h3⟩ := run_append_row (P := P) w base b2 t o.type e i z size bytes ht hi hz0 hz1 hz2 hzs v n xs hown vx m news hxo h1 h63 hbytes hbase
  unfold Oper.wp execOp
  simp only [ho, resolve, invoke, builtin, Sem.run_bind, Sem.run_pure, Result.andThen_ok, List.map_toArray, List.map_cons, List.map_nil, hs, hx, hr]
  exact hK _ _ (h v' w' h2 h3)
end
theorem ownsRow_low {w : World} {b b' n size : Nat} {e : TypeId} {v : Value} {xs : List Value} (h : w.ownsRow b e size v n xs) (hb : b' ≤ b) : w.ownsRow b' e size v n xs := by
  refine ⟨h.1, ?_⟩
  rcases h.2 with h1 | ⟨g, cap, cur, rfl, h1, h2⟩
  · exact .inl h1
  · exact .inr ⟨g, cap, cur, rfl, Nat.le_trans hb h1, h2⟩
theorem own_slice {w : World} {base n : Nat} {e : TypeId} {sz : Nat} {v : Value} {xs : List Value} (h : w.ownsRow base e sz v n xs) : ∃ a cap, v = .slice a n cap := by
  rcases h.2 with ⟨rfl, rfl⟩ | ⟨g, cap, cur, rfl, _⟩
  · exact ⟨none, 0, rfl⟩
  · exact ⟨_, _, rfl⟩
/-- A row of its own lies in a block of its elements' type. -/
theorem own_other {w : World} {base n b sz : Nat} {e t : TypeId} {v : Value} {xs cs : List Value} (h : w.ownsRow base e sz v n xs) (hb : Blk w b t cs) (ht : t ≠ e) : v.ownBlock ≠ some b := by
  intro q
  rcases h.2 with ⟨rfl, _⟩ | ⟨g, cap, cur, rfl, _, hg, _⟩
  · simp [Value.ownBlock] at q
  · simp only [Value.ownBlock, Option.some.injEq] at q
    subst q
    have : w.heap[g]? = _ := hb
    rw [this] at hg
    simp at hg
    exact ht hg.2
/-- Nothing else than the block r changed. -/
theorem grown_more {w w' : World} {r : Option Nat} (h : w.grownBy w' none) : w.grownBy w' r := ⟨h.os, h.tape, h.output, h.size, fun k hk _ => h.block k hk (by simp)⟩
theorem grown_of_below {w w' : World} (h : Below w.heap.size w w') (r : Option Nat) : w.grownBy w' r := ⟨h.os, h.tape, h.output, h.size, fun k hk _ => h.block k hk⟩
theorem below_of_grown {w w' : World} (h : w.grownBy w' none) : Below w.heap.size w w' := ⟨h.os, h.tape, h.output, h.size, fun k hk => h.block k hk (by simp)⟩
theorem grown_same (w : World) (r : Option Nat) : w.grownBy w r := ⟨rfl, rfl, rfl, Nat.le_refl _, fun _ _ _ => rfl⟩
theorem grown_then {w w' w'' : World} {r r' : Option Nat} (h : w.grownBy w' r) (h' : w'.grownBy w'' r') (hr : ∀ k, r' = some k → r = some k ∨ w.heap.size ≤ k) : w.grownBy w'' r :=
  ⟨h'.os.trans h.os, h'.tape.trans h.tape, h'.output.trans h.output, Nat.le_trans h.size h'.size, fun k hk hne => (h'.block k (Nat.lt_of_lt_of_le hk h.size) (fun e => (hr k e.symm).elim (fun e2 => hne e2.symm) (fun h2 => by omega))).trans (h.block k hk hne)⟩
end Go.X
namespace Go.Proofs.YtmpkkphohilkoaaDoor.B
open Go Go.RowKit Go.X Go.Ma Go.Proofs.YtmpkkphohilkoaaDoorW.PrintWords Go.Proofs.YtmpkkphohilkoaaDoor.F

def capCells (x : Cap) : List Value := [.string x.nm, .int .i64 x.fr, .int .i64 x.to, .int .i64 x.kids]
def capsOf (L : List Cap) : List Value := L.flatMap capCells
theorem caps_app (L M : List Cap) : capsOf (L ++ M) = capsOf L ++ capsOf M := by simp [capsOf]
theorem capsOf_one (L : List Cap) : ∀ u ∈ capsOf L, u.oneCell' = true := by
  intro u hu
  rw [capsOf, List.mem_flatMap] at hu
  obtain ⟨x, _, hu⟩ := hu
  simp only [capCells, List.mem_cons, List.not_mem_nil, or_false] at hu
  rcases hu with rfl | rfl | rfl | rfl <;> rfl
/-- A forest in memory of its own. -/
def OwnF (w : World) (base : Nat) (v : Value) (F : List Cap) : Prop := w.ownsRow base 49 4 v F.length (capsOf F)
theorem OwnF.nil (w : World) (base : Nat) : OwnF w base (.slice none 0 0) [] := World.ownsRow_nil _ _ _ _
theorem OwnF.low {w : World} {b b' : Nat} {v : Value} {F : List Cap} (h : OwnF w b v F) (hb : b' ≤ b) : OwnF w b' v F := ownsRow_low h hb
theorem OwnF.kept {w w' : World} {base b : Nat} {v : Value} {F : List Cap} {t : TypeId} {cs : List Value} (h : OwnF w base v F) (hg : w.grownBy w' (some b)) (hb : Blk w b t cs) (ht : t ≠ 49) : OwnF w' base v F :=
  World.ownsRow.kept h hg (.inr (own_other h hb ht))
theorem OwnF.more {w w' : World} {base : Nat} {v : Value} {F : List Cap} (h : OwnF w base v F) (hg : w.grownBy w' none) : OwnF w' base v F :=
  World.ownsRow.kept h hg (by cases hv : v.ownBlock <;> simp)
theorem OwnF.appended {w' : World} {base : Nat} {v' : Value} {F G : List Cap} (ho : w'.ownsRow base 49 4 v' (F.length + G.length) (capsOf F ++ capsOf G)) : OwnF w' base v' (F ++ G) := by
  rw [OwnF, List.length_append, caps_app]; exact ho
def toS (c : Cap) : S49 := ⟨c.nm, c.fr, c.to, c.kids⟩
theorem caps_reps (w : World) (L : List Cap) : Reps (k49.K w) k49.sz (L.map toS) (capsOf L) := by
  have H : ∀ n, n ≤ L.length → Reps (k49.K w) k49.sz ((L.take n).map toS) (capsOf (L.take n)) := by
    intro n
    induction n with
    | zero => intro _; exact Reps.none _ _
    | succ n ih =>
      intro hn
      have h1 : L.take (n + 1) = L.take n ++ [L[n]] := by rw [List.take_succ_eq_append_getElem (by omega)]
      rw [h1, caps_app, List.map_append]
      have := (ih (by omega)).snoc (k49_mk w (toS L[n])) (by rfl)
      simpa [capsOf, capCells, toS] using this
  have := H L.length (Nat.le_refl _)
  rwa [List.take_length] at this
theorem caps_C {w : World} {base c n : Nat} {a : Option Addr} {L : List Cap} (h : OwnF w base (.slice a n c) L) (hm : L.length ≤ 4000000) : Kd.C k49 w a (L.map toS).length (L.map toS) := by
  rcases h.2 with ⟨h1, h2⟩ | ⟨g, cap, cur, h1, _, h3, h4, h5, h6, h7⟩
  · have : L = [] := List.eq_nil_of_length_eq_zero h2
    subst this
    exact ⟨by simp, by simp, fun h => absurd h (Nat.lt_irrefl _)⟩
  · injection h1 with h1 h8 h9
    subst h1
    refine X.C_of_blk (e := 49) (cs := capsOf L) (rest := cur.toList.drop (L.length * 4)) ?_ (caps_reps w L) (by rw [List.length_map]; omega)
    rw [← h7, List.take_append_drop]
    simpa [Blk] using h3
end Go.Proofs.YtmpkkphohilkoaaDoor.B
/- The evaluation's state in memory; begin, matched, class.Has. -/
namespace Go.Proofs.YtmpkkphohilkoaaDoor.B
open Go Go.RowKit Go.X Go.Ma Go.Proofs.YtmpkkphohilkoaaDoorW.PrintWords Go.Proofs.YtmpkkphohilkoaaDoor.F

theorem Below.drewQ {w w' : World} (h : ∃ q, w' = w.drewN q) : Below w.heap.size w w' := by
  obtain ⟨q, rfl⟩ := h
  exact ⟨rfl, rfl, rfl, Nat.le_refl _, fun _ _ => rfl⟩
/-- A tree as a value. -/
def tv : T → Value
  | .emp => .iface 87 (.agg #[])
  | .set c => .iface 89 (.agg #[.int .u64 c.c0, .int .u64 c.c1, .int .u64 c.c2, .int .u64 c.c3])
  | .rule n => .iface 91 (.agg #[.int .i64 (n : Int)])
  | .thr s => .iface 93 (.agg #[.string s])
  | .seq a b => .iface 95 (.agg #[tv a, tv b])
  | .alt a b => .iface 96 (.agg #[tv a, tv b])
  | .star a => .iface 98 (.agg #[tv a])
  | .not a => .iface 99 (.agg #[tv a])
  | .cap nm a => .iface 101 (.agg #[.string nm, tv a])
/-- Its rules are there. -/
def low (N : Nat) : T → Prop
  | .rule n => n < N
  | .seq a b => low N a ∧ low N b
  | .alt a b => low N a ∧ low N b
  | .star a => low N a
  | .not a => low N a
  | .cap _ a => low N a
  | _ => True
/-- The evaluation's own record. -/
def runCells (inp : ByteArray) (A : Addr) (N cR : Nat) (l : Lim) (s : St) : List Value := [.string inp, .slice (some A) N cR, .int .i64 (l.depth : Nat), .int .i64 (l.steps : Nat), .int .i64 (s.depth : Nat), .int .i64 (s.steps : Nat), .int .i64 s.err]
theorem tickCells {inp : ByteArray} {A : Addr} {N cR d m : Nat} {l : Lim} {s : St} (h : m = max s.depth d) : ((runCells inp A N cR l s).set 5 (.int .i64 ((s.steps : Int) + 1))).set 4 (.int .i64 (m : Nat)) = runCells inp A N cR l (tick d s) := by
  subst h
  rfl
/-- The state behind begin. -/
def aft (l : Lim) (d : Nat) (s : St) : St := if stop l d s = true then halt l d s else tick d s
def BegPost (inp : ByteArray) (A : Addr) (N cR rb : Nat) (l : Lim) (s : St) (d : Nat) (w : World) (e : Ending) (w' : World) : Prop :=
  e = .returned (.bool (!stop l d s)) ∧ w.grownBy w' (some rb) ∧ w'.heap.size = w.heap.size ∧ Blk w' rb 70 (runCells inp A N cR l (aft l d s))
theorem BegPost.mk {inp : ByteArray} {A : Addr} {N cR rb d : Nat} {l : Lim} {s : St} {w w' : World} {b : Bool} (hs : stop l d s = !b) (hg : w.grownBy w' (some rb)) (hz : w'.heap.size = w.heap.size) (hb : Blk w' rb 70 (runCells inp A N cR l (aft l d s))) : BegPost inp A N cR rb l s d w (.returned (.bool b)) w' :=
  ⟨by rw [hs, Bool.not_not], hg, hz, hb⟩
set_option maxRecDepth 100000 in
set_option maxHeartbeats 4000000 in
theorem begin.calls (inp : ByteArray) (A : Addr) (N cR rb d : Nat) (l : Lim) (s : St) (w : World) (hb : Blk w rb 70 (runCells inp A N cR l s)) (hl : l.steps ≤ 1048576) :
    Calls Tryd.prog 38 #[.pointer (some ⟨rb, 0, none⟩), .int .i64 (d : Nat)] w (BegPost inp A N cR rb l s d w) := by
  have HB := Lib.hid hb; clear hb
  have c2 : w.cell? ⟨rb, 2, none⟩ = some (.int .i64 (l.depth : Nat)) := HB.out.cell 2
  have c3 : w.cell? ⟨rb, 3, none⟩ = some (.int .i64 (l.steps : Nat)) := HB.out.cell 3
  have c4 : w.cell? ⟨rb, 4, none⟩ = some (.int .i64 (s.depth : Nat)) := HB.out.cell 4
  have c5 : w.cell? ⟨rb, 5, none⟩ = some (.int .i64 (s.steps : Nat)) := HB.out.cell 5
  have c6 : w.cell? ⟨rb, 6, none⟩ = some (.int .i64 s.err) := HB.out.cell 6
  have f4 := HB.out.frozen 4
  have f5 := HB.out.frozen 5
  have f6 := HB.out.frozen 6
  go_enter Tryd.func38, Tryd.ntmps38
  by_cases h1 : s.err = 0
  · by_cases h2 : l.depth < d
    · have h2' : (l.depth : Int) < (d : Int) := by omega
      have HV : Hid (stop l d s = true ∧ aft l d s = { s with err := 3 }) := by
        have e : stop l d s = true := decide_eq_true (.inr (.inl h2))
        exact ⟨e, by rw [aft, if_pos e, halt, if_neg (by simp [h1]), if_pos h2]⟩
      go_wp2
      go_ret
      refine BegPost.mk HV.out.1 (grown_setCell w _ _) (by simp [World.setCell]) ?_
      rw [HV.out.2]
      exact HB.out.setCell 6 _
    · by_cases h3 : l.steps ≤ s.steps
      · have h2' : ¬ (l.depth : Int) < (d : Int) := by omega
        have h3' : (l.steps : Int) ≤ (s.steps : Int) := by omega
        have HV : Hid (stop l d s = true ∧ aft l d s = { s with err := 4 }) := by
          have e : stop l d s = true := decide_eq_true (.inr (.inr h3))
          exact ⟨e, by rw [aft, if_pos e, halt, if_neg (by simp [h1]), if_neg h2]⟩
        go_wp2
        go_quiet (fail)
        go_wp2
        go_ret
        refine BegPost.mk HV.out.1 (grown_then (X.grown_of_below (Below.drewQ ⟨_, rfl⟩) _) (grown_setCell _ _ _) fun _ h => .inl h) (by simp [World.setCell]) ?_
        rw [HV.out.2]
        exact (HB.out.below (Below.drewQ ⟨_, rfl⟩) HB.out.lt).setCell 6 _
      · have h2' : ¬ (l.depth : Int) < (d : Int) := by omega
        have h3' : ¬ (l.steps : Int) ≤ (s.steps : Int) := by omega
        have HV : Hid (stop l d s = false ∧ aft l d s = tick d s) := by
          have e : stop l d s = false := decide_eq_false (by omega)
          exact ⟨e, by rw [aft, if_neg (by rw [e]; decide)]⟩
        have hw : wrap64 ((s.steps : Int) + 1) = ((s.steps + 1 : Nat) : Int) := by rw [IntWalk.wrap64_in _ (by omega)]; rfl
        by_cases h4 : s.depth < d
        · go_wp2
          go_quiet (fail)
          go_wp2
          go_ret
          refine BegPost.mk HV.out.1 (grown_then (grown_then (X.grown_of_below (Below.drewQ ⟨_, rfl⟩) _) (grown_setCell _ _ _) fun _ h => .inl h) (grown_setCell _ _ _) fun _ h => .inl h) (by simp [World.setCell]) ?_
          rw [HV.out.2, ← tickCells (m := d) (by omega)]
          exact ((HB.out.below (Below.drewQ ⟨_, rfl⟩) HB.out.lt).setCell 5 _).setCell 4 _
        · go_wp2
          go_quiet (fail)
          go_wp2
          go_ret
          refine BegPost.mk HV.out.1 (grown_then (grown_then (X.grown_of_below (Below.drewQ ⟨_, rfl⟩) _) (grown_setCell _ _ _) fun _ h => .inl h) (grown_setCell _ _ _) fun _ h => .inl h) (by simp [World.setCell]) ?_
          rw [HV.out.2, ← tickCells (m := s.depth) (by omega)]
          exact ((HB.out.below (Below.drewQ ⟨_, rfl⟩) HB.out.lt).setCell 5 _).setCell 4 _
  · have hb1 : (s.err == (0 : Int)) = false := beq_eq_false_iff_ne.2 h1
    have HV : Hid (stop l d s = true ∧ aft l d s = s) := by
      have e : stop l d s = true := decide_eq_true (.inl h1)
      exact ⟨e, by rw [aft, if_pos e, halt, if_pos h1]⟩
    go_wp2
    go_ret
    refine BegPost.mk HV.out.1 (grown_same w _) rfl ?_
    rw [HV.out.2]
    exact HB.out
/-- A result that is told: kind, end, label, forest, trees. -/
def resCells (k : Int) (en : Nat) (lb : ByteArray) (v : Value) (t : Nat) : List Value := [.int .i64 k, .int .i64 (en : Nat), .string lb, v, .int .i64 (t : Nat)]
set_option maxRecDepth 100000 in
set_option maxHeartbeats 4000000 in
theorem matched.calls (p : Nat) (w : World) : Calls Tryd.prog 78 #[.int .i64 (p : Nat)] w fun e w' => e = .returned (.agg (resCells 1 p ⟨#[]⟩ (.slice none 0 0) 0).toArray) ∧ w.grownBy w' none := by
  go_enter Tryd.func78, Tryd.ntmps78
  go_wp2
  have HW : ∀ wz : World, wz = w.alloc (.cells (resCells 1 p ⟨#[]⟩ (.slice none 0 0) 0).toArray 75) → w.grownBy wz none ∧ Blk wz w.heap.size 75 (resCells 1 p ⟨#[]⟩ (.slice none 0 0) 0) := by
    rintro wz rfl
    exact ⟨World.grownBy_alloc _ _ none, Blk.alloc _ _ _⟩
  obtain ⟨wz, hwz⟩ : ∃ wz, wz = w.alloc (.cells (resCells 1 p ⟨#[]⟩ (.slice none 0 0) 0).toArray 75) := ⟨_, rfl⟩
  obtain ⟨hg, hb⟩ := HW wz hwz
  show bodyPost _ _ _ _ _ (w.alloc (.cells (resCells 1 p ⟨#[]⟩ (.slice none 0 0) 0).toArray 75))
  rw [← hwz]
  clear hwz HW
  have r0 : wz.cell? ⟨w.heap.size, 0, none⟩ = some (.int .i64 1) := hb.cell 0
  have r1 : wz.cell? ⟨w.heap.size, 1, none⟩ = some (.int .i64 (p : Nat)) := hb.cell 1
  have r2 : wz.cell? ⟨w.heap.size, 2, none⟩ = some (.string ⟨#[]⟩) := hb.cell 2
  have r3 : wz.cell? ⟨w.heap.size, 3, none⟩ = some (.slice none 0 0) := hb.cell 3
  have r4 : wz.cell? ⟨w.heap.size, 4, none⟩ = some (.int .i64 0) := hb.cell 4
  refine bodyPost_ret (v := .agg (resCells 1 p ⟨#[]⟩ (.slice none 0 0) 0).toArray) (by simp [results, resCells, Tryd.results78, go_sem, r0, r1, r2, r3, r4]) rfl ?_
  exact ⟨rfl, hg⟩
/-- The word of a class that a byte is looked for in. -/
def wd (c : Cls) (x : Int) : Int := [c.c0, c.c1, c.c2, c.c3].getD (x / 64).toNat 0
theorem wd_at (c : Cls) {x : Int} (h0 : 0 ≤ x) (h1 : x < 256) : [Value.int .u64 c.c0, .int .u64 c.c1, .int .u64 c.c2, .int .u64 c.c3][(x / 64).toNat]? = some (.int .u64 (wd c x)) := by
  have h : (x / 64).toNat < 4 := by omega
  rw [wd]
  generalize (x / 64).toNat = n at h
  match n, h with
  | 0, _ => rfl
  | 1, _ => rfl
  | 2, _ => rfl
  | 3, _ => rfl
theorem and1 (z : Int) : bits .and .u64 z 1 = z % 2 := by
  have h1 : (BitVec.ofInt 64 1).toNat = 2 ^ 1 - 1 := by decide
  have key : (BitVec.ofInt 64 z &&& BitVec.ofInt 64 1).toNat = (z % ((2 ^ 64 : Nat) : Int)).toNat % 2 ^ 1 := by
    rw [BitVec.toNat_and, BitVec.toNat_ofInt, h1, Nat.and_two_pow_sub_one_eq_mod]
  show IntKind.u64.wrap ((BitVec.ofInt 64 z &&& BitVec.ofInt 64 1).toNat : Nat) = z % 2
  rw [key]
  simp only [IntKind.wrap, IntKind.signed, IntKind.bits]
  simp
  omega
/-- Has a class the byte? -/
def clsHas (c : Cls) (x : Int) : Bool := decide (wd c x / 2 ^ (x % 64).toNat % 2 = 1)
set_option maxRecDepth 100000 in
set_option maxHeartbeats 4000000 in
theorem has.calls (c : Cls) (x : Int) (h0 : 0 ≤ x) (h1 : x < 256) (w : World) : Calls Tryd.prog 80 #[.agg #[.int .u64 c.c0, .int .u64 c.c1, .int .u64 c.c2, .int .u64 c.c3], .int .u8 x] w fun e w' => e = .returned (.bool (clsHas c x)) ∧ w.grownBy w' none := by
  have hq := wd_at c h0 h1
  go_enter Tryd.func80, Tryd.ntmps80
  go_wp2
  go_ret
  refine ⟨congrArg (fun b => Ending.returned (.bool b)) ?_, World.grownBy_alloc _ _ none⟩
  rw [clsHas, and1, Bool.eq_iff_iff]
  generalize wd c x / 2 ^ (x % 64).toNat = z
  simp
  omega
end Go.Proofs.YtmpkkphohilkoaaDoor.B
/- match.step and the nodes' eval, walked: they come to ev. -/
namespace Go.Proofs.YtmpkkphohilkoaaDoor.B
open Go Go.RowKit Go.X Go.Ma Go.Proofs.YtmpkkphohilkoaaDoorW.PrintWords Go.Proofs.YtmpkkphohilkoaaDoor.F

theorem cell_heap {w w' : World} {a : Addr} (h : w'.heap[a.block]? = w.heap[a.block]?) : w'.cell? a = w.cell? a := by
  unfold World.cell?
  rw [h]
theorem add_blk (a : Addr) (n : Nat) : (a.add n).block = a.block := by cases n <;> rfl
theorem Below.cell_some' {w w' : World} (h : Below w.heap.size w w') {p : Addr} {v : Value} (hp : w.cell? p = some v) : w'.cell? p = some v := (h.cell (World.block_lt_of_cell? w _ hp)).trans hp
/-- What stays the same throughout an evaluation. -/
structure Cx where
  inp : ByteArray
  A : Addr
  N : Nat
  cR : Nat
  rb : Nat
  l : Lim
  e : Env
/-- The evaluation's record and the rules' trees in memory. -/
structure Rn (X : Cx) (s : St) (w : World) : Prop where
  rec_ : Blk w X.rb 70 (runCells X.inp X.A X.N X.cR X.l s)
  rules : ∀ n, n < X.N → w.cell? (X.A.add n) = some (tv (X.e.rules n))
  ne : X.A.block ≠ X.rb
/-- What is fixed of the numbers. -/
structure Fix (X : Cx) : Prop where
  steps : X.l.steps ≤ 1048576
  depth : X.l.depth ≤ 1048576
  len : X.e.len = X.inp.size
  short : X.inp.size ≤ 1048576
  low : ∀ n, n < X.N → low X.N (X.e.rules n)
  has : ∀ (c : Cls) (p : Nat) (h : p < X.inp.size), X.e.has c p = clsHas c ((X.inp[p]'h).toNat : Int)
/-- An outcome told. -/
def Told (X : Cx) (w : World) (x : Res × St) (e : Ending) (w' : World) : Prop :=
  ∃ v, e = .returned (.agg (resCells x.1.kind x.1.en x.1.label v x.1.trees).toArray) ∧ w.grownBy w' (some X.rb) ∧ Rn X x.2 w' ∧ OwnF w' w.heap.size v x.1.forest
/-- step comes to ev, with this fuel. -/
def StepC (X : Cx) (f : Nat) : Prop := ∀ (t : T) (p d : Nat) (s : St) (w : World), 2 * (X.l.steps - s.steps) + 1 ≤ f → low X.N t → p ≤ X.inp.size → d ≤ X.l.depth + 1 → s.depth ≤ X.l.depth → s.steps ≤ X.l.steps → Rn X s w →
  Calls Tryd.prog 29 #[.pointer (some ⟨X.rb, 0, none⟩), tv t, .int .i64 (p : Nat), .int .i64 (d : Nat)] w (Told X w (ev X.e X.l f t p d s))
/-- A tree's type, its parts, and the function that evaluates it. -/
def ty : T → TypeId
  | .emp => 87 | .set _ => 89 | .rule _ => 91 | .thr _ => 93 | .seq _ _ => 95 | .alt _ _ => 96 | .star _ => 98 | .not _ => 99 | .cap _ _ => 101
def pt : T → Value
  | .emp => .agg #[]
  | .set c => .agg #[.int .u64 c.c0, .int .u64 c.c1, .int .u64 c.c2, .int .u64 c.c3]
  | .rule n => .agg #[.int .i64 (n : Int)]
  | .thr s => .agg #[.string s]
  | .seq a b => .agg #[tv a, tv b]
  | .alt a b => .agg #[tv a, tv b]
  | .star a => .agg #[tv a]
  | .not a => .agg #[tv a]
  | .cap nm a => .agg #[.string nm, tv a]
def ef : T → FuncId
  | .emp => 77 | .set _ => 79 | .rule _ => 81 | .thr _ => 82 | .seq _ _ => 83 | .alt _ _ => 84 | .star _ => 85 | .not _ => 86 | .cap _ _ => 87
theorem tv_eq (t : T) : tv t = .iface (ty t) (pt t) := by cases t <;> rfl
theorem method_t (t : T) (w : World) : (Go.method 235 (ty t) (pt t) "dowel/match.eval").run Tryd.prog w = .ok (ef t, pt t) w := by
  cases t <;> kernel_rfl
/-- A node's eval comes to what step comes to behind begin. -/
def EvalC (X : Cx) (f : Nat) (t : T) : Prop := ∀ (p d : Nat) (s : St) (w : World), 2 * (X.l.steps - s.steps) + 1 ≤ f + 1 → low X.N t → p ≤ X.inp.size → d ≤ X.l.depth → s.depth ≤ X.l.depth → s.steps < X.l.steps → ¬ stop X.l d s = true → Rn X (tick d s) w →
  Calls Tryd.prog (ef t) #[pt t, .pointer (some ⟨X.rb, 0, none⟩), .int .i64 (p : Nat), .int .i64 (d : Nat)] w (Told X w (ev X.e X.l (f + 1) t p d s))
theorem Rn.grown {X : Cx} {s : St} {w w' : World} (h : Rn X s w) (hg : w.grownBy w' none) : Rn X s w' :=
  ⟨h.rec_.grown hg (by simp), fun n hn => Below.cell_some' (below_of_grown hg) (h.rules n hn), h.ne⟩
theorem Rn.other {X : Cx} {s s' : St} {w w' : World} (h : Rn X s w) (hg : w.grownBy w' (some X.rb)) (hb : Blk w' X.rb 70 (runCells X.inp X.A X.N X.cR X.l s')) : Rn X s' w' :=
  ⟨hb, fun n hn => by
    have h1 := h.rules n hn
    have hlt := World.block_lt_of_cell? w _ h1
    rw [← h1]
    exact cell_heap (hg.block _ hlt (by
      intro e
      injection e with e
      have := h.ne
      rw [add_blk] at e
      exact this e)), h.ne⟩
theorem call_t (t : T) (a b c d : Value) (w : World) : (callFunc (ef t) #[a, b, c, d]).run Tryd.prog w = .ok (.enter (ef t) #[a, b, c, d]) w := by
  cases t <;> kernel_rfl
theorem Rn.fresh {X : Cx} {s s0 : St} {w0 w' w'' : World} {b : Nat} (h : Rn X s w') (h0 : Rn X s0 w0) (hb : w0.heap.size ≤ b) (hg : w'.grownBy w'' (some b)) : Rn X s w'' :=
  ⟨h.rec_.grown hg (by have := h0.rec_.lt; intro e; injection e with e; omega), fun n hn => by
    have h1 := h.rules n hn
    have h2 := World.block_lt_of_cell? w0 _ (h0.rules n hn)
    rw [← h1]
    exact cell_heap (hg.block _ (World.block_lt_of_cell? w' _ h1) (by intro e; injection e with e; omega)), h.ne⟩
def set5 (w : World) (b : Nat) (x0 x1 x2 x3 x4 : Value) : World := ((((w.setCell ⟨b, 0, none⟩ x0).setCell ⟨b, 1, none⟩ x1).setCell ⟨b, 2, none⟩ x2).setCell ⟨b, 3, none⟩ x3).setCell ⟨b, 4, none⟩ x4
theorem set5_blk {w : World} {b : Nat} {t : TypeId} {c0 c1 c2 c3 c4 : Value} (h : Blk w b t [c0, c1, c2, c3, c4]) (x0 x1 x2 x3 x4 : Value) : Blk (set5 w b x0 x1 x2 x3 x4) b t [x0, x1, x2, x3, x4] :=
  ((((h.setCell 0 x0).setCell 1 x1).setCell 2 x2).setCell 3 x3).setCell 4 x4
theorem set5_grown (w : World) (b : Nat) (x0 x1 x2 x3 x4 : Value) : w.grownBy (set5 w b x0 x1 x2 x3 x4) (some b) :=
  Fr4.grown2 (Fr4.grown2 (Fr4.grown2 (Fr4.grown2 (grown_setCell w _ _) (grown_setCell _ _ _)) (grown_setCell _ _ _)) (grown_setCell _ _ _)) (grown_setCell _ _ _)
/-- The result's own block is written, and told. -/
theorem Told.put {X : Cx} {s0 : St} {w w1 : World} {k : Int} {en : Nat} {lb : ByteArray} {v : Value} {tr b : Nat} {F : List Cap} {s : St} {cs : List Value} {c0 c1 c2 c3 c4 : Value} (h0 : Rn X s0 w) (hb : w.heap.size ≤ b) (hcs : cs = [c0, c1, c2, c3, c4]) (hblk : Blk w1 b 75 cs)
    (hg : w.grownBy w1 (some X.rb)) (hr : Rn X s w1) (ho : OwnF w1 w.heap.size v F) {wz : World} (hwz : wz = set5 w1 b (.int .i64 k) (.int .i64 (en : Nat)) (.string lb) v (.int .i64 (tr : Nat))) :
    Told X w (⟨k, en, lb, F, tr⟩, s) (.returned (.agg (resCells k en lb v tr).toArray)) wz ∧ Blk wz b 75 (resCells k en lb v tr) := by
  subst hcs
  subst hwz
  have hs := set5_grown w1 b (.int .i64 k) (.int .i64 (en : Nat)) (.string lb) v (.int .i64 (tr : Nat))
  exact ⟨⟨v, rfl, grown_then hg hs (fun q hq => .inr (by injection hq with hq; omega)), hr.fresh h0 hb hs, ho.kept hs hblk (by decide)⟩, set5_blk hblk _ _ _ _ _⟩
set_option maxRecDepth 100000 in
set_option maxHeartbeats 4000000 in
theorem step1 (X : Cx) (F : Fix X) (f : Nat) (t : T) (E : EvalC X f t) (p d : Nat) (s : St) (w : World) (hf : 2 * (X.l.steps - s.steps) + 1 ≤ f + 1) (hl : low X.N t) (hp : p ≤ X.inp.size) (_ : d ≤ X.l.depth + 1) (hd2 : s.depth ≤ X.l.depth) (_ : s.steps ≤ X.l.steps) (hn : Rn X s w) :
  Calls Tryd.prog 29 #[.pointer (some ⟨X.rb, 0, none⟩), tv t, .int .i64 (p : Nat), .int .i64 (d : Nat)] w (Told X w (ev X.e X.l (f + 1) t p d s)) := by
  have HN := Lib.hid hn; clear hn
  rw [tv_eq]
  generalize hty : ty t = ty' at *
  generalize hpt : pt t = pt' at *
  have hm : ∀ w, (Go.method 235 ty' pt' "dowel/match.eval").run Tryd.prog w = .ok (ef t, pt') w := by rw [← hty, ← hpt]; exact method_t t
  have hcf := call_t t
  have HE := Lib.hid E; clear E
  unfold EvalC at HE
  rw [hpt] at HE
  generalize ef t = ef' at *
  have HF := Lib.hid F; clear F
  go_enter Tryd.func29, Tryd.ntmps29
  have HA : Hid (Rn X s (w.alloc (.cells #[.int .i64 0, .int .i64 0, .string ⟨#[]⟩, .slice none 0 0, .int .i64 0] 75)) ∧ w.grownBy (w.alloc (.cells #[.int .i64 0, .int .i64 0, .string ⟨#[]⟩, .slice none 0 0, .int .i64 0] 75)) none ∧
      Blk (w.alloc (.cells #[.int .i64 0, .int .i64 0, .string ⟨#[]⟩, .slice none 0 0, .int .i64 0] 75)) w.heap.size 75 (resCells 0 0 ⟨#[]⟩ (.slice none 0 0) 0)) := ⟨HN.out.grown (World.grownBy_alloc _ _ none), World.grownBy_alloc _ _ none, Blk.alloc w _ _⟩
  go_wp2_with (fail)
  refine (begin.calls X.inp X.A X.N X.cR X.rb d X.l s _ HA.out.1.rec_ HF.out.steps).mono ?_
  rintro e w1 ⟨rfl, hg, hz, hb⟩
  have HB : Hid (Rn X (aft X.l d s) w1 ∧ w.grownBy w1 (some X.rb) ∧ Blk w1 w.heap.size 75 (resCells 0 0 ⟨#[]⟩ (.slice none 0 0) 0)) :=
    ⟨HA.out.1.other hg hb, grown_then (grown_more HA.out.2.1) hg (fun _ h => .inl h), HA.out.2.2.grown hg (by have := HN.out.rec_.lt; intro e; injection e with e; omega)⟩
  clear hg hz hb HA
  dsimp only
  have d0 : w1.cell? ⟨w.heap.size, 0, none⟩ = some (.int .i64 0) := HB.out.2.2.cell 0
  have d1 : w1.cell? ⟨w.heap.size, 1, none⟩ = some (.int .i64 0) := HB.out.2.2.cell 1
  have d2 : w1.cell? ⟨w.heap.size, 2, none⟩ = some (.string ⟨#[]⟩) := HB.out.2.2.cell 2
  have d3 : w1.cell? ⟨w.heap.size, 3, none⟩ = some (.slice none 0 0) := HB.out.2.2.cell 3
  have d4 : w1.cell? ⟨w.heap.size, 4, none⟩ = some (.int .i64 0) := HB.out.2.2.cell 4
  have f0 := HB.out.2.2.frozen 0
  have f1 := HB.out.2.2.frozen 1
  have f2 := HB.out.2.2.frozen 2
  have f3 := HB.out.2.2.frozen 3
  have f4 := HB.out.2.2.frozen 4
  by_cases hs : stop X.l d s = true
  · have HV : Hid (ev X.e X.l (f + 1) t p d s = (.zero, aft X.l d s)) := by show _ = _; rw [ev_stop X.e X.l t hs, aft, if_pos hs]
    go_wp2
    clear d0 d1 d2 d3 d4 f0 f1 f2 f3 f4
    show bodyPost _ _ _ _ _ (set5 w1 w.heap.size (.int .i64 0) (.int .i64 ((0 : Nat) : Int)) (.string ⟨#[]⟩) (.slice none 0 0) (.int .i64 ((0 : Nat) : Int)))
    obtain ⟨wz, hwz⟩ : ∃ wz, wz = set5 w1 w.heap.size (.int .i64 0) (.int .i64 ((0 : Nat) : Int)) (.string ⟨#[]⟩) (.slice none 0 0) (.int .i64 ((0 : Nat) : Int)) := ⟨_, rfl⟩
    rw [← hwz]
    obtain ⟨hT, hB⟩ := Told.put HN.out (Nat.le_refl _) rfl HB.out.2.2 HB.out.2.1 HB.out.1 (OwnF.nil _ _) hwz
    have r0 : wz.cell? ⟨w.heap.size, 0, none⟩ = some (.int .i64 0) := hB.cell 0
    have r1 : wz.cell? ⟨w.heap.size, 1, none⟩ = some (.int .i64 0) := hB.cell 1
    have r2 : wz.cell? ⟨w.heap.size, 2, none⟩ = some (.string ⟨#[]⟩) := hB.cell 2
    have r3 : wz.cell? ⟨w.heap.size, 3, none⟩ = some (.slice none 0 0) := hB.cell 3
    have r4 : wz.cell? ⟨w.heap.size, 4, none⟩ = some (.int .i64 0) := hB.cell 4
    clear hwz
    refine bodyPost_ret (v := .agg (resCells 0 0 ⟨#[]⟩ (.slice none 0 0) 0).toArray) (by simp [results, resCells, Tryd.results29, go_sem, r0, r1, r2, r3, r4]) rfl ?_
    rw [HV.out]
    exact hT
  · have hs' : stop X.l d s = false := by simpa using hs
    have HG := Lib.hid (go_on hs)
    have HT : Hid (aft X.l d s = tick d s) := by show _ = _; rw [aft, if_neg hs]
    go_wp2_with (fail)
    clear d0 d1 d2 d3 d4 f0 f1 f2 f3 f4
    refine (HE.out p d s w1 hf hl hp HG.out.2.1 hd2 HG.out.2.2 hs (by rw [← HT.out]; exact HB.out.1)).mono ?_
    rintro e w2 ⟨v, rfl, hg, hr, ho⟩
    obtain ⟨a7, c7, hv⟩ := Go.X.own_slice ho
    subst hv
    generalize ev X.e X.l (f + 1) t p d s = x at *
    have HC : Hid (w.grownBy w2 (some X.rb) ∧ Blk w2 w.heap.size 75 (resCells 0 0 ⟨#[]⟩ (.slice none 0 0) 0) ∧ Rn X x.2 w2 ∧ OwnF w2 w.heap.size (.slice a7 x.1.forest.length c7) x.1.forest) :=
      ⟨grown_then HB.out.2.1 hg (fun _ h => .inl h), HB.out.2.2.grown hg (by have := HN.out.rec_.lt; intro e; injection e with e; omega), hr, ho.low HB.out.2.1.size⟩
    clear hg hr ho HB
    obtain ⟨⟨xk, xe, xl, xf, xt⟩, xs⟩ := x
    dsimp only at HC ⊢
    generalize hfl : xf.length = fl at *
    have d0 : w2.cell? ⟨w.heap.size, 0, none⟩ = some (.int .i64 0) := HC.out.2.1.cell 0
    have d1 : w2.cell? ⟨w.heap.size, 1, none⟩ = some (.int .i64 0) := HC.out.2.1.cell 1
    have d2 : w2.cell? ⟨w.heap.size, 2, none⟩ = some (.string ⟨#[]⟩) := HC.out.2.1.cell 2
    have d3 : w2.cell? ⟨w.heap.size, 3, none⟩ = some (.slice none 0 0) := HC.out.2.1.cell 3
    have d4 : w2.cell? ⟨w.heap.size, 4, none⟩ = some (.int .i64 0) := HC.out.2.1.cell 4
    have f0 := HC.out.2.1.frozen 0
    have f1 := HC.out.2.1.frozen 1
    have f2 := HC.out.2.1.frozen 2
    have f3 := HC.out.2.1.frozen 3
    have f4 := HC.out.2.1.frozen 4
    simp only [resCells]
    go_wp2
    clear d0 d1 d2 d3 d4 f0 f1 f2 f3 f4
    show bodyPost _ _ _ _ _ (set5 w2 w.heap.size (.int .i64 xk) (.int .i64 (xe : Nat)) (.string xl) (.slice a7 fl c7) (.int .i64 (xt : Nat)))
    obtain ⟨wz, hwz⟩ : ∃ wz, wz = set5 w2 w.heap.size (.int .i64 xk) (.int .i64 (xe : Nat)) (.string xl) (.slice a7 fl c7) (.int .i64 (xt : Nat)) := ⟨_, rfl⟩
    rw [← hwz]
    obtain ⟨hT, hB⟩ := Told.put HN.out (Nat.le_refl _) rfl HC.out.2.1 HC.out.1 HC.out.2.2.1 HC.out.2.2.2 hwz
    have r0 : wz.cell? ⟨w.heap.size, 0, none⟩ = some (.int .i64 xk) := hB.cell 0
    have r1 : wz.cell? ⟨w.heap.size, 1, none⟩ = some (.int .i64 (xe : Nat)) := hB.cell 1
    have r2 : wz.cell? ⟨w.heap.size, 2, none⟩ = some (.string xl) := hB.cell 2
    have r3 : wz.cell? ⟨w.heap.size, 3, none⟩ = some (.slice a7 fl c7) := hB.cell 3
    have r4 : wz.cell? ⟨w.heap.size, 4, none⟩ = some (.int .i64 (xt : Nat)) := hB.cell 4
    clear hwz
    refine bodyPost_ret (v := .agg (resCells xk xe xl (.slice a7 fl c7) xt).toArray) (by simp [results, resCells, Tryd.results29, go_sem, r0, r1, r2, r3, r4]) rfl ?_
    exact hT
end Go.Proofs.YtmpkkphohilkoaaDoor.B
