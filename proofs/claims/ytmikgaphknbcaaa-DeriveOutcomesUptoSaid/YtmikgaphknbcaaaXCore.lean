/- Step laws in one form: the world behind a step is a letter, of which the written block is told, and that all else is kept. -/
import Derived.Below
import Derived.OwnWalk
import Derived.Laws.CopyOwn
import Derived.Deep.MidRow
import Derived.Laws.MakeOwn
import Derived.Test.YtmikgaphknbcaaaWWords
namespace Go.X
open Go Go.RowKit
variable {P : Program}

theorem grown_setRow {w : World} (b : Nat) (cs : Array Value) : w.grownBy (w.setRow b cs) (some b) :=
  ⟨rfl, rfl, rfl, by simp [World.setRow], fun k _ hk => setRow_other w b k cs (fun e => hk (by rw [e]))⟩

/-- A block that is a row of cells, its elements' type, nothing frozen. -/
def Blk (w : World) (b : Nat) (e : TypeId) (cs : List Value) : Prop := w.heap[b]? = some (.cells cs.toArray e (0, 0))

theorem Blk.lt {w : World} {b : Nat} {e : TypeId} {cs : List Value} (h : Blk w b e cs) : b < w.heap.size := (Array.getElem?_eq_some_iff.1 h).1
theorem Blk.grown {w w' : World} {b : Nat} {e : TypeId} {cs : List Value} {r : Option Nat} (h : Blk w b e cs) (g : w.grownBy w' r) (hr : some b ≠ r) : Blk w' b e cs :=
  (g.block b h.lt hr).trans h
theorem Blk.below {B : Nat} {w w' : World} {b : Nat} {e : TypeId} {cs : List Value} (h : Blk w b e cs) (g : Below B w w') (hb : b < B) : Blk w' b e cs :=
  (g.block b hb).trans h
theorem Blk.cell {w : World} {b : Nat} {e : TypeId} {cs : List Value} (h : Blk w b e cs) (i : Nat) : w.cell? ⟨b, i, none⟩ = cs[i]? := by
  simp [World.cell?, show w.heap[b]? = _ from h]
theorem Blk.frozen {w : World} {b : Nat} {e : TypeId} {cs : List Value} (h : Blk w b e cs) (i : Nat) : w.frozen? ⟨b, i, none⟩ = false := by
  simp [World.frozen?, show w.heap[b]? = _ from h]
theorem Blk.ne {w : World} {b b' : Nat} {e e' : TypeId} {cs cs' : List Value} (h : Blk w b e cs) (h' : Blk w b' e' cs') (hne : e ≠ e') : b ≠ b' := by
  rintro rfl
  have h1 : w.heap[b]? = _ := h
  have h2 : w.heap[b]? = _ := h'
  rw [h1] at h2
  simp at h2
  exact hne h2.2

theorem Blk.ex {w : World} {b : Nat} {e : TypeId} {cs : Array Value} {n : Nat} (h : Blk w b e cs.toList) (hn : cs.size = n) : ∃ z : List Value, z.length = n ∧ Blk w b e z :=
  ⟨cs.toList, by simpa using hn, h⟩
theorem Blk.setCell {w : World} {b : Nat} {e : TypeId} {cs : List Value} (h : Blk w b e cs) (i : Nat) (v : Value) : Blk (w.setCell ⟨b, i, none⟩ v) b e (cs.set i v) := by
  have := heap_setCell_same w b i cs.toArray e v h
  simpa [Blk] using this
theorem grown_setCell (w : World) (a : Addr) (v : Value) : w.grownBy (w.setCell a v) (some a.block) :=
  ⟨rfl, rfl, rfl, by simp [World.setCell], fun k _ hk => Below.heap_setCell w a v k (fun e => hk (by rw [e]))⟩
theorem Blk.alloc (w : World) (cs : Array Value) (e : TypeId) : Blk (w.alloc (.cells cs e)) w.heap.size e cs.toList := by
  have := heap_alloc_new w (.cells cs e)
  simpa [Blk] using this
/-- All but the blocks S (and new ones) is as it was. -/
structure But (S : Nat → Prop) (w w' : World) : Prop where
  os : w'.os = w.os
  tape : w'.tape = w.tape
  output : w'.output = w.output
  size : w.heap.size ≤ w'.heap.size
  block : ∀ k, k < w.heap.size → ¬ S k → w'.heap[k]? = w.heap[k]?
theorem But.refl (S : Nat → Prop) (w : World) : But S w w := ⟨rfl, rfl, rfl, Nat.le_refl _, fun _ _ _ => rfl⟩
theorem But.grown {S : Nat → Prop} {w w1 w2 : World} (h : But S w w1) {r : Option Nat} (hg : w1.grownBy w2 r) (hr : ∀ k, r = some k → S k ∨ w.heap.size ≤ k) : But S w w2 :=
  ⟨hg.os.trans h.os, hg.tape.trans h.tape, hg.output.trans h.output, Nat.le_trans h.size hg.size, fun k hk hs => (hg.block k (Nat.lt_of_lt_of_le hk h.size) (fun e => (hr k e.symm).elim hs (fun h1 => by omega))).trans (h.block k hk hs)⟩
theorem But.alloc {S : Nat → Prop} {w w1 : World} (h : But S w w1) (o : Obj) : But S w (w1.alloc o) := h.grown (World.grownBy_alloc w1 o none) (by simp)
theorem But.below {S : Nat → Prop} {w w' : World} (h : But S w w') {B : Nat} (hB : ∀ k, S k → B ≤ k) (hw : B ≤ w.heap.size) : Below B w w' :=
  ⟨h.os, h.tape, h.output, h.size, fun k hk => h.block k (by omega) (fun hs => by have := hB k hs; omega)⟩
theorem Blk.but {S : Nat → Prop} {w w' : World} {b : Nat} {e : TypeId} {cs : List Value} (h : Blk w b e cs) (g : But S w w') (hs : ¬ S b) : Blk w' b e cs := (g.block b h.lt hs).trans h
section
variable {w : World} {ops : Array Oper} {rest : List Oper} {o : Oper} {a : Act} {Q : Exit → Act → World → Prop}

/-- 'make([]T, n)' -/
theorem make (hg : o.guard = none) (l c : Operand) (t : TypeId) (hop : o.op = Op.makeSlice t l c)
    (e : TypeId) (z : Value) (size bytes : Nat) (h1 : P.underlying t = some (.slice e)) (h2 : (P.info? e).map (fun i => (i.zero, i.size, i.bytes)) = some (some z, size, bytes))
    (kl kc : IntKind) (L C : Int) (n : Nat) (hl : a.eval l = .int kl L) (hc : a.eval c = .int kc C) (hL : L = (n : Int)) (hC : C = (n : Int)) (b2 : bytes * n ≤ 281474976710656) (b3 : n ≤ maxLen)
    (hK : ∀ w', Blk w' w.heap.size e (madeCells z.cells (n * size)).toList → w.grownBy w' none → wpList P ops Q rest (a.put o.dst (.slice (some ⟨w.heap.size, 0, none⟩) n n)) w') :
    wpList P ops Q (o :: rest) a w := by
  obtain ⟨i, hi, hz, hs, hb⟩ : ∃ i, P.info? e = some i ∧ i.zero = some z ∧ i.size = size ∧ i.bytes = bytes := by
    cases hq : P.info? e with
    | none => simp [hq] at h2
    | some i => simp [hq] at h2; exact ⟨i, rfl, h2⟩
  refine wpList_make_full w hg l c t hop 0 e i z size h1 hi hz hs kl kc L C n hl hc hL hC (by rw [hb]; exact b2) b3 (Nat.zero_le _) fun w' ho hgr => hK w' ?_ hgr
  obtain ⟨hlen, h⟩ := ho
  rcases h with ⟨h, _⟩ | ⟨g, cap, cur, hv, _, hh, hn, hm, hsz, ht⟩
  · simp at h
  · simp at hv
    obtain ⟨rfl, rfl⟩ := hv
    have : cur.toList.take (n * size) = cur.toList := List.take_of_length_le (by simp; omega)
    rw [this] at ht
    unfold Blk
    rw [hh]
    congr 2
    rw [← ht]

theorem run_copy_sz (w : World) (dT sT ty elem : TypeId) (b off dLen dCap : Nat) (src : Option Addr) (sLen sCap sz : Nat) (cs cur : List Value) (t : TypeId)
    (hu : P.underlying dT = some (.slice elem)) (hs : (P.info? elem).map (·.size) = some sz) (hn : cs.length = Nat.min sLen dLen * sz)
    (hsrc : cs ≠ [] → ∃ ad, src = some ad ∧ ∀ j v, cs[j]? = some v → w.cell? (ad.add j) = some v) (hg : Blk w b t cur) (hfit : off + cs.length ≤ cur.length) (h1 : ∀ v ∈ cs, v.oneCell' = true) :
    (Builtin.copy_ #[dT, sT] ty #[.slice (some ⟨b, off, none⟩) dLen dCap, .slice src sLen sCap]).run P w = .ok (goInt (Nat.min sLen dLen)) (w.setRow b (splice cur off cs).toArray) := by
  have hst := run_storeCells_at P b off t cs 0 cur.toArray w hg (by simpa using hfit) h1
  cases hq : P.info? elem with
  | none => simp [hq] at hs
  | some i =>
    have hi : i.size = sz := by simpa [hq] using hs
    have hfirst : (Builtin.firstCells sz (Nat.min sLen dLen) (.slice src sLen sCap)).run P w = .ok cs.toArray w := by
      by_cases h0 : cs = []
      · subst h0
        have hz : Nat.min sLen dLen * sz = 0 := by simpa using hn.symm
        cases src with
        | none => rfl
        | some ad =>
          have := run_loadCells_list (P := P) w ad [] (by simp)
          simpa [Builtin.firstCells, hz] using this
      · obtain ⟨ad, rfl, hc⟩ := hsrc h0
        have := run_loadCells_list (P := P) w ad cs hc
        simp only [Builtin.firstCells]
        rw [← hn]
        exact this
    simp only [Nat.add_zero] at hst
    have hsp : (splice cur off cs).toArray = (cur.take off ++ cs ++ cur.drop (off + cs.length)).toArray := by simp [splice]
    rw [hsp]
    simp [Builtin.copy_, run_underlying hu, Builtin.lenOf, sizeOf, typeInfo, hq, hi, hfirst, hst]

/-- 'copy(l, src)' into a block -/
theorem copy (hgd : o.guard = none) (d s : Operand) (dT sT : TypeId)
    (ho : o.op = .call { callee := .builtin .copy, args := #[d, s], argTypes := #[dT, sT] }) (elem : TypeId) (sz : Nat) (hu : P.underlying dT = some (.slice elem)) (hsz : (P.info? elem).map (·.size) = some sz)
    (b off dLen dCap : Nat) (src : Option Addr) (sLen sCap : Nat) (hd : a.eval d = .slice (some ⟨b, off, none⟩) dLen dCap) (hs : a.eval s = .slice src sLen sCap)
    (cur : List Value) (t : TypeId) (hg : Blk w b t cur) (cs : List Value) (hn : cs.length = Nat.min sLen dLen * sz)
    (hsrc : cs ≠ [] → ∃ ad, src = some ad ∧ ∀ j v, cs[j]? = some v → w.cell? (ad.add j) = some v) (hfit : off + cs.length ≤ cur.length) (h1 : ∀ v ∈ cs, v.oneCell' = true)
    (h : ∀ w', Blk w' b t (splice cur off cs) → w.grownBy w' (some b) → wpList P ops Q rest (a.put o.dst (goInt (Nat.min sLen dLen))) w') : wpList P ops Q (o :: rest) a w := by
  refine wpList_plain hgd fun K hK => ?_
  have hrun := run_copy_sz (P := P) w dT sT o.type elem b off dLen dCap src sLen sCap sz cs cur t hu hsz hn hsrc hg hfit h1
  unfold Oper.wp
  simp [execOp, ho, resolve, invoke, builtin, hd, hs, hrun, Result.andThen]
  exact hK _ _ (h _ (setRow_heap w b _ _ t _ hg) (grown_setRow b _))

/-- a store of a value of several cells, or of one, into a block -/
theorem store (hgd : o.guard = none) (ty : TypeId) (x y : Operand) (ho : o.op = .store ty x y) (b off : Nat) (v : Value) (hx : a.eval x = .pointer (some ⟨b, off, none⟩)) (hy : a.eval y = v)
    (cur : List Value) (t : TypeId) (hg : Blk w b t cur) (hi : (P.info? ty).map (·.size) = some v.cells.size) (hfit : off + v.cells.size ≤ cur.length) (h1 : ∀ u ∈ v.cells.toList, u.oneCell' = true)
    (h : ∀ w', Blk w' b t (splice cur off v.cells.toList) → w.grownBy w' (some b) → wpList P ops Q rest (a.put o.dst undef) w') : wpList P ops Q (o :: rest) a w := by
  refine wpList_plain hgd fun K hK => ?_
  have hst := run_storeCells_at P b off t v.cells.toList 0 cur.toArray w hg (by simpa using hfit) h1
  have hsp : (splice cur off v.cells.toList).toArray = (cur.take off ++ v.cells.toList ++ cur.drop (off + v.cells.toList.length)).toArray := by simp [splice]
  have hrun : (Instr.storeAt ty (.pointer (some ⟨b, off, none⟩)) v).run P w = .ok () (w.setRow b (splice cur off v.cells.toList).toArray) := by
    cases hq : P.info? ty with
    | none => simp [hq] at hi
    | some i =>
      have hs : i.size = v.cells.size := by simpa [hq] using hi
      simp only [Nat.add_zero] at hst
      rw [hsp]
      simp only [Instr.storeAt, Instr.sureAddr, Sem.run_bind, Sem.run_pure, Result.andThen_ok]
      simp [storeVar, sizeOf, typeInfo, hq, hs, hst]
  unfold Oper.wp
  simp [execOp, ho, hx, hy, hrun]
  exact hK _ _ (h _ (setRow_heap w b _ _ t _ hg) (grown_setRow b _))
/-- the first store into a variable that was made last: its block, and all else as it was -/
theorem storeNew (hgd : o.guard = none) (ty : TypeId) (x y : Operand) (ho : o.op = .store ty x y) (old cs : Array Value) (e : TypeId) (hx : a.eval x = .pointer (some ⟨w.heap.size, 0, none⟩)) (hy : a.eval y = .agg cs)
    (hi : (P.info? ty).map (·.size) = some cs.size) (hfit : old.size = cs.size) (h1 : ∀ u ∈ cs.toList, u.oneCell' = true)
    (h : ∀ w', Blk w' w.heap.size e cs.toList → w.grownBy w' none → wpList P ops Q rest (a.put o.dst undef) w') : wpList P ops Q (o :: rest) a (w.alloc (.cells old e)) := by
  refine store hgd ty x y ho w.heap.size 0 (.agg cs) hx hy old.toList e (Blk.alloc w old e) hi (by simp [Value.cells, hfit]) h1 fun w' hb hg => h w' ?_ ?_
  · have : splice old.toList 0 cs.toList = cs.toList := by
      simp [splice, ← hfit]
    have h2 : splice old.toList 0 (Value.agg cs).cells.toList = cs.toList := this
    rwa [h2] at hb
  · refine ⟨hg.os, hg.tape, hg.output, by have := hg.size; simp at this; omega, fun k hk _ => ?_⟩
    rw [hg.block k (by simp; omega) (by simp; omega)]
    exact Below.heap_alloc w _ k hk
end
end Go.X
