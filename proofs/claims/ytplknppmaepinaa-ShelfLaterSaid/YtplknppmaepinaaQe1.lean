/- Texts joined and shortened (wip/tools/shrink.py): XCore, XOpen, XSize, XArr, Fx0, ShSize, ShOps, ShPlain, XKd, XApp, RInv, RSlots, RGen, ShApp, Fx2, Fx4, XStep. -/
import Derived.Below
import Derived.OwnWalk
import Derived.Laws.CopyOwn
import Derived.Deep.MidRow
import Derived.Laws.MakeOwn
import Derived.Test.YtplknppmaepinaaQe0
import Derived.Deep.Slices
import Derived.OpenShut
import Derived.SizedLaws
import Derived.ChangeKeysEq
import Derived.Test.YtplknppmaepinaaProg
import Derived.Deep.Draws
import Derived.Deep.AppendLies
import Derived.Maps.AppendAt
import Derived.Laws.BytesArg
import Derived.Laws.OwnMore
import Derived.Deep.OwnRows
import Derived.Tactics
import Derived.Lib.ConvBytes
import Derived.Laws.Slices
import Derived.WalkKit
import Derived.KernelRfl
import Derived.RowKit3
import Derived.Deep.LoopGhost
import Derived.Deep.QuietTactic
import Derived.BigQuiet
import Derived.WideLaws
import Derived.Deep.DeepCutAuto
import Derived.Deep.CutBlock
import Derived.Deep.RegionHeld3
import Derived.Laws.Rows
import Derived.Lib.AppendStr
import Derived.ArgAppend
import Derived.Laws.IdiomCopy
import Derived.OrdersHeld
import Derived.Laws.BitsLemmas
import Derived.RowKit
import Derived.Deep.AppendSrc
import Derived.RegionTactic
import Derived.Deep.RegionHeld
import Derived.Laws.Tables
/- Step laws in one form: the world behind a step is a letter, of which the written block is told, and that all else is kept. -/
namespace Go.X
open Go Go.RowKit
variable {P : Program}

theorem grown_setRow {w : World} (b : Nat) (cs : Array Value) : w.grownBy (w.setRow b cs) (some b) :=
  ⟨rfl, rfl, rfl, by simp [World.setRow], fun k _ hk => setRow_other w b k cs (fun e => hk (by rw [e]))⟩

/-- A block that is a row of cells, its elements' type, nothing frozen. -/
def Blk (w : World) (b : Nat) (e : TypeId) (cs : List Value) : Prop := w.heap[b]? = some (.cells cs.toArray e (0, 0))

theorem Blk.lt {w : World} {b : Nat} {e : TypeId} {cs : List Value} (h : Blk w b e cs) : b < w.heap.size := (Array.getElem?_eq_some_iff.1 h).1
theorem Blk.grown {w w' : World} {b : Nat} {e : TypeId} {cs : List Value} {r : Option Nat} (h : Blk w b e cs) (g : w.grownBy w' r) (hr : some b ≠ r) : Blk w' b e cs :=
  (g.block b h.lt hr).trans h
theorem Blk.below {B : Nat} {w w' : World} {b : Nat} {e : TypeId} {cs : List Value} (h : Blk w b e cs) (g : Below B w w') (hb : b < B) : Blk w' b e cs :=
  (g.block b hb).trans h
theorem Blk.cell {w : World} {b : Nat} {e : TypeId} {cs : List Value} (h : Blk w b e cs) (i : Nat) : w.cell? ⟨b, i, none⟩ = cs[i]? := by
  simp [World.cell?, show w.heap[b]? = _ from h]
theorem Blk.frozen {w : World} {b : Nat} {e : TypeId} {cs : List Value} (h : Blk w b e cs) (i : Nat) : w.frozen? ⟨b, i, none⟩ = false := by
  simp [World.frozen?, show w.heap[b]? = _ from h]
theorem Blk.ne {w : World} {b b' : Nat} {e e' : TypeId} {cs cs' : List Value} (h : Blk w b e cs) (h' : Blk w b' e' cs') (hne : e ≠ e') : b ≠ b' := by
  rintro rfl
  have h1 : w.heap[b]? = _ := h
  have h2 : w.heap[b]? = _ := h'
  rw [h1] at h2
  simp at h2
  exact hne h2.2

theorem Blk.ex {w : World} {b : Nat} {e : TypeId} {cs : Array Value} {n : Nat} (h : Blk w b e cs.toList) (hn : cs.size = n) : ∃ z : List Value, z.length = n ∧ Blk w b e z :=
  ⟨cs.toList, by simpa using hn, h⟩
theorem Blk.setCell {w : World} {b : Nat} {e : TypeId} {cs : List Value} (h : Blk w b e cs) (i : Nat) (v : Value) : Blk (w.setCell ⟨b, i, none⟩ v) b e (cs.set i v) := by
  have := heap_setCell_same w b i cs.toArray e v h
  simpa [Blk] using this
theorem grown_setCell (w : World) (a : Addr) (v : Value) : w.grownBy (w.setCell a v) (some a.block) :=
  ⟨rfl, rfl, rfl, by simp [World.setCell], fun k _ hk => Below.heap_setCell w a v k (fun e => hk (by rw [e]))⟩
theorem Blk.alloc (w : World) (cs : Array Value) (e : TypeId) : Blk (w.alloc (.cells cs e)) w.heap.size e cs.toList := by
  have := heap_alloc_new w (.cells cs e)
  simpa [Blk] using this
/-- All but the blocks S (and new ones) is as it was. -/
structure But (S : Nat → Prop) (w w' : World) : Prop where
  os : w'.os = w.os
  tape : w'.tape = w.tape
  output : w'.output = w.output
  size : w.heap.size ≤ w'.heap.size
  block : ∀ k, k < w.heap.size → ¬ S k → w'.heap[k]? = w.heap[k]?
theorem But.grown {S : Nat → Prop} {w w1 w2 : World} (h : But S w w1) {r : Option Nat} (hg : w1.grownBy w2 r) (hr : ∀ k, r = some k → S k ∨ w.heap.size ≤ k) : But S w w2 :=
  ⟨hg.os.trans h.os, hg.tape.trans h.tape, hg.output.trans h.output, Nat.le_trans h.size hg.size, fun k hk hs => (hg.block k (Nat.lt_of_lt_of_le hk h.size) (fun e => (hr k e.symm).elim hs (fun h1 => by omega))).trans (h.block k hk hs)⟩
theorem But.below {S : Nat → Prop} {w w' : World} (h : But S w w') {B : Nat} (hB : ∀ k, S k → B ≤ k) (hw : B ≤ w.heap.size) : Below B w w' :=
  ⟨h.os, h.tape, h.output, h.size, fun k hk => h.block k (by omega) (fun hs => by have := hB k hs; omega)⟩
theorem Blk.but {S : Nat → Prop} {w w' : World} {b : Nat} {e : TypeId} {cs : List Value} (h : Blk w b e cs) (g : But S w w') (hs : ¬ S b) : Blk w' b e cs := (g.block b h.lt hs).trans h
section
variable {w : World} {ops : Array Oper} {rest : List Oper} {o : Oper} {a : Act} {Q : Exit → Act → World → Prop}

/-- 'make([]T, n)' -/
theorem make (hg : o.guard = none) (l c : Operand) (t : TypeId) (hop : o.op = Op.makeSlice t l c)
    (e : TypeId) (z : Value) (size bytes : Nat) (h1 : P.underlying t = some (.slice e)) (h2 : (P.info? e).map (fun i => (i.zero, i.size, i.bytes)) = some (some z, size, bytes))
    (kl kc : IntKind) (L C : Int) (n : Nat) (hl : a.eval l = .int kl L) (hc : a.eval c = .int kc C) (hL : L = (n : Int)) (hC : C = (n : Int)) (b2 : bytes * n ≤ 281474976710656) (b3 : n ≤ maxLen)
    (hK : ∀ w', Blk w' w.heap.size e (madeCells z.cells (n * size)).toList → w.grownBy w' none → wpList P ops Q rest (a.put o.dst (.slice (some ⟨w.heap.size, 0, none⟩) n n)) w') :
    wpList P ops Q (o :: rest) a w := by
  obtain ⟨i, hi, hz, hs, hb⟩ : ∃ i, P.info? e = some i ∧ i.zero = some z ∧ i.size = size ∧ i.bytes = bytes := by
    cases hq : P.info? e with
    | none => simp [hq] at h2
    | some i => simp [hq] at h2; exact ⟨i, rfl, h2⟩
  refine wpList_make_full w hg l c t hop 0 e i z size h1 hi hz hs kl kc L C n hl hc hL hC (by rw [hb]; exact b2) b3 (Nat.zero_le _) fun w' ho hgr => hK w' ?_ hgr
  obtain ⟨hlen, h⟩ := ho
  rcases h with ⟨h, _⟩ | ⟨g, cap, cur, hv, _, hh, hn, hm, hsz, ht⟩
  · simp at h
  · simp at hv
    obtain ⟨rfl, rfl⟩ := hv
    have : cur.toList.take (n * size) = cur.toList := List.take_of_length_le (by simp; omega)
    rw [this] at ht
    unfold Blk
    rw [hh]
    congr 2
    rw [← ht]

theorem run_copy_sz (w : World) (dT sT ty elem : TypeId) (b off dLen dCap : Nat) (src : Option Addr) (sLen sCap sz : Nat) (cs cur : List Value) (t : TypeId)
    (hu : P.underlying dT = some (.slice elem)) (hs : (P.info? elem).map (·.size) = some sz) (hn : cs.length = Nat.min sLen dLen * sz)
    (hsrc : cs ≠ [] → ∃ ad, src = some ad ∧ ∀ j v, cs[j]? = some v → w.cell? (ad.add j) = some v) (hg : Blk w b t cur) (hfit : off + cs.length ≤ cur.length) (h1 : ∀ v ∈ cs, v.oneCell' = true) :
    (Builtin.copy_ #[dT, sT] ty #[.slice (some ⟨b, off, none⟩) dLen dCap, .slice src sLen sCap]).run P w = .ok (goInt (Nat.min sLen dLen)) (w.setRow b (splice cur off cs).toArray) := by
  have hst := run_storeCells_at P b off t cs 0 cur.toArray w hg (by simpa using hfit) h1
  cases hq : P.info? elem with
  | none => simp [hq] at hs
  | some i =>
    have hi : i.size = sz := by simpa [hq] using hs
    have hfirst : (Builtin.firstCells sz (Nat.min sLen dLen) (.slice src sLen sCap)).run P w = .ok cs.toArray w := by
      by_cases h0 : cs = []
      · subst h0
        have hz : Nat.min sLen dLen * sz = 0 := by simpa using hn.symm
        cases src with
        | none => rfl
        | some ad =>
          have := run_loadCells_list (P := P) w ad [] (by simp)
          simpa [Builtin.firstCells, hz] using this
      · obtain ⟨ad, rfl, hc⟩ := hsrc h0
        have := run_loadCells_list (P := P) w ad cs hc
        simp only [Builtin.firstCells]
        rw [← hn]
        exact this
    simp only [Nat.add_zero] at hst
    have hsp : (splice cur off cs).toArray = (cur.take off ++ cs ++ cur.drop (off + cs.length)).toArray := by simp [splice]
    rw [hsp]
    simp [Builtin.copy_, run_underlying hu, Builtin.lenOf, sizeOf, typeInfo, hq, hi, hfirst, hst]

/-- 'copy(l, src)' into a block -/
theorem copy (hgd : o.guard = none) (d s : Operand) (dT sT : TypeId)
    (ho : o.op = .call { callee := .builtin .copy, args := #[d, s], argTypes := #[dT, sT] }) (elem : TypeId) (sz : Nat) (hu : P.underlying dT = some (.slice elem)) (hsz : (P.info? elem).map (·.size) = some sz)
    (b off dLen dCap : Nat) (src : Option Addr) (sLen sCap : Nat) (hd : a.eval d = .slice (some ⟨b, off, none⟩) dLen dCap) (hs : a.eval s = .slice src sLen sCap)
    (cur : List Value) (t : TypeId) (hg : Blk w b t cur) (cs : List Value) (hn : cs.length = Nat.min sLen dLen * sz)
    (hsrc : cs ≠ [] → ∃ ad, src = some ad ∧ ∀ j v, cs[j]? = some v → w.cell? (ad.add j) = some v) (hfit : off + cs.length ≤ cur.length) (h1 : ∀ v ∈ cs, v.oneCell' = true)
    (h : ∀ w', Blk w' b t (splice cur off cs) → w.grownBy w' (some b) → wpList P ops Q rest (a.put o.dst (goInt (Nat.min sLen dLen))) w') : wpList P ops Q (o :: rest) a w := by
  refine wpList_plain hgd fun K hK => ?_
  have hrun := run_copy_sz (P := P) w dT sT o.type elem b off dLen dCap src sLen sCap sz cs cur t hu hsz hn hsrc hg hfit h1
  unfold Oper.wp
  simp [execOp, ho, resolve, invoke, builtin, hd, hs, hrun, Result.andThen]
  exact hK _ _ (h _ (setRow_heap w b _ _ t _ hg) (grown_setRow b _))

/-- a store of a value of several cells, or of one, into a block -/
theorem store (hgd : o.guard = none) (ty : TypeId) (x y : Operand) (ho : o.op = .store ty x y) (b off : Nat) (v : Value) (hx : a.eval x = .pointer (some ⟨b, off, none⟩)) (hy : a.eval y = v)
    (cur : List Value) (t : TypeId) (hg : Blk w b t cur) (hi : (P.info? ty).map (·.size) = some v.cells.size) (hfit : off + v.cells.size ≤ cur.length) (h1 : ∀ u ∈ v.cells.toList, u.oneCell' = true)
    (h : ∀ w', Blk w' b t (splice cur off v.cells.toList) → w.grownBy w' (some b) → wpList P ops Q rest (a.put o.dst undef) w') : wpList P ops Q (o :: rest) a w := by
  refine wpList_plain hgd fun K hK => ?_
  have hst := run_storeCells_at P b off t v.cells.toList 0 cur.toArray w hg (by simpa using hfit) h1
  have hsp : (splice cur off v.cells.toList).toArray = (cur.take off ++ v.cells.toList ++ cur.drop (off + v.cells.toList.length)).toArray := by simp [splice]
  have hrun : (Instr.storeAt ty (.pointer (some ⟨b, off, none⟩)) v).run P w = .ok () (w.setRow b (splice cur off v.cells.toList).toArray) := by
    cases hq : P.info? ty with
    | none => simp [hq] at hi
    | some i =>
      have hs : i.size = v.cells.size := by simpa [hq] using hi
      simp only [Nat.add_zero] at hst
      rw [hsp]
      simp only [Instr.storeAt, Instr.sureAddr, Sem.run_bind, Sem.run_pure, Result.andThen_ok]
      simp [storeVar, sizeOf, typeInfo, hq, hs, hst]
  unfold Oper.wp
  simp [execOp, ho, hx, hy, hrun]
  exact hK _ _ (h _ (setRow_heap w b _ _ t _ hg) (grown_setRow b _))
end
end Go.X
/- Arguments opened: a datum that reads as type t is a value of the kind d. -/
namespace Go.X
open Go Go.RowKit Go.Proofs.YtplknppmaepinaaW.PrintWords Go.ChangeShapes Go.WideShapes
variable {α β : Type} {P : Program} {w : World} {base : Nat}

/-- Whatever reads as type t is of the kind d. -/
def Opens (P : Program) (w : World) (base : Nat) (t : TypeId) (d : Kd α) : Prop :=
  ∀ (H : Type) (enc : TypeId × Value → H) (spare : Nat → Bool) (held : Bool) (fuel : Nat) (cs : List Value) (x : DataW H × List MemPlace), DataW.trod enc P w base spare held fuel t cs = some x → ∃ v, d.K w v cs

theorem Opens.int {t : TypeId} {k : IntKind} (h : P.underlying t = some (.int k)) : Opens P w base t (Kd.int k) := fun _ _ _ _ _ _ _ hx => by
  obtain ⟨n, rfl, _⟩ := DataW.trod_int h hx
  exact ⟨n, rfl⟩
theorem Opens.bool {t : TypeId} (h : P.underlying t = some .bool) : Opens P w base t Kd.bool := fun _ _ _ _ _ _ _ hx => by
  obtain ⟨n, rfl, _⟩ := DataW.trod_bool h hx
  exact ⟨n, rfl⟩



/-- Where what is read lies. -/
theorem trod_lt {H : Type} {enc : TypeId × Value → H} {spare : Nat → Bool} {held : Bool} {t : TypeId} {v : Value} {x : DataW H} {p : List MemPlace} (h : DataW.Trod enc P w base spare held t v x p) : ∀ y ∈ p, y.block < w.heap.size := by
  obtain ⟨m, hm⟩ := h
  exact DataW.trod_lt m _ _ _ hm
end Go.X
/- Arguments opened, with what memory can hold: a datum that reads as type t, within the reach, is a value of the kind d that meets B. -/
namespace Go.X
open Go Go.RowKit Go.Proofs.YtplknppmaepinaaW.PrintWords Go.ChangeShapes Go.WideShapes
variable {α β : Type} {P : Program} {w : World} {base : Nat}

def Fits {H : Type} (P : Program) (t : TypeId) (x : DataW H) : Prop := ∀ n ∈ x.weights P t, n ≤ reachBytes
/-- Whatever reads as type t within the reach is of the kind d and meets B. -/
def OpensB (P : Program) (w : World) (base : Nat) (t : TypeId) (d : Kd α) (B : α → Prop) : Prop :=
  ∀ (H : Type) (enc : TypeId × Value → H) (spare : Nat → Bool) (held : Bool) (fuel : Nat) (cs : List Value) (x : DataW H × List MemPlace), DataW.trod enc P w base spare held fuel t cs = some x → Fits P t x.1 → ∃ v, d.K w v cs ∧ B v

theorem OpensB.of {t : TypeId} {d : Kd α} (h : Opens P w base t d) : OpensB P w base t d (fun _ => True) := fun _ _ _ _ _ _ _ hx _ => by
  obtain ⟨v, hv⟩ := h _ _ _ _ _ _ _ hx
  exact ⟨v, hv, trivial⟩
theorem OpensB.mono {t : TypeId} {d : Kd α} {B B' : α → Prop} (h : OpensB P w base t d B) (hb : ∀ v, B v → B' v) : OpensB P w base t d B' := fun _ _ _ _ _ _ _ hx hf => by
  obtain ⟨v, hv, h1⟩ := h _ _ _ _ _ _ _ hx hf
  exact ⟨v, hv, hb v h1⟩
theorem OpensB.string {t : TypeId} (h : P.underlying t = some .string) : OpensB P w base t Kd.string (fun s => s.size ≤ reachBytes) := fun _ _ _ _ _ _ x hx hf => by
  obtain ⟨n, rfl, e, _⟩ := DataW.trod_string h hx
  refine ⟨n, rfl, ?_⟩
  have := hf n.data.toList.length (by subst e; simp [DataW.weights])
  simpa using this
theorem OpensB.slice {t e : TypeId} {d : Kd α} {B : α → Prop} (h : P.underlying t = some (.slice e)) (hc : P.cellsOf e = d.sz) (hd : OpensB P w base e d B) : OpensB P w base t (Kd.slice e d) (fun xs => xs.length * P.bytesOf e ≤ reachBytes ∧ ∀ x ∈ xs, B x) := fun H enc spare held fuel cs x hx hf => by
  rcases Go.Deep.open_slice h hx with ⟨rfl, _⟩ | ⟨a, len, cap, m, n, D, Pl, rfl, hb, hl, hm, hmm, e0, hi⟩
  · exact ⟨[], ⟨none, 0, rfl, Nat.le_refl _, rfl, by simp, fun h => absurd h (Nat.lt_irrefl _)⟩, by simp, by simp⟩
  · have hlm : len ≤ m := by rw [hmm]; split <;> omega
    subst e0
    have hlen : len * P.bytesOf e ≤ reachBytes := by
      have := hf ((((List.range len).map D).length + ((List.range (m - len)).map fun j => D (len + j)).length) * P.bytesOf e) (by simp [DataW.weights, h])
      refine Nat.le_trans (Nat.mul_le_mul_right _ ?_) this
      simp
    have helt : ∀ i, i < len → Fits P e (D i) := fun i hi n hn => hf n (by
      simp only [DataW.weights, h, List.mem_cons, List.mem_append]
      refine .inr (.inl ?_)
      have : ∀ (l : List (DataW H)) (d0 : DataW H), d0 ∈ l → n ∈ d0.weights P e → n ∈ DataW.weightsAll P e l := by
        intro l d0 h1 h2
        induction l with
        | nil => cases h1
        | cons a r ih =>
          simp only [DataW.weightsAll, List.mem_append]
          rcases List.mem_cons.1 h1 with rfl | h1
          · exact .inl h2
          · exact .inr (ih h1)
      exact this _ (D i) (List.mem_map.2 ⟨i, by simpa using hi, rfl⟩) hn)
    obtain ⟨⟨v0⟩⟩ | hne : Nonempty α ∨ len = 0 := by
      rcases Nat.eq_zero_or_pos len with h0 | h0
      · exact .inr h0
      · obtain ⟨cs', h1, h2⟩ := hi 0 (by omega)
        obtain ⟨v, _⟩ := hd _ _ _ _ _ _ _ h2 (helt 0 h0)
        exact .inl ⟨v⟩
    · letI : Inhabited α := ⟨v0⟩
      obtain ⟨V, hV⟩ := Go.Deep.choose_lt (α := α) (n := len) (p := fun i v => (∃ cs', w.cells? base (a.add (i * P.cellsOf e)) (P.cellsOf e) = some cs' ∧ d.K w v cs') ∧ B v) (fun i hilt => by
        obtain ⟨cs', h1, h2⟩ := hi i (by omega)
        obtain ⟨v, hv, hB⟩ := hd _ _ _ _ _ _ _ h2 (helt i hilt)
        exact ⟨v, ⟨cs', h1, hv⟩, hB⟩)
      refine ⟨(List.range len).map V, ⟨some a, cap, by simp, by simpa using hl, by simp, by simp [maxLen] at hm ⊢; omega, fun _ => ⟨a, rfl, fun j p hj => ?_⟩⟩, by simpa using hlen, fun x hx => ?_⟩
      · have hjl : j < len := by
          have := (List.getElem?_eq_some_iff.1 hj).1
          simpa using this
        obtain rfl : V j = p := by simpa [hjl] using hj
        obtain ⟨⟨cs', h1, hv⟩, _⟩ := hV j hjl
        obtain ⟨_, hlen, hcl⟩ := World.cells?_some h1
        refine ⟨cs', by rw [hlen, hc], hv, fun i u hiu => ?_⟩
        have hi' : i < cs'.length := (List.getElem?_eq_some_iff.1 hiu).1
        rw [← Go.Deep.add_add, ← hc, hcl i (by omega), hiu]
      · obtain ⟨i, hi, rfl⟩ := List.mem_map.1 hx
        exact (hV i (by simpa using hi)).2
    · subst hne
      exact ⟨[], ⟨some a, cap, rfl, Nat.zero_le _, rfl, by simp, fun h => absurd h (Nat.lt_irrefl _)⟩, by simp, by simp⟩
theorem OpensB.iso {t : TypeId} {d : Kd α} {B : α → Prop} {f : β → α} (g : α → β) (hg : ∀ x, f (g x) = x) (hd : OpensB P w base t d B) : OpensB P w base t (Kd.iso d f) (fun v => B (f v)) := fun H enc spare held fuel cs x hx hf => by
  obtain ⟨v, hv, hB⟩ := hd H enc spare held fuel cs x hx hf
  exact ⟨g v, by show d.K w (f (g v)) cs; rw [hg]; exact hv, by show B (f (g v)); rw [hg]; exact hB⟩

/-- The fields from the i-th on (from cell o on) read as the kind d; N: the cells of all. -/
def OpensFsB (P : Program) (w : World) (base : Nat) (fs : Array Field) (N i o : Nat) (d : Kd α) (B : α → Prop) : Prop :=
  ∀ (H : Type) (enc : TypeId × Value → H) (spare : Nat → Bool) (held : Bool) (fuel : Nat) (cs : List Value), cs.length = N →
    (∀ (j : Nat) (f : Field), i ≤ j → fs[j]? = some f → ∃ x, DataW.trod enc P w base spare held fuel f.type ((cs.drop f.offset).take (P.cellsOf f.type)) = some x ∧ Fits P f.type x.1) → ∃ v, d.K w v (cs.drop o) ∧ B v
theorem OpensFsB.last {fs : Array Field} {N i o : Nat} {d : Kd α} {B : α → Prop} (f : Field) (hf : fs[i]? = some f) (ho : f.offset = o) (hN : o + P.cellsOf f.type = N) (hd : OpensB P w base f.type d B) : OpensFsB P w base fs N i o d B := fun H enc spare held fuel cs hcs h => by
  obtain ⟨x, hx, hF⟩ := h i f (Nat.le_refl _) hf
  rw [ho, List.take_of_length_le (by rw [List.length_drop]; omega)] at hx
  exact hd _ _ _ _ _ _ _ hx hF
theorem OpensFsB.step {fs : Array Field} {N i o : Nat} {d1 : Kd α} {d2 : Kd β} {B1 : α → Prop} {B2 : β → Prop} (f : Field) (o' : Nat) (hf : fs[i]? = some f) (ho : f.offset = o) (hN : o + P.cellsOf f.type = o') (hd : OpensB P w base f.type d1 B1) (hr : OpensFsB P w base fs N (i + 1) o' d2 B2) : OpensFsB P w base fs N i o (Kd.pair d1 d2) (fun p => B1 p.1 ∧ B2 p.2) := fun H enc spare held fuel cs hcs h => by
  obtain ⟨x, hx, hF⟩ := h i f (Nat.le_refl _) hf
  rw [ho] at hx
  obtain ⟨v1, h1, b1⟩ := hd _ _ _ _ _ _ _ hx hF
  obtain ⟨v2, h2, b2⟩ := hr H enc spare held fuel cs hcs (fun j f hj hjf => h j f (by omega) hjf)
  refine ⟨(v1, v2), ⟨_, _, ?_, h1, h2⟩, b1, b2⟩
  rw [← hN, ← List.drop_drop, List.take_append_drop]
theorem OpensB.struct {t : TypeId} {fs : Array Field} {d : Kd α} {B : α → Prop} (h : P.underlying t = some (.struct fs)) (hd : OpensFsB P w base fs (P.cellsOf t) 0 0 d B) : OpensB P w base t d B := fun H enc spare held fuel cs x hx hF => by
  obtain ⟨xs, n, _, e, hl, hxl, hf⟩ := DataW.trod_struct h hx
  subst e
  obtain ⟨v, hv, hB⟩ := hd H enc spare held n cs hl (fun j f _ hj => by
    have hj' : j < fs.size := (Array.getElem?_eq_some_iff.1 hj).1
    refine ⟨xs[j]'(by rw [hxl]; exact hj'), by rw [hf j f hj]; exact List.getElem?_eq_getElem _, fun n hn => hF n ?_⟩
    simp only [DataW.weights, h]
    exact DataW.weights_mem_each (j := j) (t := f.type) (d := (xs[j]'(by rw [hxl]; exact hj')).1) (by simp [hj]) (by rw [List.getElem?_map, List.getElem?_eq_getElem (by rw [hxl]; exact hj')]; rfl) n hn)
  exact ⟨v, by simpa using hv, hB⟩
/-- An argument that is a slice. -/
theorem OpensB.arg {H : Type} {enc : TypeId × Value → H} {spare : Nat → Bool} {held : Bool} {r : Reach} {b0 : Nat} {t e : TypeId} {d : Kd α} {B : List α → Prop} {v : Value} {x : DataW H} {p : List MemPlace} (ht : P.underlying t = some (.slice e)) (hd : OpensB P w base t (Kd.slice e d) B)
    (hv : Value.okWide P w r b0 t v) (h : DataW.Trod enc P w base spare held t v x p) (hf : Fits P t x) :
    ∃ (A : Option Addr) (c : Nat) (xs : List α), v = .slice A xs.length c ∧ xs.length ≤ c ∧ Kd.C d w A xs.length xs ∧ B xs := by
  obtain ⟨a0, len0, cap0, rfl⟩ := okWide_slice ht hv
  obtain ⟨m, hm⟩ := h
  obtain ⟨xs, ⟨A, c, e1, hl, hC⟩, hB⟩ := hd _ _ _ _ _ _ _ (by simpa [Value.cells] using hm) hf
  exact ⟨A, c, xs, by simpa using e1, hl, hC, hB⟩
/-- An argument that is a struct. -/
theorem OpensB.argStruct {H : Type} {enc : TypeId × Value → H} {spare : Nat → Bool} {held : Bool} {r : Reach} {b0 : Nat} {t : TypeId} {fs : Array Field} {d : Kd α} {B : α → Prop} {v : Value} {x : DataW H} {p : List MemPlace} (ht : P.underlying t = some (.struct fs)) (hd : OpensB P w base t d B)
    (hv : Value.okWide P w r b0 t v) (h : DataW.Trod enc P w base spare held t v x p) (hf : Fits P t x) :
    ∃ (y : α) (cs : List Value), v = .agg cs.toArray ∧ d.K w y cs ∧ B y := by
  obtain ⟨cs, rfl, _⟩ := okWide_struct ht hv
  obtain ⟨m, hm⟩ := h
  obtain ⟨y, hy, hB⟩ := hd _ _ _ _ _ _ _ hm hf
  exact ⟨y, cs.toList, by simp, by simpa [Value.cells] using hy, hB⟩
/-- Each argument's own weights. -/
theorem Fits.of_each {H : Type} {ts : List TypeId} {ds : List (DataW H)} (h : (DataW.weightsEach P ts ds).all (· ≤ reachBytes) = true) {j : Nat} {t : TypeId} {x : DataW H} (ht : ts[j]? = some t) (hd : ds[j]? = some x) : Fits P t x := fun n hn => by
  simpa using List.all_eq_true.1 h n (DataW.weights_mem_each ht hd n hn)
end Go.X
/- '==' of arrays of whole numbers as one Bool. -/
namespace Go
section
variable {P : Program} {w : World}
end
end Go
namespace Go.Proofs.Ytplknppmaepinaa.F
open Go.RowKit Go.Proofs.YtplknppmaepinaaW.PrintWords Go.Proofs.YtplknppmaepinaaW.PrintLast Go.Proofs.YtplknppmaepinaaW.PrintMore
attribute [local go_sem] max2_int min2_int max_two min_two max_three min_three max_four min_four   -- for this text's walks alone
set_option linter.unusedVariables false
set_option linter.unusedSimpArgs false




theorem info5 : (Try.prog.info? 5).map (fun i => (i.zero, i.size, i.bytes)) = some (some (.int .u8 0), 1, 1) := by kernel_rfl
-- the values' own types

/-! #### struct type 73 -/
structure S73 where
  f0 : ByteArray
  f1 : (List Int)
def z73 : S73 := ⟨(⟨#[]⟩ : ByteArray), ([] : List Int)⟩
def k73 : Kd S73 := Kd.iso (Kd.pair Kd.string (Kd.slice 5 (Kd.int .u8))) (fun x : S73 => (x.f0, x.f1))
theorem k73_open {w : World} {x : S73} {cs : List Value} (h : k73.K w x cs) : ∃ A1 c1, cs = [.string x.f0, .slice A1 x.f1.length c1] ∧ x.f1.length ≤ c1 ∧ (Kd.int .u8).C w A1 x.f1.length x.f1 := by
  obtain ⟨_, _, rfl, rfl, ⟨A1, c1, rfl, l1, g1⟩⟩ := h
  exact ⟨A1, c1, rfl, l1, g1⟩
theorem k73_mk (w : World) (x : S73) {A1 : Option Addr} {c1 : Nat} (l1 : x.f1.length ≤ c1) (g1 : (Kd.int .u8).C w A1 x.f1.length x.f1) : k73.K w x [.string x.f0, .slice A1 x.f1.length c1] := ⟨[.string x.f0], [.slice A1 x.f1.length c1], rfl, rfl, ⟨A1, c1, rfl, l1, g1⟩⟩
def rd_T73 (xs : List S73) (i : Int) : S73 := xs.getD i.toNat z73
theorem at_T73 {w : World} {A : Option Addr} {n : Nat} {xs : List S73} (h : Kd.C k73 w A n xs) (i : Int) (h0 : 0 ≤ i) (h1 : i < n) : ∃ ad A1 c1, A = some ad ∧ w.cell? (ad.add (i.toNat * 2)) = some (.string (rd_T73 xs i).f0) ∧ w.cell? ⟨(ad.add (i.toNat * 2)).block, (ad.add (i.toNat * 2)).off + 1, none⟩ = some (.slice A1 (rd_T73 xs i).f1.length c1) ∧ (rd_T73 xs i).f1.length ≤ c1 ∧ (Kd.int .u8).C w A1 (rd_T73 xs i).f1.length (rd_T73 xs i).f1 := by
  obtain ⟨ad, c, e, _, hK, hc0⟩ := Kd.C_get h z73 i h0 h1
  have hc : ∀ j u, c[j]? = some u → w.cell? (ad.add (i.toNat * 2 + j)) = some u := hc0
  obtain ⟨A1, c1, rfl, l1, g1⟩ := k73_open hK
  exact ⟨ad, A1, c1, e, hc 0 _ rfl, by rw [← add_field _ _ 1 (by omega)]; exact hc 1 _ rfl, l1, g1⟩

/-! #### struct type 76 -/
structure S76 where
  f0 : Int
  f1 : Int
  f2 : Int
def z76 : S76 := ⟨(0 : Int), (0 : Int), (0 : Int)⟩
def k76 : Kd S76 := Kd.iso (Kd.pair (Kd.int .i64) (Kd.pair (Kd.int .i64) (Kd.int .i64))) (fun x : S76 => (x.f0, x.f1, x.f2))
theorem k76_open {w : World} {x : S76} {cs : List Value} (h : k76.K w x cs) : cs = [.int .i64 x.f0, .int .i64 x.f1, .int .i64 x.f2] := by
  obtain ⟨_, _, rfl, rfl, ⟨_, _, rfl, rfl, rfl⟩⟩ := h
  exact rfl
theorem k76_mk (w : World) (x : S76)  : k76.K w x [.int .i64 x.f0, .int .i64 x.f1, .int .i64 x.f2] := ⟨[.int .i64 x.f0], [.int .i64 x.f1, .int .i64 x.f2], rfl, rfl, ⟨[.int .i64 x.f1], [.int .i64 x.f2], rfl, rfl, rfl⟩⟩
def rd_T76 (xs : List S76) (i : Int) : S76 := xs.getD i.toNat z76
theorem at_T76 {w : World} {A : Option Addr} {n : Nat} {xs : List S76} (h : Kd.C k76 w A n xs) (i : Int) (h0 : 0 ≤ i) (h1 : i < n) : ∃ ad , A = some ad ∧ w.cell? (ad.add (i.toNat * 3)) = some (.int .i64 (rd_T76 xs i).f0) ∧ w.cell? ⟨(ad.add (i.toNat * 3)).block, (ad.add (i.toNat * 3)).off + 1, none⟩ = some (.int .i64 (rd_T76 xs i).f1) ∧ w.cell? ⟨(ad.add (i.toNat * 3)).block, (ad.add (i.toNat * 3)).off + 2, none⟩ = some (.int .i64 (rd_T76 xs i).f2) := by
  obtain ⟨ad, c, e, _, hK, hc0⟩ := Kd.C_get h z76 i h0 h1
  have hc : ∀ j u, c[j]? = some u → w.cell? (ad.add (i.toNat * 3 + j)) = some u := hc0
  obtain rfl := k76_open hK
  exact ⟨ad, e, hc 0 _ rfl, by rw [← add_field _ _ 1 (by omega)]; exact hc 1 _ rfl, by rw [← add_field _ _ 2 (by omega)]; exact hc 2 _ rfl⟩

/-! #### struct type 102 -/
structure S102 where
  f0 : Int
  f1 : ByteArray
  f2 : Int
def k102 : Kd S102 := Kd.iso (Kd.pair (Kd.int .i64) (Kd.pair Kd.string (Kd.int .i64))) (fun x : S102 => (x.f0, x.f1, x.f2))
theorem k102_mk (w : World) (x : S102)  : k102.K w x [.int .i64 x.f0, .string x.f1, .int .i64 x.f2] := ⟨[.int .i64 x.f0], [.string x.f1, .int .i64 x.f2], rfl, rfl, ⟨[.string x.f1], [.int .i64 x.f2], rfl, rfl, rfl⟩⟩

/-! #### struct type 41 -/
structure S41 where
  f0 : Int
  f1 : ByteArray
  f2 : (List Int)
  f3 : Int
  f4 : Bool
def z41 : S41 := ⟨(0 : Int), (⟨#[]⟩ : ByteArray), ([] : List Int), (0 : Int), false⟩
def k41 : Kd S41 := Kd.iso (Kd.pair (Kd.int .i64) (Kd.pair Kd.string (Kd.pair (Kd.slice 5 (Kd.int .u8)) (Kd.pair (Kd.int .i64) Kd.bool)))) (fun x : S41 => (x.f0, x.f1, x.f2, x.f3, x.f4))
theorem k41_open {w : World} {x : S41} {cs : List Value} (h : k41.K w x cs) : ∃ A2 c2, cs = [.int .i64 x.f0, .string x.f1, .slice A2 x.f2.length c2, .int .i64 x.f3, .bool x.f4] ∧ x.f2.length ≤ c2 ∧ (Kd.int .u8).C w A2 x.f2.length x.f2 := by
  obtain ⟨_, _, rfl, rfl, ⟨_, _, rfl, rfl, ⟨_, _, rfl, ⟨A2, c2, rfl, l2, g2⟩, ⟨_, _, rfl, rfl, rfl⟩⟩⟩⟩ := h
  exact ⟨A2, c2, rfl, l2, g2⟩
def rd_T41 (xs : List S41) (i : Int) : S41 := xs.getD i.toNat z41
theorem at_T41 {w : World} {A : Option Addr} {n : Nat} {xs : List S41} (h : Kd.C k41 w A n xs) (i : Int) (h0 : 0 ≤ i) (h1 : i < n) : ∃ ad A2 c2, A = some ad ∧ w.cell? (ad.add (i.toNat * 5)) = some (.int .i64 (rd_T41 xs i).f0) ∧ w.cell? ⟨(ad.add (i.toNat * 5)).block, (ad.add (i.toNat * 5)).off + 1, none⟩ = some (.string (rd_T41 xs i).f1) ∧ w.cell? ⟨(ad.add (i.toNat * 5)).block, (ad.add (i.toNat * 5)).off + 2, none⟩ = some (.slice A2 (rd_T41 xs i).f2.length c2) ∧ w.cell? ⟨(ad.add (i.toNat * 5)).block, (ad.add (i.toNat * 5)).off + 3, none⟩ = some (.int .i64 (rd_T41 xs i).f3) ∧ w.cell? ⟨(ad.add (i.toNat * 5)).block, (ad.add (i.toNat * 5)).off + 4, none⟩ = some (.bool (rd_T41 xs i).f4) ∧ (rd_T41 xs i).f2.length ≤ c2 ∧ (Kd.int .u8).C w A2 (rd_T41 xs i).f2.length (rd_T41 xs i).f2 := by
  obtain ⟨ad, c, e, _, hK, hc0⟩ := Kd.C_get h z41 i h0 h1
  have hc : ∀ j u, c[j]? = some u → w.cell? (ad.add (i.toNat * 5 + j)) = some u := hc0
  obtain ⟨A2, c2, rfl, l2, g2⟩ := k41_open hK
  exact ⟨ad, A2, c2, e, hc 0 _ rfl, by rw [← add_field _ _ 1 (by omega)]; exact hc 1 _ rfl, by rw [← add_field _ _ 2 (by omega)]; exact hc 2 _ rfl, by rw [← add_field _ _ 3 (by omega)]; exact hc 3 _ rfl, by rw [← add_field _ _ 4 (by omega)]; exact hc 4 _ rfl, l2, g2⟩

end Go.Proofs.Ytplknppmaepinaa.F
/- The arguments of the shelf's laws, opened: what they are, and that none is larger than what memory can hold. -/
namespace Go.Proofs.Ytplknppmaepinaa.S
open Go Go.RowKit Go.X Go.Proofs.YtplknppmaepinaaW.PrintWords Go.Proofs.Ytplknppmaepinaa.F Go.ChangeShapes Go.WideShapes
variable {w : World} {base : Nat}

theorem opensI {t : TypeId} {k : IntKind} (h : Try.prog.underlying t = some (.int k)) : OpensB Try.prog w base t (Kd.int k) (fun n => (Lit.int k n).wf = true) := fun _ _ _ _ _ _ _ hx _ => by
  obtain ⟨n, rfl, _, hw⟩ := DataW.trod_int h hx
  exact ⟨n, rfl, hw⟩
def Bd (bs : List Int) : Prop := bs.length ≤ reachBytes
def Bfile (x : S73) : Prop := x.f0.size ≤ reachBytes ∧ Bd x.f1
def Bfs (xs : List S73) : Prop := xs.length * 40 ≤ reachBytes ∧ ∀ x ∈ xs, Bfile x
def Bt (x : S76) : Prop := (Lit.int .i64 x.f0).wf = true ∧ (Lit.int .i64 x.f1).wf = true ∧ (Lit.int .i64 x.f2).wf = true
def Bps (xs : List S76) : Prop := xs.length * 24 ≤ reachBytes ∧ ∀ x ∈ xs, Bt x
theorem by5 : Try.prog.bytesOf 5 = 1 := by kernel_rfl
theorem by73 : Try.prog.bytesOf 73 = 40 := by kernel_rfl
theorem by76 : Try.prog.bytesOf 76 = 24 := by kernel_rfl
theorem opensB39 : OpensB Try.prog w base 39 (Kd.slice 5 (Kd.int .u8)) Bd :=
  (OpensB.slice Try.underlying39 (by kernel_rfl) (.of (.int (by kernel_rfl)))).mono (fun v h => by rw [by5] at h; have := h.1; show v.length ≤ reachBytes; omega)
theorem opensB73 : OpensB Try.prog w base 73 k73 Bfile :=
  .iso (fun p => ⟨p.1, p.2⟩) (fun _ => rfl) (.struct Try.underlying73 (.step _ 1 rfl rfl (by kernel_rfl) (.string (by kernel_rfl)) (.last _ rfl rfl (by kernel_rfl) opensB39)))
theorem opensB76 : OpensB Try.prog w base 76 k76 Bt :=
  .iso (fun p => ⟨p.1, p.2.1, p.2.2⟩) (fun _ => rfl) (.struct Try.underlying76 (.step _ 1 rfl rfl (by kernel_rfl) (opensI (by kernel_rfl)) (.step _ 2 rfl rfl (by kernel_rfl) (opensI (by kernel_rfl)) (.last _ rfl rfl (by kernel_rfl) (opensI (by kernel_rfl))))))
theorem opensB22 : OpensB Try.prog w base 22 (Kd.slice 73 k73) Bfs :=
  (OpensB.slice Try.underlying22 (by kernel_rfl) opensB73).mono (fun v h => by rw [by73] at h; exact h)
theorem opensB23 : OpensB Try.prog w base 23 (Kd.slice 76 k76) Bps :=
  (OpensB.slice Try.underlying23 (by kernel_rfl) opensB76).mono (fun v h => by rw [by76] at h; exact h)
theorem opensB25 : OpensB Try.prog w base 25 (Kd.pair (Kd.slice 73 k73) (Kd.pair (Kd.int .i64) (Kd.slice 76 k76))) (fun p => Bfs p.1 ∧ (Lit.int .i64 p.2.1).wf = true ∧ Bps p.2.2) :=
  (OpensB.struct Try.underlying25 (.step _ 1 rfl rfl (by kernel_rfl) opensB22 (.step _ 2 rfl rfl (by kernel_rfl) (opensI (by kernel_rfl)) (.last _ rfl rfl (by kernel_rfl) opensB23)))).mono (fun _ h => h)
set_option maxRecDepth 100000 in
/-- What a shelf begins with, as an argument. -/
theorem openWorld {H : Type} {enc : TypeId × Value → H} {spare : Nat → Bool} {held : Bool} {r : Reach} {b0 : Nat} {v : Value} {x : DataW H} {p : List MemPlace}
    (hv : Value.okWide Try.prog w r b0 25 v) (h : DataW.Trod enc Try.prog w base spare held 25 v x p) (hf : Fits Try.prog 25 x) :
    ∃ (Af : Option Addr) (cf : Nat) (fs : List S73) (room : Int) (Ap : Option Addr) (cp : Nat) (ps : List S76), v = .agg #[.slice Af fs.length cf, .int .i64 room, .slice Ap ps.length cp] ∧ fs.length ≤ cf ∧ ps.length ≤ cp ∧ Kd.C k73 w Af fs.length fs ∧ Kd.C k76 w Ap ps.length ps ∧ Bfs fs ∧ (Lit.int .i64 room).wf = true ∧ Bps ps := by
  obtain ⟨⟨fs, room, ps⟩, cs, rfl, ⟨c1, c2, e, ⟨Af, cf, e1, lf, hf⟩, ⟨c3, c4, e', e2, ⟨Ap, cp, e3, lp, hp⟩⟩⟩, hB⟩ := OpensB.argStruct Try.underlying25 opensB25 hv h hf
  have e2' : c3 = [.int .i64 room] := e2
  subst e
  subst e'
  simp only at e1 e3
  subst e1
  subst e2'
  subst e3
  exact ⟨Af, cf, fs, room, Ap, cp, ps, rfl, lf, lp, hf, hp, hB.1, hB.2.1, hB.2.2⟩
end Go.Proofs.Ytplknppmaepinaa.S
/- The scripts of the shelf's laws, as arguments. -/
namespace Go.Proofs.Ytplknppmaepinaa.S
open Go Go.RowKit Go.X Go.Proofs.YtplknppmaepinaaW.PrintWords Go.Proofs.Ytplknppmaepinaa.F Go.ChangeShapes Go.WideShapes
variable {w : World} {base : Nat}

def Bop (x : S41) : Prop := x.f1.size ≤ reachBytes ∧ Bd x.f2
def Bops (xs : List S41) : Prop := xs.length * 64 ≤ reachBytes ∧ ∀ x ∈ xs, Bop x
theorem by41 : Try.prog.bytesOf 41 = 64 := by kernel_rfl
set_option maxRecDepth 100000 in
theorem opensB41 : OpensB Try.prog w base 41 k41 Bop :=
  (OpensB.iso (fun p => ⟨p.1, p.2.1, p.2.2.1, p.2.2.2.1, p.2.2.2.2⟩) (fun _ => rfl) (OpensB.struct Try.underlying41
    (.step _ 1 rfl rfl (by kernel_rfl) (.of (.int (by kernel_rfl))) (.step _ 2 rfl rfl (by kernel_rfl) (.string (by kernel_rfl)) (.step _ 3 rfl rfl (by kernel_rfl) opensB39 (.step _ 4 rfl rfl (by kernel_rfl) (.of (.int (by kernel_rfl))) (.last _ rfl rfl (by kernel_rfl) (.of (.bool (by kernel_rfl)))))))))).mono (fun _ h => ⟨h.2.1, h.2.2.1⟩)
theorem opensB37 : OpensB Try.prog w base 37 (Kd.slice 41 k41) Bops :=
  (OpensB.slice Try.underlying37 (by kernel_rfl) opensB41).mono (fun v h => by rw [by41] at h; exact h)
theorem op_at {w : World} {A : Option Addr} {xs : List S41} (h : Kd.C k41 w A xs.length xs) {i : Nat} {x : S41} (hi : xs[i]? = some x) : ∃ ad A2 c2, A = some ad ∧ w.cell? (ad.add (i * 5)) = some (.int .i64 x.f0) ∧ w.cell? ⟨(ad.add (i * 5)).block, (ad.add (i * 5)).off + 1, none⟩ = some (.string x.f1) ∧ w.cell? ⟨(ad.add (i * 5)).block, (ad.add (i * 5)).off + 2, none⟩ = some (.slice A2 x.f2.length c2) ∧
    w.cell? ⟨(ad.add (i * 5)).block, (ad.add (i * 5)).off + 3, none⟩ = some (.int .i64 x.f3) ∧ w.cell? ⟨(ad.add (i * 5)).block, (ad.add (i * 5)).off + 4, none⟩ = some (.bool x.f4) ∧ x.f2.length ≤ c2 ∧ Kd.C (Kd.int .u8) w A2 x.f2.length x.f2 := by
  have hil := (List.getElem?_eq_some_iff.1 hi).1
  have := at_T41 h (i : Int) (by omega) (by omega)
  have e : rd_T41 xs (i : Int) = x := by simp [rd_T41, List.getD_eq_getElem?_getD, hi]
  rw [e] at this
  simpa using this
set_option maxRecDepth 100000 in
/-- A script, as an argument. -/
theorem openScript {H : Type} {enc : TypeId × Value → H} {spare : Nat → Bool} {held : Bool} {r : Reach} {b0 : Nat} {v : Value} {x : DataW H} {p : List MemPlace}
    (hv : Value.okWide Try.prog w r b0 37 v) (h : DataW.Trod enc Try.prog w base spare held 37 v x p) (hf : Fits Try.prog 37 x) :
    ∃ (Ao : Option Addr) (co : Nat) (os : List S41), v = .slice Ao os.length co ∧ os.length ≤ co ∧ Kd.C k41 w Ao os.length os ∧ Bops os :=
  OpensB.arg Try.underlying37 opensB37 hv h hf
end Go.Proofs.Ytplknppmaepinaa.S
/- A shelf in plain Lean: files by rising names, the room, the troubles, the calls so far. -/
namespace Go.Proofs.Ytplknppmaepinaa.S
open Go Go.RowKit Go.Proofs.YtplknppmaepinaaW.PrintWords Go.Proofs.Ytplknppmaepinaa.F

def ky (s : ByteArray) : List UInt8 := s.data.toList
theorem ky_inj {a b : ByteArray} (h : ky a = ky b) : a = b := WideShapes.bytes_inj h
theorem lt_trans' {a b c : List UInt8} (h : a < b) (h' : b < c) : a < c := List.lt_trans h h'
theorem lt_irrefl' (a : List UInt8) : ¬ a < a := List.lt_irrefl a
theorem lt_or {a b : List UInt8} (h : ¬ a < b) (hne : a ≠ b) : b < a := by
  rcases List.le_total a b with h1 | h1
  · exact absurd (List.le_antisymm h1 (List.not_lt.1 h)) hne
  · rcases Classical.em (b < a) with h2 | h2
    · exact h2
    · exact absurd (List.le_antisymm (List.not_lt.1 h2) h1) hne
theorem ne_of_lt' {a b : List UInt8} (h : a < b) : a ≠ b := fun e => lt_irrefl' b (e ▸ h)

def hasN (L : List S73) (n : ByteArray) : Bool := L.any fun f => ky f.f0 == ky n
def szL : List S73 → Nat
  | [] => 0
  | f :: r => f.f1.length + szL r
def szBut (n : ByteArray) : List S73 → Nat
  | [] => 0
  | f :: r => (if ky f.f0 = ky n then 0 else f.f1.length) + szBut n r
def lookL (n : ByteArray) : List S73 → List Int
  | [] => []
  | f :: r => if ky f.f0 = ky n then f.f1 else lookL n r
def putL (n : ByteArray) (d : List Int) : List S73 → List S73
  | [] => [⟨n, d⟩]
  | f :: r => if ky f.f0 < ky n then f :: putL n d r else if ky f.f0 = ky n then ⟨f.f0, d⟩ :: r else ⟨n, d⟩ :: f :: r
def delL (n : ByteArray) : List S73 → List S73
  | [] => []
  | f :: r => if ky f.f0 = ky n then r else f :: delL n r
def Rises (L : List S73) : Prop := L.Pairwise fun f g => ky f.f0 < ky g.f0
theorem Rises.nil : Rises [] := List.Pairwise.nil
theorem hasN_cons (f : S73) (r : List S73) (n : ByteArray) : hasN (f :: r) n = ((ky f.f0 == ky n) || hasN r n) := rfl
theorem hasN_iff {L : List S73} {n : ByteArray} : hasN L n = true ↔ ∃ f ∈ L, ky f.f0 = ky n := by
  unfold hasN
  rw [List.any_eq_true]
  simp
theorem mem_putL {n : ByteArray} {d : List Int} {g : S73} : ∀ {L : List S73}, g ∈ putL n d L → g.f0 = n ∨ g ∈ L
  | [], h => .inl (by simp [putL] at h; rw [h])
  | f :: r, h => by
    unfold putL at h
    split at h
    · rcases List.mem_cons.1 h with rfl | h
      · exact .inr (List.mem_cons_self ..)
      · exact (mem_putL h).imp id (List.mem_cons_of_mem _)
    · split at h
      · rename_i he
        rcases List.mem_cons.1 h with rfl | h
        · exact .inl (ky_inj he)
        · exact .inr (List.mem_cons_of_mem _ h)
      · rcases List.mem_cons.1 h with rfl | h
        · exact .inl rfl
        · exact .inr h
theorem Rises.put {n : ByteArray} {d : List Int} : ∀ {L : List S73}, Rises L → Rises (putL n d L)
  | [], _ => List.pairwise_singleton ..
  | f :: r, h => by
    obtain ⟨h1, h2⟩ := List.pairwise_cons.1 h
    unfold putL
    split
    · rename_i hlt
      refine List.pairwise_cons.2 ⟨fun g hg => ?_, Rises.put h2⟩
      rcases mem_putL hg with e | hg
      · rw [e]; exact hlt
      · exact h1 g hg
    · rename_i hlt
      split
      · exact List.pairwise_cons.2 ⟨fun g hg => h1 g hg, h2⟩
      · rename_i hne
        have hl := lt_or hlt hne
        refine List.pairwise_cons.2 ⟨fun g hg => ?_, h⟩
        rcases List.mem_cons.1 hg with rfl | hg
        · exact hl
        · exact lt_trans' hl (h1 g hg)
theorem mem_delL {n : ByteArray} {g : S73} : ∀ {L : List S73}, g ∈ delL n L → g ∈ L
  | [], h => h
  | f :: r, h => by
    unfold delL at h
    split at h
    · exact List.mem_cons_of_mem _ h
    · rcases List.mem_cons.1 h with rfl | h
      · exact List.mem_cons_self ..
      · exact List.mem_cons_of_mem _ (mem_delL h)
theorem Rises.del {n : ByteArray} : ∀ {L : List S73}, Rises L → Rises (delL n L)
  | [], h => h
  | f :: r, h => by
    obtain ⟨h1, h2⟩ := List.pairwise_cons.1 h
    unfold delL
    split
    · exact h2
    · exact List.pairwise_cons.2 ⟨fun g hg => h1 g (mem_delL hg), Rises.del h2⟩
theorem Rises.not_has {f : S73} {r : List S73} (h : Rises (f :: r)) : hasN r f.f0 = false := by
  rw [Bool.eq_false_iff]
  intro hh
  obtain ⟨g, hg, e⟩ := hasN_iff.1 hh
  exact ne_of_lt' ((List.pairwise_cons.1 h).1 g hg) e.symm
theorem Rises.above {f : S73} {r : List S73} (h : Rises (f :: r)) {n : ByteArray} (hn : ¬ ky f.f0 < ky n) : hasN r n = false := by
  rw [Bool.eq_false_iff]
  intro hh
  obtain ⟨g, hg, e⟩ := hasN_iff.1 hh
  exact hn (e ▸ (List.pairwise_cons.1 h).1 g hg)
theorem lookL_none {n : ByteArray} : ∀ {L : List S73}, hasN L n = false → lookL n L = []
  | [], _ => rfl
  | f :: r, h => by
    rw [hasN_cons, Bool.or_eq_false_iff] at h
    unfold lookL
    rw [if_neg (by simpa using h.1)]
    exact lookL_none h.2
theorem lookL_mem {n : ByteArray} : ∀ {L : List S73}, hasN L n = true → (⟨n, lookL n L⟩ : S73) ∈ L
  | [], h => by cases h
  | f :: r, h => by
    unfold lookL
    split
    · rename_i he
      have e := ky_inj he
      subst e
      exact List.mem_cons_self ..
    · rename_i he
      rw [hasN_cons] at h
      have : hasN r n = true := by simpa [he] using h
      exact List.mem_cons_of_mem _ (lookL_mem this)
theorem lookL_of_mem {f : S73} : ∀ {L : List S73}, Rises L → f ∈ L → lookL f.f0 L = f.f1
  | [], _, h => by cases h
  | g :: r, hr, h => by
    unfold lookL
    rcases List.mem_cons.1 h with rfl | h
    · rw [if_pos rfl]
    · rw [if_neg (ne_of_lt' ((List.pairwise_cons.1 hr).1 f h))]
      exact lookL_of_mem (List.pairwise_cons.1 hr).2 h
theorem szBut_none {n : ByteArray} : ∀ {L : List S73}, hasN L n = false → szBut n L = szL L
  | [], _ => rfl
  | f :: r, h => by
    rw [hasN_cons, Bool.or_eq_false_iff] at h
    unfold szBut szL
    rw [if_neg (by simpa using h.1), szBut_none h.2]
theorem szBut_add {n : ByteArray} : ∀ {L : List S73}, Rises L → szBut n L + (lookL n L).length = szL L
  | [], _ => rfl
  | f :: r, h => by
    have ih := szBut_add (n := n) (List.pairwise_cons.1 h).2
    unfold szBut szL lookL
    split
    · rename_i he
      have := h.not_has
      rw [ky_inj he] at this
      rw [lookL_none this] at ih
      simp at ih
      omega
    · omega
theorem has_putL {n m : ByteArray} {d : List Int} : ∀ {L : List S73}, hasN (putL n d L) m = ((ky n == ky m) || hasN L m)
  | [] => rfl
  | f :: r => by
    unfold putL
    split
    · rw [hasN_cons, has_putL, hasN_cons]
      cases ky n == ky m <;> cases ky f.f0 == ky m <;> simp
    · split
      · rename_i he
        rw [hasN_cons, hasN_cons]
        simp only [he]
        cases ky n == ky m <;> simp
      · rfl
theorem length_putL {n : ByteArray} {d : List Int} : ∀ {L : List S73}, Rises L → (putL n d L).length = if hasN L n then L.length else L.length + 1
  | [], _ => rfl
  | f :: r, h => by
    have ih := length_putL (n := n) (d := d) (List.pairwise_cons.1 h).2
    unfold putL
    split
    · rename_i hlt
      rw [hasN_cons, List.length_cons, ih]
      have : (ky f.f0 == ky n) = false := by simpa using ne_of_lt' hlt
      rw [this, Bool.false_or]
      split <;> simp
    · rename_i hlt
      split
      · rename_i he
        rw [hasN_cons, he]
        simp
      · rename_i hne
        rw [hasN_cons, h.above hlt]
        have : (ky f.f0 == ky n) = false := by simpa using hne
        rw [this]
        simp
theorem szL_putL {n : ByteArray} {d : List Int} : ∀ {L : List S73}, Rises L → szL (putL n d L) = szBut n L + d.length
  | [], _ => by simp [putL, szL, szBut]
  | f :: r, h => by
    have ih := szL_putL (n := n) (d := d) (List.pairwise_cons.1 h).2
    unfold putL szBut
    split
    · rename_i hlt
      rw [if_neg (ne_of_lt' hlt)]
      simp only [szL, ih]
      omega
    · rename_i hlt
      split
      · rename_i he
        simp only [szL]
        rw [szBut_none (h.above hlt)]
        omega
      · rename_i hne
        simp only [szL]
        rw [szBut_none (h.above hlt)]
        omega
theorem look_putL {n m : ByteArray} {d : List Int} : ∀ {L : List S73}, Rises L → lookL m (putL n d L) = if ky n = ky m then d else lookL m L
  | [], _ => by simp [putL, lookL]
  | f :: r, h => by
    have ih := look_putL (n := n) (m := m) (d := d) (List.pairwise_cons.1 h).2
    unfold putL
    split
    · rename_i hlt
      simp only [lookL, ih]
      by_cases h1 : ky f.f0 = ky m
      · rw [if_pos h1, if_neg (fun e => ne_of_lt' hlt (h1.trans e.symm)), if_pos h1]
      · rw [if_neg h1, if_neg h1]
    · split
      · rename_i he
        simp only [lookL, he]
        by_cases h1 : ky n = ky m
        · rw [if_pos h1, if_pos h1]
        · rw [if_neg h1, if_neg h1, if_neg h1]
      · rfl
theorem has_delL {n m : ByteArray} : ∀ {L : List S73}, Rises L → hasN (delL n L) m = (!(ky n == ky m) && hasN L m)
  | [], _ => by simp [delL, hasN]
  | f :: r, h => by
    have ih := has_delL (n := n) (m := m) (List.pairwise_cons.1 h).2
    unfold delL
    split
    · rename_i he
      rw [hasN_cons, he]
      by_cases h1 : ky n = ky m
      · have := h.not_has
        rw [ky_inj he, ky_inj h1] at this
        rw [this]
        simp [h1]
      · have : (ky n == ky m) = false := by simpa using h1
        rw [this]
        simp
    · rename_i he
      rw [hasN_cons, ih, hasN_cons]
      by_cases h1 : ky n = ky m
      · have h2 : (ky f.f0 == ky m) = false := by simpa using fun e => he (e.trans h1.symm)
        rw [h2]
        simp
      · have : (ky n == ky m) = false := by simpa using h1
        rw [this]
        simp
theorem length_delL {n : ByteArray} : ∀ {L : List S73}, hasN L n = true → (delL n L).length + 1 = L.length
  | [], h => by cases h
  | f :: r, h => by
    unfold delL
    split
    · rfl
    · rename_i he
      rw [hasN_cons] at h
      have : hasN r n = true := by simpa [he] using h
      simp [length_delL this]
theorem szL_delL {n : ByteArray} : ∀ {L : List S73}, szL (delL n L) + (lookL n L).length = szL L
  | [] => rfl
  | f :: r => by
    have ih := szL_delL (n := n) (L := r)
    unfold delL lookL
    split
    · rename_i he
      simp [szL, Nat.add_comm]
    · simp only [szL]; omega

/-! ### names, troubles, calls -/
def byteOK (b : Int) : Bool := (decide (97 ≤ b) && decide (b ≤ 122)) || (decide (65 ≤ b) && decide (b ≤ 90)) || (decide (48 ≤ b) && decide (b ≤ 57)) || decide (b = 46) || decide (b = 45) || decide (b = 95) || decide (b = 47)
def nmOK (s : ByteArray) : Bool := decide (0 < s.size) && decide (s.size ≤ 64) && (bytesOf s).all byteOK
def planF (plan : List S76) (c n : Int) : Int :=
  match plan.find? fun p => decide (p.f0 = c ∧ p.f1 = n) with
  | some p => p.f2
  | none => 0
def cntL (all : List S102) (c : Int) : Nat := (all.filter fun x => decide (x.f0 = c)).length
def badT (p : S76) : Bool := decide (p.f0 < 1) || decide (3 < p.f0) || decide (p.f1 < 1) || !(decide (p.f2 = 11) || decide (p.f2 = 12) || decide (p.f2 = 13))

structure Sh where
  L : List S73
  room : Int
  plan : List S76
  all : List S102
/-- the files, one by one: what is wrong, and what lies there by then -/
def newF (room : Int) : List S73 → List S73 → Int × List S73
  | acc, [] => (0, acc)
  | acc, f :: r => if hasN acc f.f0 || !nmOK f.f0 then (10, acc) else if acc.length = 64 ∨ room < szL acc + f.f1.length then (13, acc) else newF room (putL f.f0 f.f1 acc) r
def newP : List S76 → Int
  | [] => 0
  | p :: r => if badT p then 6 else newP r
def newE (fs : List S73) (room : Int) (ps : List S76) : Int :=
  if room < 0 ∨ 16777216 < room then 5 else if (newF room [] fs).1 ≠ 0 then (newF room [] fs).1 else newP ps
def newS (fs : List S73) (room : Int) (ps : List S76) : Sh := ⟨(newF room [] fs).2, room, ps, []⟩
structure Good (s : Sh) : Prop where
  rises : Rises s.L
  names : ∀ f ∈ s.L, nmOK f.f0 = true
  few : s.L.length ≤ 64
  fits : (szL s.L : Int) ≤ s.room
  room0 : 0 ≤ s.room
  room1 : s.room ≤ 16777216
theorem newF_good (room : Int) (h0 : 0 ≤ room) : ∀ (fs acc : List S73), Rises acc → (∀ f ∈ acc, nmOK f.f0 = true) → acc.length ≤ 64 → (szL acc : Int) ≤ room →
    Rises (newF room acc fs).2 ∧ (∀ f ∈ (newF room acc fs).2, nmOK f.f0 = true) ∧ (newF room acc fs).2.length ≤ 64 ∧ (szL (newF room acc fs).2 : Int) ≤ room
  | [], acc, h1, h2, h3, h4 => ⟨h1, h2, h3, h4⟩
  | f :: r, acc, h1, h2, h3, h4 => by
    unfold newF
    split
    · exact ⟨h1, h2, h3, h4⟩
    · rename_i hh
      split
      · exact ⟨h1, h2, h3, h4⟩
      · rename_i hn
        have hh' : hasN acc f.f0 = false ∧ nmOK f.f0 = true := by simpa using hh
        have hn' : acc.length ≠ 64 ∧ ¬ room < szL acc + f.f1.length := by simpa [not_or] using hn
        refine newF_good room h0 r _ h1.put (fun g hg => ?_) ?_ ?_
        · rcases mem_putL hg with e | hg
          · rw [e]; exact hh'.2
          · exact h2 g hg
        · rw [length_putL h1, hh'.1]; simp; omega
        · rw [szL_putL h1, szBut_none hh'.1]; omega
theorem newS_good {fs : List S73} {room : Int} {ps : List S76} (h : newE fs room ps = 0) : Good (newS fs room ps) := by
  unfold newE at h
  split at h
  · cases h
  · rename_i hr
    have hr' : ¬ room < 0 ∧ ¬ 16777216 < room := by simpa [not_or] using hr
    obtain ⟨h1, h2, h3, h4⟩ := newF_good room (by omega) fs [] Rises.nil (by simp) (by simp) (by simp [szL]; omega)
    exact ⟨h1, h2, h3, h4, by show 0 ≤ room; omega, by show room ≤ _; omega⟩
end Go.Proofs.Ytplknppmaepinaa.S
/- Rows that are read (Kd.C) and rows of cells: one out of the other; a row that is lent. -/
namespace Go.X
open Go Go.RowKit Go.Proofs.YtplknppmaepinaaW.PrintWords
variable {α : Type} {d : Kd α} {w w' : World}

theorem C_cells {A : Option Addr} {n : Nat} {xs : List α} (h : d.C w A n xs) :
    ∃ cs, Reps (d.K w) d.sz xs cs ∧ (cs ≠ [] → ∃ ad, A = some ad ∧ ∀ j v, cs[j]? = some v → w.cell? (ad.add j) = some v) := by
  obtain ⟨hl, _, hc⟩ := h
  rcases Nat.eq_zero_or_pos n with h0 | h0
  · obtain rfl : xs = [] := List.eq_nil_of_length_eq_zero (by omega)
    exact ⟨[], Reps.none _ _, fun h => absurd rfl h⟩
  · obtain ⟨ad, rfl, hcc⟩ := hc h0
    clear hc
    suffices H : ∀ m, m ≤ xs.length → ∃ cs, Reps (d.K w) d.sz (xs.take m) cs ∧ ∀ j v, cs[j]? = some v → w.cell? (ad.add j) = some v by
      obtain ⟨cs, h1, h2⟩ := H xs.length (Nat.le_refl _)
      rw [List.take_length] at h1
      exact ⟨cs, h1, fun _ => ⟨ad, rfl, h2⟩⟩
    intro m
    induction m with
    | zero => exact fun _ => ⟨[], by simpa using Reps.none _ _, by simp⟩
    | succ m ih =>
      intro hm
      obtain ⟨cs, h1, h2⟩ := ih (by omega)
      obtain ⟨c, e1, e2, e3⟩   := hcc m _ (List.getElem?_eq_getElem (show m < xs.length by omega))
      have hlen : cs.length = m * d.sz := by rw [h1.1, List.length_take]; congr 1; omega
      refine ⟨cs ++ c, ?_, fun j v hj => ?_⟩
      · rw [List.take_succ_eq_append_getElem (by omega)]
        exact h1.snoc e2 e1
      · rcases Nat.lt_or_ge j cs.length with hlt | hge
        · rw [List.getElem?_append_left hlt] at hj
          exact h2 j v hj
        · rw [List.getElem?_append_right hge] at hj
          have := e3 (j - cs.length) v hj
          rwa [show m * d.sz + (j - cs.length) = j by omega] at this


theorem C_of_blk {b : Nat} {e : TypeId} {xs : List α} {cs rest : List Value} (h : Blk w b e (cs ++ rest)) (hr : Reps (d.K w) d.sz xs cs) (hm : xs.length ≤ 9223372036854775807) :
    d.C w (some ⟨b, 0, none⟩) xs.length xs := by
  refine ⟨rfl, hm, fun _ => ⟨_, rfl, fun j p hj => ⟨(cs.drop (j * d.sz)).take d.sz, ?_, hr.2 j p hj, fun i u hu => ?_⟩⟩⟩
  · have hjl := (List.getElem?_eq_some_iff.1 hj).1
    have h1 : j * d.sz + d.sz ≤ cs.length := by rw [hr.1, ← Nat.succ_mul]; exact Nat.mul_le_mul_right _ hjl
    rw [List.length_take, List.length_drop]
    omega
  · rw [add_plain, h.cell]
    rw [List.getElem?_take] at hu
    split at hu
    · rw [List.getElem?_drop] at hu
      rw [List.getElem?_append_left (List.getElem?_eq_some_iff.1 hu).1]
      exact hu
    · cases hu

/-- A row that is lent: its elements, and behind them its holder's. -/
structure Lent (d : Kd α) (e : TypeId) (w : World) (b : Nat) (xs : List α) (hold : List Value) : Prop where
  mk' ::
  out : ∃ cs, Reps (d.K w) d.sz xs cs ∧ Blk w b e (cs ++ hold)

theorem splice_begin {α : Type} (L cs : List α) : splice L 0 cs = cs ++ L.drop cs.length := by simp [splice]
theorem splice_end {α : Type} (cs r hold : List α) (h : r.length = hold.length) : splice (cs ++ r) cs.length hold = cs ++ hold := by
  simp [splice, h.symm]
end Go.X
/- append to a row of the call's own: what else is kept, of rows in the same block, too. -/
namespace Go.X
open Go Go.RowKit
variable {P : Program}

/-- What an append of m elements to the row v (n elements of type e) leaves: v' in w'. -/
structure Appended (w w' : World) (e : TypeId) (size : Nat) (v v' : Value) (n : Nat) : Prop where
  grown : w.grownBy w' v.ownBlock
  place : v'.ownBlock = v.ownBlock ∨ v'.ownBlock = some w.heap.size ∧ w.grownBy w' none
  keeps : ∀ b e' sz u k ys, w.ownsRow b e' sz u k ys → (u.ownBlock = none ∨ u.ownBlock ≠ v.ownBlock ∨ sz = size ∧ k ≤ n) → w'.ownsRow b e' sz u k ys

theorem run_append_x (w : World) (base : Nat) (t ty e : TypeId) (i : TypeInfo) (z : Value) (size bytes : Nat) (ht : P.underlying t = some (.slice e)) (hi : P.info? e = some i) (hz : i.zero = some z)
    (hsize : i.size = size) (hby : i.bytes = bytes) (hzs : z.cells.size = size)
    (v : Value) (n : Nat) (xs : List Value) (hown : w.ownsRow base e size v n xs)
    (a : Addr) (m c : Nat) (news : List Value) (hl : news.length = m * size) (hnews : ∀ j u, news[j]? = some u → w.cell? (a.add j) = some u) (h1 : ∀ u ∈ news, u.oneCell' = true)
    (h63 : n + m ≤ maxLen) (hbytes : (n + m) * bytes ≤ 140737488355328) (hbase : base ≤ w.heap.size) :
    ∃ v' w', (Builtin.append_ #[t, t] ty #[v, .slice (some a) m c]).run P w = .ok v' w' ∧ w'.ownsRow base e size v' (n + m) (xs ++ news) ∧ Appended w w' e size v v' n := by
  subst hsize
  subst hby
  have hsmall : n + m ≤ 9223372036854775807 := by simp only [maxLen] at h63; omega
  have hlen : (xs ++ news).length = (n + m) * i.size := by rw [List.length_append, hown.1, hl, Nat.add_mul]
  have grown : ∀ (old : Nat), old < n + m →
      (w.drew.alloc (.cells (xs.toArray ++ news.toArray ++ Builtin.zeroCells z.cells (grownCap w (n + m) old e - (n + m))) e)).ownsRow base e i.size
        (.slice (some ⟨w.heap.size, 0, none⟩) (n + m) (grownCap w (n + m) old e)) (n + m) (xs ++ news) ∧
      ∀ row, w.grownBy (w.drew.alloc (.cells (xs.toArray ++ news.toArray ++ Builtin.zeroCells z.cells (grownCap w (n + m) old e - (n + m))) e)) row := by
    intro old ho
    have hge := grownCap_ge w (n + m) old e
    have hcm : grownCap w (n + m) old e ≤ maxLen := grownCap_le_maxLen w (n + m) old e h63
    refine ⟨⟨hlen, .inr ⟨w.heap.size, _, _, rfl, hbase, heap_alloc_new w.drew _, hge, hcm, ?_, ?_⟩⟩, fun row => ⟨rfl, rfl, rfl, by simp, fun k hk _ => Below.heap_alloc w.drew _ k hk⟩⟩
    · simp only [Array.size_append, List.size_toArray, size_zeroCells, hzs, hown.1, hl, ← Nat.add_mul]
      congr 1
      omega
    · simp only [Array.toList_append, List.append_assoc]
      rw [← List.append_assoc, ← hlen]
      exact List.take_left
  have keep : ∀ {w' : World}, w.grownBy w' none → ∀ b e' sz u k ys, w.ownsRow b e' sz u k ys → w'.ownsRow b e' sz u k ys := by
    intro w' hg b e' sz u k ys h
    exact h.kept hg (by cases hv : u.ownBlock <;> simp)
  rcases hown.2 with ⟨rfl, rfl⟩ | ⟨g, cap, cur, rfl, hbg, hg, hnc, hcm, hcs, htake⟩
  · have hx : xs = [] := List.eq_nil_of_length_eq_zero (by simpa using hown.1)
    subst hx
    by_cases hm : m = 0
    · subst hm
      have hn : news = [] := List.eq_nil_of_length_eq_zero (by simpa using hl)
      subst hn
      refine ⟨.slice none 0 0, w, ?_, World.ownsRow_nil w base e i.size, ⟨⟨rfl, rfl, rfl, Nat.le_refl _, fun _ _ _ => rfl⟩, Or.inl rfl, fun _ _ _ _ _ _ h _ => h⟩⟩
      simp [Builtin.append_, run_underlying ht, sizeOf, typeInfo, hi, Builtin.lenOf, Builtin.firstCells, loadCells, loadCellsFrom]
    · have hr := run_append_nil (P := P) w t ty e i z ht hi hz a m c news hl hnews (by omega) (by omega) (by have hb := hbytes; simp only [Nat.zero_add] at hb; omega)
      have hgr := grown 0 (by omega)
      simp only [Nat.zero_add, List.nil_append, Array.empty_append] at hgr ⊢
      exact ⟨_, _, hr, hgr.1, ⟨hgr.2 _, Or.inr ⟨rfl, hgr.2 _⟩, fun b e' sz u k ys h _ => keep (hgr.2 none) b e' sz u k ys h⟩⟩
  · by_cases hroom : n + m ≤ cap
    · have hfit : n * i.size + news.length ≤ cur.size := by rw [hl, hcs, ← Nat.add_mul]; exact Nat.mul_le_mul_right _ hroom
      have hr := run_append_room (P := P) w t ty e i ht hi g n cap cur hg a m c news hl hnews h1 hroom hfit
      have hgrow : w.grownBy (w.setRow g (cur.toList.take (n * i.size) ++ news ++ cur.toList.drop (n * i.size + news.length)).toArray) (some g) := ⟨rfl, rfl, rfl, by simp, fun k _ hk => setRow_other w g k _ (fun e => hk (by simp [e]))⟩
      refine ⟨_, _, hr, ⟨hlen, .inr ⟨g, cap, _, rfl, hbg, setRow_heap w g cur _ e _ hg, hroom, hcm, ?_, ?_⟩⟩, ⟨hgrow, Or.inl rfl, ?_⟩⟩
      · simp only [List.size_toArray, List.length_append, List.length_take, List.length_drop, Array.length_toList]
        omega
      · rw [htake, ← hlen]
        exact List.take_left
      · intro b e' sz u k ys h hh
        rcases hh with hh | hh | ⟨rfl, hk⟩
        · exact h.kept hgrow (.inl hh)
        · exact h.kept hgrow (.inr hh)
        · by_cases hu : u.ownBlock = some g
          · refine ⟨h.1, ?_⟩
            rcases h.2 with hn | ⟨g', cap', cur', rfl, hb', hgg, h1', h2', h3', h4'⟩
            · exact .inl hn
            · have : g' = g := by simpa [Value.ownBlock] using hu
              subst this
              rw [hg] at hgg
              simp at hgg
              obtain ⟨rfl, rfl⟩ := hgg
              refine .inr ⟨g', cap', _, rfl, hb', setRow_heap w g' cur _ e _ hg, h1', h2', ?_, ?_⟩
              · rw [← h3']
                simp only [List.size_toArray, List.length_append, List.length_take, List.length_drop, Array.length_toList]
                omega
              · rw [← h4']
                have hkn : k * i.size ≤ n * i.size := Nat.mul_le_mul_right _ hk
                rw [List.toList_toArray, List.append_assoc, List.take_append_of_le_length (by rw [List.length_take, Array.length_toList]; omega), List.take_take, Nat.min_eq_left hkn]
          · exact h.kept hgrow (.inr hu)
    · have holds : ∀ j u, xs[j]? = some u → w.cell? ((⟨g, 0, none⟩ : Addr).add j) = some u := hown.cells (g := g) rfl
      have hr := run_append_grow (P := P) w t ty e i z ht hi hz ⟨g, 0, none⟩ n cap xs hown.1 holds a m c news hl hnews (by omega) (by omega) (growslice_fits (by omega) hbytes)
      have hgr := grown cap (by omega)
      exact ⟨_, _, hr, hgr.1, ⟨hgr.2 _, Or.inr ⟨rfl, hgr.2 _⟩, fun b e' sz u k ys h _ => keep (hgr.2 none) b e' sz u k ys h⟩⟩

section
variable {w : World} {ops : Array Oper} {rest : List Oper} {o : Oper} {a : Act} {Q : Exit → Act → World → Prop}
/-- 'append(v, x)' of one element (news: its cells), which lies in the block made last. -/
theorem append1 (hgd : o.guard = none) (s x : Operand) (t e : TypeId) (ho : o.op = .call { callee := .builtin .append, args := #[s, x], argTypes := #[t, t] })
    (base : Nat) (z : Value) (size bytes : Nat) (ht : P.underlying t = some (.slice e)) (hinfo : (P.info? e).map (fun i => (i.zero, i.size, i.bytes)) = some (some z, size, bytes)) (hzs : z.cells.size = size)
    (v : Value) (n : Nat) (xs : List Value) (hs : a.eval s = v) (hown : w.ownsRow base e size v n xs)
    (news : List Value) (hx : a.eval x = .slice (some ⟨w.heap.size, 0, none⟩) 1 1) (hl : news.length = size) (h1 : ∀ u ∈ news, u.oneCell' = true)
    (h63 : n + 1 ≤ maxLen) (hbytes : (n + 1) * bytes ≤ 140737488355328) (hbase : base ≤ w.heap.size)
    (h : ∀ v' w', w'.ownsRow base e size v' (n + 1) (xs ++ news) → Appended (w.alloc (.cells news.toArray e)) w' e size v v' n → wpList P ops Q rest (a.put o.dst v') w') :
    wpList P ops Q (o :: rest) a (w.alloc (.cells news.toArray e)) := by
  refine wpList_plain hgd fun K hK => ?_
  obtain ⟨i, hi, hzz⟩ := Option.map_eq_some_iff.1 hinfo
  simp only [Prod.mk.injEq] at hzz
  obtain ⟨hz0, hz1, hz2⟩ := hzz
  obtain ⟨v', w', hr, h2, h3⟩ := run_append_x (P := P) (w.alloc (.cells news.toArray e)) base t o.type e i z size bytes ht hi hz0 hz1 hz2 hzs v n xs (hown.alloc _) ⟨w.heap.size, 0, none⟩ 1 1 news (by simpa using hl)
    (by have := World.news_of_block (w := w.alloc (.cells news.toArray e)) (B := w.heap.size) (cs := news.toArray) (t := e) (fr := (0, 0)) (heap_alloc_new w _); simpa using this) h1 h63 hbytes (by simp; omega)
  unfold Oper.wp execOp
  simp only [ho, resolve, invoke, builtin, Sem.run_bind, Sem.run_pure, Result.andThen_ok, List.map_toArray, List.map_cons, List.map_nil, hs, hx, hr]
  exact hK _ _ (h v' w' h2 h3)
end
end Go.X
/- A region that draws its order, by an invariant over what has come up: one step for each operation, whatever the order. -/
namespace Go.X
open Go
section
variable {P : Program} {ops : Array Oper} {Q : Exit → Act → World → Prop} {md : Region.Mode}

theorem count_false_set (l : List Bool) (i : Nat) (h : l[i]? = some false) : (l.set i true).count false + 1 = l.count false := by
  induction l generalizing i with
  | nil => simp at h
  | cons x l ih =>
    cases i with
    | zero => simp at h; subst h; simp
    | succ i =>
      simp at h
      have := ih i h
      simp only [List.set_cons_succ, List.count_cons]
      omega
theorem ready_false {l : Array Bool} {i : Nat} (h : i ∈ Region.ready md ops l) : l[i]? = some false := by
  have h1 := (mem_ready.1 h).1
  rcases Nat.lt_or_ge i l.size with h' | h'
  · simp [h'] at h1 ⊢; exact h1
  · simp [Array.getElem?_eq_none h'] at h1
theorem wpAny_inv {I : Array Bool → Act → World → Prop}
    (hend : ∀ l a w, l.size = ops.size → Region.ready md ops l = [] → I l a w → Q .normal a w)
    (hstep : ∀ i l a w, l.size = ops.size → i ∈ Region.ready md ops l → I l a w → wpOp P ops Q i (I (l.setIfInBounds i true)) a w) :
    ∀ (fuel : Nat) (l : Array Bool) (a : Act) (w : World), l.size = ops.size → l.toList.count false ≤ fuel → I l a w → wpAny P md ops Q fuel l a w := by
  intro fuel
  induction fuel with
  | zero =>
    intro l a w hs hc hI
    have hr : Region.ready md ops l = [] := by
      cases h : Region.ready md ops l with
      | nil => rfl
      | cons i is =>
        have hi : i ∈ Region.ready md ops l := by rw [h]; simp
        have h1 := ready_false hi
        have h2 : l.toList[i]? = some false := by simpa using h1
        have := count_false_set _ _ h2
        omega
    exact ⟨hr, hend l a w hs hr hI⟩
  | succ fuel ih =>
    intro l a w hs hc hI
    refine ⟨fun hr => hend l a w hs hr hI, fun i hi => ?_⟩
    refine wpOp_mono (fun a' w' h => ih _ a' w' (by simpa using hs) ?_ h) (hstep i l a w hs hi hI)
    have h1 := ready_false hi
    have h2 : l.toList[i]? = some false := by simpa using h1
    have := count_false_set _ _ h2
    simp only [Array.toList_setIfInBounds]
    omega

/-- Which operations have come up. -/
abbrev Bits := Nat → Bool
def Bits.put (b : Bits) (i : Nat) : Bits := fun j => if j = i then true else b j
/-- What an operation waits for. -/
def waits (md : Region.Mode) (o : Oper) : List Nat := (o.after.toList.filter (Region.binds md)).map (·.on)
/-- Each operation waits for earlier ones alone. -/
def backward (md : Region.Mode) (ops : Array Oper) : Bool := (List.range ops.size).all fun i => (((ops[i]?).map fun o => (waits md o).all fun d => decide (d < i)).getD true)
theorem ready_nil_all {l : Array Bool} (hb : backward md ops = true) (hs : l.size = ops.size) (h : Region.ready md ops l = []) : ∀ i, i < ops.size → l[i]? = some true := by
  intro i
  induction i using Nat.strongRecOn with
  | ind i ih =>
    intro hi
    have hil : i < l.size := by omega
    cases hv : l[i] with
    | true => simp [hil, hv]
    | false =>
      exfalso
      have : i ∈ Region.ready md ops l := by
        refine mem_ready.2 ⟨by simp [hil, hv], ops[i], by simp [hi], fun e he hbd => ?_⟩
        have h1 := List.all_eq_true.1 hb i (by simpa using hi)
        simp only [Array.getElem?_eq_getElem hi, Option.map_some, Option.getD_some] at h1
        have h2 : e.on ∈ waits md ops[i] := by
          unfold waits
          exact List.mem_map.2 ⟨e, List.mem_filter.2 ⟨by simpa using he, hbd⟩, rfl⟩
        have h3 := of_decide_eq_true (List.all_eq_true.1 h1 _ h2)
        have := ih e.on h3 (by omega)
        simp [this]
      rw [h] at this
      cases this

/-- Nothing has come up ahead of what it waits for. -/
def Shutd (md : Region.Mode) (ops : Array Oper) (b : Bits) : Prop := ∀ j o, ops[j]? = some o → b j = true → ∀ d ∈ waits md o, b d = true
/-- Of each operation: all that stand ahead of it. -/
def ancs (md : Region.Mode) (ops : Array Oper) : List (List Nat) := ops.toList.foldl (fun acc o => acc ++ [((waits md o) ++ (waits md o).flatMap fun e => acc.getD e []).eraseDups]) []
def ancOk (md : Region.Mode) (ops : Array Oper) (anc : List (List Nat)) : Bool :=
  (List.range ops.size).all fun i => (anc.getD i []).all fun d => ((ops[i]?).map fun o => (waits md o).any fun e => e == d || (anc.getD e []).contains d).getD false
theorem anc_true {anc : List (List Nat)} (hb : backward md ops = true) (ha : ancOk md ops anc = true) {b : Bits} (hs : Shutd md ops b) : ∀ i, i < ops.size → b i = true → ∀ d ∈ anc.getD i [], b d = true := by
  intro i
  induction i using Nat.strongRecOn with
  | ind i ih =>
    intro hi hbi d hd
    have h1 := List.all_eq_true.1 (List.all_eq_true.1 ha i (by simpa using hi)) d hd
    simp only [Array.getElem?_eq_getElem hi, Option.map_some, Option.getD_some] at h1
    obtain ⟨e, he, hed⟩ := List.any_eq_true.1 h1
    have hbe := hs i _ (Array.getElem?_eq_getElem hi) hbi e he
    have h2 := List.all_eq_true.1 hb i (by simpa using hi)
    simp only [Array.getElem?_eq_getElem hi, Option.map_some, Option.getD_some] at h2
    have h3 := of_decide_eq_true (List.all_eq_true.1 h2 _ he)
    rcases Bool.or_eq_true _ _ ▸ hed with h | h
    · rw [← eq_of_beq h]; exact hbe
    · exact ih e h3 (by omega) hbe d (by simpa using h)

/-- One step for each operation: those ahead of it have come up, it and those behind it have not. -/
def RSteps (P : Program) (ops : Array Oper) (Q : Exit → Act → World → Prop) (I : Bits → Act → World → Prop) (is : List Nat) : Prop :=
  ∀ i ∈ is, ∀ (b : Bits) (a : Act) (w : World), b i = false → (∀ d ∈ (ancs .any ops).getD i [], b d = true) → (∀ j, i ∈ (ancs .any ops).getD j [] → j < ops.size → b j = false) → I b a w → wpOp P ops Q i (I (b.put i)) a w
theorem wp_region_inv {id : Nat} {a : Act} {w : World} (I : Act → Bits → Act → World → Prop) (n : Nat) (is : List Nat) (hm : P.follows .mixedOrders = true) (hn : ops.size = n) (his : List.range n = is) (hb : backward .any ops = true) (ha : ancOk .any ops (ancs .any ops) = true)
    (h0 : I a (fun _ => false) a w.drew) (hs : RSteps P ops Q (I a) is) (hend : ∀ b a' w, (∀ i, i < n → b i = true) → I a b a' w → Q .normal a' w) :
    (Code.region id ops true).wp P Q a w := by
  have hbits : ∀ l : Array Bool, ∀ i, l[i]? = some false → l.size = ops.size → (fun j => (l.setIfInBounds i true).getD j false) = Bits.put (fun j => l.getD j false) i := by
    intro l i h1 hsz
    have hil := (Array.getElem?_eq_some_iff.1 h1).1
    funext j
    unfold Bits.put
    by_cases hij : j = i
    · subst hij; simp [hil]
    · rw [if_neg hij]; simp [Ne.symm hij]
  refine wp_region_any hm ?_
  refine wpAny_inv (I := fun l a' w => Shutd .any ops (fun j => l.getD j false) ∧ I a (fun j => l.getD j false) a' w) ?_ ?_ _ _ _ _ (by simp) (by simp) ?_
  · intro l a' w hsz hr ⟨_, hI⟩
    refine hend _ a' w (fun i hi => ?_) hI
    have := ready_nil_all hb hsz hr i (by omega)
    simp only [Array.getD_eq_getD_getElem?, this, Option.getD_some]
  · intro i l a' w hsz hi ⟨hsh, hI⟩
    have h1 := ready_false hi
    have hlt : i < ops.size := by
      have := (Array.getElem?_eq_some_iff.1 h1).1
      omega
    obtain ⟨hun, oj, hoj, hall⟩ := mem_ready.1 hi
    have hw : ∀ d ∈ waits .any oj, (fun j => l.getD j false) d = true := fun d hd => by
      unfold waits at hd
      obtain ⟨e, he, rfl⟩ := List.mem_map.1 hd
      obtain ⟨he1, he2⟩ := List.mem_filter.1 he
      exact hall e (by simpa using he1) he2
    have hsh' : Shutd .any ops (Bits.put (fun j => l.getD j false) i) := fun j o hjo hbj d hd => by
      unfold Bits.put at hbj ⊢
      split
      · rfl
      · split at hbj
        · rename_i hji
          subst hji
          rw [hjo] at hoj
          cases hoj
          exact hw d hd
        · exact hsh j o hjo hbj d hd
    have h2 := hs i (by rw [← his]; simp; omega) (fun j => l.getD j false) a' w (by simp [h1])
      (fun d hd => by
        have := anc_true hb ha hsh' i hlt (by simp [Bits.put]) d hd
        unfold Bits.put at this
        split at this
        · rename_i hdi
          subst hdi
          exfalso
          have h3 := List.all_eq_true.1 (List.all_eq_true.1 ha d (by simpa using hlt)) d hd
          clear this
          have key : ∀ k, k < ops.size → ∀ d ∈ (ancs .any ops).getD k [], d < k := by
            intro k
            induction k using Nat.strongRecOn with
            | ind k ih =>
              intro hk d hd
              have h1 := List.all_eq_true.1 (List.all_eq_true.1 ha k (by simpa using hk)) d hd
              simp only [Array.getElem?_eq_getElem hk, Option.map_some, Option.getD_some] at h1
              obtain ⟨e, he, hed⟩ := List.any_eq_true.1 h1
              have h2 := List.all_eq_true.1 hb k (by simpa using hk)
              simp only [Array.getElem?_eq_getElem hk, Option.map_some, Option.getD_some] at h2
              have h3 := of_decide_eq_true (List.all_eq_true.1 h2 _ he)
              rcases Bool.or_eq_true _ _ ▸ hed with h | h
              · rw [← eq_of_beq h]; exact h3
              · have := ih e h3 (by omega) d (by simpa using h); omega
          have := key d hlt d hd
          omega
        · exact this)
      (fun j hj hjs => by
        cases hbj : (fun j => l.getD j false) j with
        | false => exact hbj
        | true =>
          have := anc_true hb ha hsh j hjs hbj i hj
          simp [h1] at this) hI
    refine wpOp_mono (fun a'' w' h => ?_) h2
    have he := hbits l i h1 hsz
    show Shutd .any ops (fun j => (l.setIfInBounds i true).getD j false) ∧ I a (fun j => (l.setIfInBounds i true).getD j false) a'' w'
    rw [he]; exact ⟨hsh', h⟩
  · have he : (fun j => (Array.replicate ops.size false).getD j false) = fun _ => false := by
      funext j
      by_cases hj : j < ops.size <;> simp [hj]
    show Shutd .any ops (fun j => (Array.replicate ops.size false).getD j false) ∧ I a (fun j => (Array.replicate ops.size false).getD j false) a w.drew
    rw [he]
    exact ⟨fun _ _ _ h => Bool.noConfusion h, h0⟩
end
end Go.X
/- A region that draws its order, walked once: each operation over slots (a function), an invariant over what has come up. -/
namespace Go.X
open Go Go.RowKit
/-- What the slots hold. -/
abbrev Slots := Nat → Value
def Slots.eval (f : Slots) : Operand → Value
  | .tmp t => f t
  | .const v => v
  | .global g => .pointer (some ⟨g, 0, none⟩)
  | .func f => .func (.func f) #[] #[]
def Slots.put (f : Slots) (d : Option Tmp) (v : Value) : Slots :=
  match d with
  | some d => fun t => if t = d then v else f t
  | none => f
def Slots.of (a : Act) : Slots := fun t => a.tmps.getD t undef
theorem Slots.eval_of (a : Act) : (Slots.of a).eval = a.eval := funext fun x => by cases x <;> rfl
theorem Slots.of_put (a : Act) (d : Option Tmp) (v : Value) (h : ∀ t, d = some t → t < a.tmps.size) : Slots.of (a.put d v) = (Slots.of a).put d v := by
  funext t
  cases d with
  | none => rfl
  | some d =>
    have hd := h d rfl
    show (a.tmps.setIfInBounds d v).getD t undef = if t = d then v else a.tmps.getD t undef
    by_cases e : t = d
    · subst e; simp [hd]
    · rw [if_neg e]; simp [Ne.symm e]
/-- What a guard's operation told. -/
def told (ops : Array Oper) (f : Slots) (j : Nat) : Option Bool :=
  match (ops[j]?).bind (·.dst) with
  | some t => match f t with
    | .bool b => some b
    | _ => none
  | none => none
theorem told_of (ops : Array Oper) (a : Act) (j : Nat) : told ops (Slots.of a) j = yielded ops a.tmps j := by
  unfold told yielded
  cases (ops[j]?).bind (·.dst) with
  | none => rfl
  | some t =>
    simp only [Option.bind_some, Slots.of]
    rcases Nat.lt_or_ge t a.tmps.size with h | h
    · simp only [Array.getD_eq_getD_getElem?, Array.getElem?_eq_getElem h, Option.getD_some]
      cases a.tmps[t] <;> rfl
    · simp only [Array.getD_eq_getD_getElem?, Array.getElem?_eq_none h, Option.getD_none]
      rfl
/-- The slots' new contents, laid into a frame. -/
def Act.puts (a : Act) (f : Slots) : List Tmp → Act
  | [] => a
  | t :: ts => Act.puts (a.put (some t) (f t)) f ts
theorem Act.puts_defers (f : Slots) : ∀ (ts : List Tmp) (a : Act), (Act.puts a f ts).defers = a.defers
  | [], _ => rfl
  | _ :: ts, _ => (Act.puts_defers f ts _).trans rfl
theorem Act.puts_size (f : Slots) : ∀ (ts : List Tmp) (a : Act), (Act.puts a f ts).tmps.size = a.tmps.size
  | [], _ => rfl
  | _ :: ts, _ => (Act.puts_size f ts _).trans (by simp [Act.put])
theorem Act.puts_get (f : Slots) : ∀ (ts : List Tmp) (a : Act) (t : Nat), t < a.tmps.size → (Act.puts a f ts).tmps[t]? = if t ∈ ts then some (f t) else a.tmps[t]?
  | [], _, _, _ => by simp [Act.puts]
  | s :: ts, a, t, h => by
    rw [Act.puts, Act.puts_get f ts _ t (by simpa [Act.put] using h)]
    by_cases h1 : t ∈ ts
    · rw [if_pos h1, if_pos (List.mem_cons_of_mem _ h1)]
    · rw [if_neg h1]
      by_cases h2 : t = s
      · subst h2; simp [Act.put, h]
      · rw [if_neg (by simp [h1, h2])]
        simp [Act.put, Ne.symm h2]
theorem Act.eq_puts {a a' : Act} (ts : List Tmp) (h1 : a'.defers = a.defers) (h2 : a'.tmps.size = a.tmps.size) (h3 : ∀ t, t ∉ ts → Slots.of a' t = Slots.of a t) : a' = Act.puts a (Slots.of a') ts := by
  have e : a'.tmps = (Act.puts a (Slots.of a') ts).tmps := by
    apply Array.ext_getElem?
    intro t
    rcases Nat.lt_or_ge t a.tmps.size with h | h
    · rw [Act.puts_get _ _ _ _ h]
      by_cases ht : t ∈ ts
      · rw [if_pos ht]; simp [Slots.of, h, h2]
      · rw [if_neg ht]
        have := h3 t ht
        simp only [Slots.of, Array.getD_eq_getD_getElem?, Array.getElem?_eq_getElem h, Array.getElem?_eq_getElem (h2.symm ▸ h : t < a'.tmps.size), Option.getD_some] at this
        rw [Array.getElem?_eq_getElem h, Array.getElem?_eq_getElem (h2.symm ▸ h : t < a'.tmps.size), this]
    · rw [Array.getElem?_eq_none (by omega), Array.getElem?_eq_none (by rw [Act.puts_size]; omega)]
  have d : a'.defers = (Act.puts a (Slots.of a') ts).defers := by rw [h1, Act.puts_defers]
  cases a' with
  | mk x y =>
    generalize hb : Act.puts a (Slots.of ⟨x, y⟩) ts = b at *
    cases b
    simp_all

section
variable {P : Program} {ops : Array Oper} {Q : Exit → Act → World → Prop}
/-- One operation over slots: what it leaves, and the world behind it. -/
def Does (P : Program) (op : Op) (ty : TypeId) (ρ : Operand → Value) (w : World) (K : Value → World → Prop) : Prop :=
  match (execOp ρ ⟨none, op, ty, "", #[], none⟩).run P w with
  | .ok (.value v) w' => K v w'
  | .ok .skip w' => K undef w'
  | .ok (.enter f args) w' => Calls P f args w' fun e w'' => ∃ v, e = .returned v ∧ K v w''
  | _ => False
theorem Does.wp {o : Oper} {a : Act} {w : World} {K : Value → World → Prop} (h : Does P o.op o.type (Slots.of a).eval w K) : Oper.wp P o a w (fun a' w' => ∃ v, a' = a.put o.dst v ∧ K v w') Q := by
  rw [Slots.eval_of] at h
  unfold Does at h
  unfold Oper.wp
  have e : execOp a.eval o = execOp a.eval ⟨none, o.op, o.type, "", #[], none⟩ := by
    cases o with
    | mk d op ty p af g => cases op <;> rfl
  rw [e]
  revert h
  generalize (execOp a.eval ⟨none, o.op, o.type, "", #[], none⟩).run P w = r
  intro h
  cases r with
  | ok n w' =>
    cases n <;> simp only [Oper.upon] at h ⊢
    case value v => exact ⟨v, rfl, h⟩
    case skip => exact ⟨_, rfl, h⟩
    case enter f args =>
      refine Calls.mono h fun e w'' he => ?_
      obtain ⟨v, rfl, hk⟩ := he
      exact ⟨v, rfl, hk⟩
  | halt x w' => cases x <;> exact h.elim

/-- One step for each operation: those ahead of it have come up, it and those behind it have not. -/
def SSteps (P : Program) (ops : Array Oper) (I : Bits → Slots → World → Prop) (is : List Nat) : Prop :=
  ∀ i ∈ is, ∀ (o : Oper), ops[i]? = some o → ∀ (b : Bits) (f : Slots) (w : World), b i = false → (∀ d ∈ (ancs .any ops).getD i [], b d = true) → (∀ j, i ∈ (ancs .any ops).getD j [] → j < ops.size → b j = false) → I b f w →
    if Region.wanted o (told ops f) = true then Does P o.op o.type f.eval w (fun v w' => I (b.put i) (f.put o.dst v) w') else I (b.put i) (f.put o.dst undef) w
theorem SSteps.nil {I : Bits → Slots → World → Prop} : SSteps P ops I [] := fun _ h => by cases h
/-- An operation without a guard. -/
theorem SSteps.cons {I : Bits → Slots → World → Prop} {i : Nat} {op : Op} {ty : TypeId} {dst : Option Tmp} {pos : String} {af : Array Edge} {ds js is : List Nat} (ho : ops[i]? = some ⟨dst, op, ty, pos, af, none⟩) (hd : (ancs .any ops).getD i [] = ds)
    (hj : ((List.range ops.size).filter fun j => ((ancs .any ops).getD j []).contains i) = js)
    (h : ∀ (b : Bits) (f : Slots) (w : World), b i = false → (∀ d ∈ ds, b d = true) → (∀ j ∈ js, b j = false) → I b f w → Does P op ty f.eval w (fun v w' => I (b.put i) (f.put dst v) w'))
    (hs : SSteps P ops I is) : SSteps P ops I (i :: is) := fun j hj' o ho' b f w h1 h2 h3 h4 => by
  rcases List.mem_cons.1 hj' with rfl | hj'
  · rw [ho] at ho'
    cases ho'
    have hw : Region.wanted (⟨dst, op, ty, pos, af, none⟩ : Oper) (told ops f) = true := rfl
    rw [if_pos hw]
    exact h b f w h1 (fun d hd' => h2 d (by rw [hd]; exact hd')) (fun k hk => by
      rw [← hj] at hk
      obtain ⟨k1, k2⟩ := List.mem_filter.1 hk
      exact h3 k (by simpa using k2) (by simpa using k1)) h4
  · exact hs j hj' o ho' b f w h1 h2 h3 h4
def dstsIn (ops : Array Oper) (n : Nat) : Bool := ops.all fun o => match o.dst with | some t => decide (t < n) | none => true
def dsts (ops : Array Oper) : List Tmp := ops.toList.filterMap (·.dst)
theorem wp_region_slots {id : Nat} {a : Act} {w : World} (I : Bits → Slots → World → Prop) (n : Nat) (is : List Nat) (ts : List Tmp) (m : Nat) (hm : P.follows .mixedOrders = true) (hn : ops.size = n) (his : List.range n = is) (hts : dsts ops = ts)
    (hb : backward .any ops = true) (ha : ancOk .any ops (ancs .any ops) = true) (hz : a.tmps.size = m) (hdst : dstsIn ops m = true)
    (h0 : I (fun _ => false) (Slots.of a) w.drew) (hs : SSteps P ops I is)
    (hend : ∀ b f w', (∀ i, i < n → b i = true) → I b f w' → (∀ t, t ∉ ts → f t = Slots.of a t) → Q .normal (Act.puts a f ts) w') :
    (Code.region id ops true).wp P Q a w := by
  subst hz
  have hd : ∀ (i : Nat) (o : Oper), ops[i]? = some o → ∀ t, o.dst = some t → t < a.tmps.size ∧ t ∈ ts := fun i o hi t ht => by
    obtain ⟨hlt, rfl⟩ := Array.getElem?_eq_some_iff.1 hi
    have h1 := Array.all_eq_true.1 hdst i hlt
    rw [ht] at h1
    refine ⟨of_decide_eq_true h1, ?_⟩
    rw [← hts]
    exact List.mem_filterMap.2 ⟨ops[i], by simp, ht⟩
  refine wp_region_inv (I := fun a b a' w => I b (Slots.of a') w ∧ a'.defers = a.defers ∧ a'.tmps.size = a.tmps.size ∧ ∀ t, t ∉ ts → Slots.of a' t = Slots.of a t) n is hm hn his hb ha ⟨h0, rfl, rfl, fun _ _ => rfl⟩ ?_ ?_
  · intro i hi b a' w1 h1 h2 h3 ⟨h4, h5, h6, h7⟩
    have hlt : i < ops.size := by rw [← his] at hi; rw [hn]; simpa using hi
    have ho : ops[i]? = some ops[i] := Array.getElem?_eq_getElem hlt
    have hst := hs i hi _ ho b (Slots.of a') w1 h1 h2 h3 h4
    have hput : ∀ v w2, I (b.put i) ((Slots.of a').put ops[i].dst v) w2 → I (b.put i) (Slots.of (a'.put ops[i].dst v)) w2 ∧ (a'.put ops[i].dst v).defers = a.defers ∧ (a'.put ops[i].dst v).tmps.size = a.tmps.size ∧ ∀ t, t ∉ ts → Slots.of (a'.put ops[i].dst v) t = Slots.of a t := by
      intro v w2 hI
      have e := Slots.of_put a' ops[i].dst v (fun t ht => h6 ▸ (hd i _ ho t ht).1)
      refine ⟨by rw [e]; exact hI, ?_, ?_, fun t ht => ?_⟩
      · cases ops[i].dst <;> exact h5
      · cases hq : ops[i].dst <;> simp [Act.put, h6]
      · rw [e]
        cases hq : ops[i].dst with
        | none => exact h7 t ht
        | some d =>
          have : t ≠ d := fun e => ht (e ▸ (hd i _ ho d hq).2)
          simp only [Slots.put, if_neg this]
          exact h7 t ht
    refine wpOp_step ho fun K' hK => ?_
    have hw : Region.wanted ops[i] (yielded ops a'.tmps) = Region.wanted ops[i] (told ops (Slots.of a')) := by
      congr 1
      exact funext fun j => (told_of ops a' j).symm
    rw [hw]
    split
    · rename_i hwt
      rw [if_pos hwt] at hst
      refine Oper.wp_mono ?_ hst.wp
      rintro a2 w2 ⟨v, rfl, hI⟩
      exact hK _ _ (hput v w2 hI)
    · rename_i hwt
      rw [if_neg hwt] at hst
      exact hK _ _ (hput _ _ hst)
  · intro b a' w' hall ⟨h4, h5, h6, h7⟩
    have := hend b (Slots.of a') w' hall h4 h7
    rwa [← Act.eq_puts ts h5 h6 h7] at this

variable {ty : TypeId} {ρ : Operand → Value} {w : World} {K : Value → World → Prop}
theorem Does.move {x : Operand} (h : K (ρ x) w) : Does P (.move x) ty ρ w K := h
theorem Does.assign {x : Operand} (h : K (ρ x) w) : Does P (.assign x) ty ρ w K := h
theorem Does.extract {x : Operand} {i : Nat} {vs : Array Value} {v : Value} (hx : ρ x = .tuple vs) (hv : vs[i]? = some v) (h : K v w) : Does P (.extract x i) ty ρ w K := by
  simp only [Does, execOp, hx, Instr.extract, hv, Sem.run_bind, Sem.run_pure, Result.andThen_ok]
  exact h
theorem Does.load {t : TypeId} {x : Operand} {v : Value} (hr : (Instr.loadAt t (ρ x)).run P w = .ok v w) (h : K v w) : Does P (.load t x) ty ρ w K := by
  simp only [Does, execOp, hr, Sem.run_bind, Sem.run_pure, Result.andThen_ok]; exact h
theorem Does.fieldAddr {s : TypeId} {x : Operand} {i : Nat} {v : Value} (hr : (Instr.fieldAt s (ρ x) i).run P w = .ok v w) (h : K v w) : Does P (.fieldAddr s x i) ty ρ w K := by
  simp only [Does, execOp, hr, Sem.run_bind, Sem.run_pure, Result.andThen_ok]; exact h
theorem Does.alloc {e : TypeId} {z : Value} (hz : (P.info? e).map (·.zero) = some (some z)) (h : ∀ w', Blk w' w.heap.size e z.cells.toList → Below w.heap.size w w' → K (.pointer (some ⟨w.heap.size, 0, none⟩)) w') : Does P (.alloc e) ty ρ w K := by
  have hr : (Instr.alloc e true (.tuple #[])).run P w = .ok (.pointer (some ⟨w.heap.size, 0, none⟩)) (w.alloc (.cells z.cells e)) := by
    have hz' : (zeroValue e).run P w = .ok z w := by
      cases hq : P.info? e with
      | none => simp [hq] at hz
      | some i => simp [hq] at hz; simp [zeroValue, typeInfo, hq, hz]
    simp [Instr.alloc, hz', newVar, newRow]
  simp only [Does, execOp, hr, Sem.run_bind, Sem.run_pure, Result.andThen_ok]
  exact h _ (Blk.alloc w _ _) ((Below.refl _ _).alloc (Nat.le_refl _) _)
theorem Does.call {f : FuncId} {xs : Array Operand} {ts : Array TypeId} {args : Array Value} (hx : xs.map ρ = args) (hf : ρ (.func f) = .func (.func f) #[] #[]) (hc : (callFunc f args).run P w = .ok (.enter f args) w)
    (h : Calls P f args w fun e w' => ∃ v, e = .returned v ∧ K v w') : Does P (.call { callee := .value (.func f), args := xs, argTypes := ts }) ty ρ w K := by
  simp only [Does, execOp, resolve, hf, hx, Deferred.ofValue, Sem.run_bind, Sem.run_pure, Result.andThen_ok, invoke]
  simp [hc]
  exact h
theorem Does.store {t : TypeId} {x y : Operand} {b off : Nat} {v : Value} {cur : List Value} {e : TypeId} (hx : ρ x = .pointer (some ⟨b, off, none⟩)) (hy : ρ y = v)
    (hg : Blk w b e cur) (hi : (P.info? t).map (·.size) = some v.cells.size) (hfit : off + v.cells.size ≤ cur.length) (h1 : ∀ u ∈ v.cells.toList, u.oneCell' = true)
    (h : ∀ w', Blk w' b e (splice cur off v.cells.toList) → w.grownBy w' (some b) → K undef w') : Does P (.store t x y) ty ρ w K := by
  have hst := run_storeCells_at P b off e v.cells.toList 0 cur.toArray w hg (by simpa using hfit) h1
  have hsp : (splice cur off v.cells.toList).toArray = (cur.take off ++ v.cells.toList ++ cur.drop (off + v.cells.toList.length)).toArray := by simp [splice]
  have hrun : (Instr.storeAt t (.pointer (some ⟨b, off, none⟩)) v).run P w = .ok () (w.setRow b (splice cur off v.cells.toList).toArray) := by
    cases hq : P.info? t with
    | none => simp [hq] at hi
    | some i =>
      have hs : i.size = v.cells.size := by simpa [hq] using hi
      simp only [Nat.add_zero] at hst
      rw [hsp]
      simp only [Instr.storeAt, Instr.sureAddr, Sem.run_bind, Sem.run_pure, Result.andThen_ok]
      simp [storeVar, sizeOf, typeInfo, hq, hs, hst]
  simp only [Does, execOp, hx, hy, hrun, Sem.run_bind, Sem.run_pure, Result.andThen_ok]
  exact h _ (setRow_heap w b _ _ e _ hg) (grown_setRow b _)
theorem no {x : Bool} {p : Prop} (h : x = false) (h' : x = true) : p := by rw [h] at h'; cases h'
theorem tf {p : Prop} (h : true = false) : p := by cases h
end
end Go.X
/- Steps of drawn regions: more of them. -/
namespace Go.X
open Go Go.RowKit
theorem But.drewN_refl {S : Nat → Prop} (w : World) : But S w w.drew := ⟨rfl, rfl, rfl, Nat.le_refl _, fun _ _ _ => rfl⟩
section
variable {P : Program} {ty : TypeId} {ρ : Operand → Value} {w : World} {K : Value → World → Prop}
end
end Go.X
namespace Go.X
open Go Go.RowKit
theorem splice_one (L : List Value) (k : Nat) (v : Value) (h : k < L.length) : splice L k [v] = L.set k v := by
  simp only [splice, List.length_singleton]
  rw [List.set_eq_take_append_cons_drop, if_pos h]
  simp
section
variable {P : Program} {ty : TypeId} {ρ : Operand → Value} {w : World} {K : Value → World → Prop}
end
end Go.X
/- 'append(v, x...)', v a row of the call's own, x whatever is read (nil, too): in a walk, and as a step of a drawn region. -/
namespace Go.X
open Go Go.RowKit
variable {P : Program}
open Go.Proofs.YtplknppmaepinaaW.PrintWords in
theorem appended_refl (w : World) (e : TypeId) (size : Nat) (v : Value) (n : Nat) : Appended w w e size v v n := ⟨⟨rfl, rfl, rfl, Nat.le_refl _, fun _ _ _ => rfl⟩, Or.inl rfl, fun _ _ _ _ _ _ h _ => h⟩
theorem run_append_any (w : World) (base : Nat) (t ty e : TypeId) (i : TypeInfo) (z : Value) (size bytes : Nat) (ht : P.underlying t = some (.slice e)) (hi : P.info? e = some i) (hz : i.zero = some z)
    (hsize : i.size = size) (hby : i.bytes = bytes) (hzs : z.cells.size = size) (hpos : 0 < size)
    (v : Value) (n : Nat) (xs : List Value) (hown : w.ownsRow base e size v n xs)
    (Ab : Option Addr) (m c : Nat) (news : List Value) (hl : news.length = m * size) (hcells : news ≠ [] → ∃ ad, Ab = some ad ∧ ∀ j u, news[j]? = some u → w.cell? (ad.add j) = some u) (h1 : ∀ u ∈ news, u.oneCell' = true)
    (h63 : n + m ≤ maxLen) (hbytes : (n + m) * bytes ≤ 140737488355328) (hbase : base ≤ w.heap.size) :
    ∃ v' w', (Builtin.append_ #[t, t] ty #[v, .slice Ab m c]).run P w = .ok v' w' ∧ w'.ownsRow base e size v' (n + m) (xs ++ news) ∧ Appended w w' e size v v' n := by
  cases Ab with
  | none =>
    obtain rfl : news = [] := Classical.byContradiction fun hne => by obtain ⟨ad, e, _⟩ := hcells hne; cases e
    obtain rfl : m = 0 := by
      rcases Nat.eq_zero_or_pos m with h0 | h0
      · exact h0
      · have := Nat.mul_pos h0 hpos; simp only [List.length_nil] at hl; omega
    refine ⟨v, w, ?_, by simpa using hown, appended_refl _ _ _ _ _⟩
    rcases hown.2 with ⟨rfl, rfl⟩ | ⟨g, cap, cur, rfl, _, hg, hnc, hcm, hcs, htake⟩
    · simp [Builtin.append_, run_underlying ht, sizeOf, typeInfo, hi, Builtin.lenOf, Builtin.firstCells]
    · simp [Builtin.append_, run_underlying ht, sizeOf, typeInfo, hi, Builtin.lenOf, Builtin.firstCells, loadCells, hnc, storeCells]
  | some ad =>
    have hc : ∀ j u, news[j]? = some u → w.cell? (ad.add j) = some u := fun j u hu => by
      obtain ⟨ad', q1, q2⟩ := hcells (by rintro rfl; simp at hu)
      cases q1
      exact q2 j u hu
    exact run_append_x (P := P) w base t ty e i z size bytes ht hi hz hsize hby hzs v n xs hown ad m c news hl hc h1 h63 hbytes hbase
section
variable {w : World} {ops : Array Oper} {rest : List Oper} {o : Oper} {a : Act} {Q : Exit → Act → World → Prop}
theorem appendAny (hgd : o.guard = none) (s x : Operand) (t e : TypeId) (ho : o.op = .call { callee := .builtin .append, args := #[s, x], argTypes := #[t, t] })
    (base : Nat) (z : Value) (size bytes : Nat) (ht : P.underlying t = some (.slice e)) (hinfo : (P.info? e).map (fun i => (i.zero, i.size, i.bytes)) = some (some z, size, bytes)) (hzs : z.cells.size = size) (hpos : 0 < size)
    (v : Value) (n : Nat) (xs : List Value) (hs : a.eval s = v) (hown : w.ownsRow base e size v n xs)
    (Ab : Option Addr) (m c : Nat) (news : List Value) (hx : a.eval x = .slice Ab m c) (hl : news.length = m * size)
    (hcells : news ≠ [] → ∃ ad, Ab = some ad ∧ ∀ j u, news[j]? = some u → w.cell? (ad.add j) = some u) (h1 : ∀ u ∈ news, u.oneCell' = true)
    (h63 : n + m ≤ maxLen) (hbytes : (n + m) * bytes ≤ 140737488355328) (hbase : base ≤ w.heap.size)
    (h : ∀ v' w', w'.ownsRow base e size v' (n + m) (xs ++ news) → Appended w w' e size v v' n → wpList P ops Q rest (a.put o.dst v') w') :
    wpList P ops Q (o :: rest) a w := by
  refine wpList_plain hgd fun K hK => ?_
  obtain ⟨i, hi, hzz⟩ := Option.map_eq_some_iff.1 hinfo
  simp only [Prod.mk.injEq] at hzz
  obtain ⟨hz0, hz1, hz2⟩ := hzz
  obtain ⟨v', w', hr, h2, h3⟩ := run_append_any (P := P) w base t o.type e i z size bytes ht hi hz0 hz1 hz2 hzs hpos v n xs hown Ab m c news hl hcells h1 h63 hbytes hbase
  unfold Oper.wp execOp
  simp only [ho, resolve, invoke, builtin, Sem.run_bind, Sem.run_pure, Result.andThen_ok, List.map_toArray, List.map_cons, List.map_nil, hs, hx, hr]
  exact hK _ _ (h v' w' h2 h3)
end
section
variable {ty : TypeId} {ρ : Operand → Value} {w : World} {K : Value → World → Prop}
theorem Does.appendAny {s x : Operand} {t e : TypeId} (base : Nat) (z : Value) (size bytes : Nat) (ht : P.underlying t = some (.slice e)) (hinfo : (P.info? e).map (fun i => (i.zero, i.size, i.bytes)) = some (some z, size, bytes)) (hzs : z.cells.size = size) (hpos : 0 < size)
    {v : Value} {n : Nat} {xs : List Value} (hs : ρ s = v) (hown : w.ownsRow base e size v n xs)
    {Ab : Option Addr} {m c : Nat} {news : List Value} (hx : ρ x = .slice Ab m c) (hl : news.length = m * size) (hcells : news ≠ [] → ∃ ad, Ab = some ad ∧ ∀ j u, news[j]? = some u → w.cell? (ad.add j) = some u) (h1 : ∀ u ∈ news, u.oneCell' = true)
    (h63 : n + m ≤ maxLen) (hbytes : (n + m) * bytes ≤ 140737488355328) (hbase : base ≤ w.heap.size)
    (h : ∀ v' w', w'.ownsRow base e size v' (n + m) (xs ++ news) → Appended w w' e size v v' n → K v' w') : Does P (.call { callee := .builtin .append, args := #[s, x], argTypes := #[t, t] }) ty ρ w K := by
  obtain ⟨i, hi, hzz⟩ := Option.map_eq_some_iff.1 hinfo
  simp only [Prod.mk.injEq] at hzz
  obtain ⟨hz0, hz1, hz2⟩ := hzz
  obtain ⟨v', w', hr, h2, h3⟩ := run_append_any (P := P) w base t ty e i z size bytes ht hi hz0 hz1 hz2 hzs hpos v n xs hown Ab m c news hl hcells h1 h63 hbytes hbase
  simp only [Does, execOp, resolve, invoke, builtin, Sem.run_bind, Sem.run_pure, Result.andThen_ok, List.map_toArray, List.map_cons, List.map_nil, hs, hx, hr]
  exact h v' w' h2 h3
end
section
variable {ops : Array Oper} {o : Oper} {a : Act} {w : World} {K : Act → World → Prop} {Q : Exit → Act → World → Prop} {E : Prop}
theorem step_appendAny (hgd : o.guard = none) (s x : Operand) (t e : TypeId) (ho : o.op = .call { callee := .builtin .append, args := #[s, x], argTypes := #[t, t] })
    (base : Nat) (z : Value) (size bytes : Nat) (ht : P.underlying t = some (.slice e)) (hinfo : (P.info? e).map (fun i => (i.zero, i.size, i.bytes)) = some (some z, size, bytes)) (hzs : z.cells.size = size) (hpos : 0 < size)
    (v : Value) (n : Nat) (xs : List Value) (hs : a.eval s = v) (hown : w.ownsRow base e size v n xs)
    (Ab : Option Addr) (m c : Nat) (news : List Value) (hx : a.eval x = .slice Ab m c) (hl : news.length = m * size)
    (hcells : news ≠ [] → ∃ ad, Ab = some ad ∧ ∀ j u, news[j]? = some u → w.cell? (ad.add j) = some u) (h1 : ∀ u ∈ news, u.oneCell' = true)
    (h63 : n + m ≤ maxLen) (hbytes : (n + m) * bytes ≤ 140737488355328) (hbase : base ≤ w.heap.size)
    (h : ∀ v' w', w'.ownsRow base e size v' (n + m) (xs ++ news) → Appended w w' e size v v' n → K (a.put o.dst v') w') :
    if Region.wanted o (yielded ops a.tmps) = true then Oper.wp P o a w K Q else E := by
  have hw : Region.wanted o (yielded ops a.tmps) = true := by simp [Region.wanted, hgd]
  rw [if_pos hw]
  obtain ⟨i, hi, hzz⟩ := Option.map_eq_some_iff.1 hinfo
  simp only [Prod.mk.injEq] at hzz
  obtain ⟨hz0, hz1, hz2⟩ := hzz
  obtain ⟨v', w', hr, h2, h3⟩ := run_append_any (P := P) w base t o.type e i z size bytes ht hi hz0 hz1 hz2 hzs hpos v n xs hown Ab m c news hl hcells h1 h63 hbytes hbase
  unfold Oper.wp execOp
  simp only [ho, resolve, invoke, builtin, Sem.run_bind, Sem.run_pure, Result.andThen_ok, List.map_toArray, List.map_cons, List.map_nil, hs, hx, hr]
  exact h v' w' h2 h3
end
/-- The cells of a row, where they lie. -/
theorem own_news {w : World} {base : Nat} {e : TypeId} {size n c : Nat} {A : Option Addr} {xs : List Value} (h : w.ownsRow base e size (.slice A n c) n xs) : xs ≠ [] → ∃ ad, A = some ad ∧ ∀ j u, xs[j]? = some u → w.cell? (ad.add j) = some u := by
  intro hne
  rcases h.2 with ⟨h1, h2⟩ | ⟨g, cap, cur, h1, _⟩
  · subst h2
    exact absurd (List.eq_nil_of_length_eq_zero (by simpa using h.1)) hne
  · cases h1
    exact ⟨_, rfl, h.cells rfl⟩
/-- What a row that is read holds, cell by cell (bytes). -/
theorem own_low {w : World} {b b' n size : Nat} {e : TypeId} {v : Value} {xs : List Value} (h : w.ownsRow b e size v n xs) (hb : b' ≤ b) : w.ownsRow b' e size v n xs := by
  refine ⟨h.1, ?_⟩
  rcases h.2 with h1 | ⟨g, cap, cur, rfl, h1, h2⟩
  · exact .inl h1
  · exact .inr ⟨g, cap, cur, rfl, Nat.le_trans hb h1, h2⟩
theorem own_empty (w : World) (e : TypeId) (size : Nat) : (w.alloc (.cells #[] e)).ownsRow w.heap.size e size (.slice (some ⟨w.heap.size, 0, none⟩) 0 0) 0 [] :=
  ⟨by simp, .inr ⟨w.heap.size, 0, #[], rfl, Nat.le_refl _, heap_alloc_new w _, Nat.le_refl _, by simp [maxLen], by simp, by simp⟩⟩
end Go.X
namespace Go.Proofs.Ytplknppmaepinaa.F
open Go.RowKit Go.Proofs.YtplknppmaepinaaW.PrintWords Go.Proofs.YtplknppmaepinaaW.PrintLast Go.Proofs.YtplknppmaepinaaW.PrintMore
attribute [local go_sem] max2_int min2_int max_two min_two max_three min_three max_four min_four   -- for this text's walks alone
set_option linter.unusedVariables false
set_option linter.unusedSimpArgs false

/-! ### dowellaw01_weight: function 8 -/
def dowellaw01_weight.l0 : Nat → List (S73) → Int → Int → Option (Int)
  | 0, _, _, _ => none
  | k + 1, x0, x3, x4 => if x4 < (x0.length : Int) then (if x3 < 134217728 then (if 0 ≤ x4 then (dowellaw01_weight.l0 k x0 (wrap64 (x3 + (wrap64 (1 + (((rd_T73 x0 x4).f1).length : Int))))) (wrap64 (x4 + 1))) else (none)) else (some x3)) else (some x3)
def dowellaw01_weight.f (k : Nat) (l0 : List (S73)) : Option (Int) := dowellaw01_weight.l0 k l0 0 0
set_option maxHeartbeats 8000000 in
set_option maxRecDepth 100000 in
theorem dowellaw01_weight.calls (k : Nat) (A0 : Option Addr) (c0 : Nat) (l0 : List (S73)) (r : Int) (w : World) (hr0 : Kd.C k73 w A0 l0.length l0) (hc0 : l0.length ≤ c0) (h : dowellaw01_weight.f k l0 = some r) :
    Calls Try.prog 8 #[.slice A0 l0.length c0] w fun e w' => e = .returned (.int .i64 r) ∧ Drawn0 w w' := by
  have HR0 := Aside0.mk hr0
  have HC0 := Aside0.mk hc0
  clear hr0 hc0
  have H : (dowellaw01_weight.l0 k l0 0 0) = some r := h
  clear h
  have H' := Aside0.mk H
  clear H
  go_enter Try.func8, Try.ntmps8
  go_wp2
  go_loopg [3, 4] k (fun kq v3 v4 w' => ∃ (x3_1 : Int) (x4_1 : Int), v3 = .int .i64 x3_1 ∧ v4 = .int .i64 x4_1 ∧ Aside0 (dowellaw01_weight.l0 kq l0 x3_1 x4_1 = some r) ∧ Aside0 (kq ≤ k) ∧ Drawn0 w w')
  case atStart => exact ⟨(0), (0), (by first | rfl | (simp; done) | (simp [*]; done)), (by first | rfl | (simp; done) | (simp [*]; done)), H', ⟨Nat.le_refl _⟩, by repeat (first | exact Drawn0.refl _ | apply Drawn0.step)⟩
  case round =>
    clear H'
    obtain ⟨x3_1, x4_1, rfl, rfl, HA, HK1, ⟨m1, rfl⟩⟩ := hrel
    cases gk with
    | zero => exact absurd HA.out (by simp [dowellaw01_weight.l0])
    | succ k1 =>
      have H := HA.out
      clear HA
      simp only [dowellaw01_weight.l0] at H
      by_cases c2 : x4_1 < (l0.length : Int)
      · rw [if_pos c2] at H
        have c2b0 : decide (x4_1 < (l0.length : Int)) = true := decide_eq_true c2
        clear c2
        by_cases c3 : x3_1 < 134217728
        · rw [if_pos c3] at H
          have c3b0 : decide (x3_1 < 134217728) = true := decide_eq_true c3
          clear c3
          by_cases c4 : 0 ≤ x4_1
          · rw [if_pos c4] at H
            have c4b0 : decide (0 ≤ x4_1) = true := decide_eq_true c4
            clear c4
            have H' := Aside0.mk H
            clear H
            have p101 : 0 ≤ (x4_1 : Int) := of_decide_eq_true (by first | (with_reducible assumption) | assumption)
            have q101 : x4_1 < (l0.length : Int) := of_decide_eq_true (by first | (with_reducible assumption) | assumption)
            obtain ⟨ad101, A101_1, c101_1, e101, hx101_0, hx101_1, hl101_1, hi101_1⟩ := at_T73 HR0.out x4_1 p101 q101
            cases e101
            have HR101_1 := Aside0.mk hi101_1
            have HC101_1 := Aside0.mk hl101_1
            clear hi101_1 hl101_1
            replace p101 := eq_true p101
            replace q101 := eq_true q101
            go_wp2
            go_roundg k1
            case measure => have := HK1.out; omega
            case rel => exact ⟨(wrap64 (x3_1 + (wrap64 (1 + (((rd_T73 l0 x4_1).f1).length : Int))))), (wrap64 (x4_1 + 1)), (by first | rfl | (simp; done) | (simp [*]; done)), (by first | rfl | (simp; done) | (simp [*]; done)), H', ⟨by have := HK1.out; omega⟩, by repeat (first | exact Drawn0.refl _ | apply Drawn0.step)⟩
          · rw [if_neg c4] at H
            exact absurd H (by simp)
        · rw [if_neg c3] at H
          have c3b0 : decide (x3_1 < 134217728) = false := decide_eq_false c3
          clear c3
          obtain rfl := Option.some.inj H
          go_wp2
          go_ret
          exact ⟨by first | rfl | (simp; done) | (simp [*]; done), by repeat (first | exact Drawn0.refl _ | apply Drawn0.step)⟩
      · rw [if_neg c2] at H
        have c2b0 : decide (x4_1 < (l0.length : Int)) = false := decide_eq_false c2
        clear c2
        obtain rfl := Option.some.inj H
        go_wp2
        go_ret
        exact ⟨by first | rfl | (simp; done) | (simp [*]; done), by repeat (first | exact Drawn0.refl _ | apply Drawn0.step)⟩

/-! ### dowelbook_Bytes: function 21 -/
def dowelbook_Bytes.l0 : Nat → List Int → List Int → Int → Option (Bool)
  | 0, _, _, _ => none
  | k + 1, x0, x1, x5 => if x5 < (x0.length : Int) then (if 0 ≤ x5 then (if x5 < (x1.length : Int) then (if (rd x0 x5) = (rd x1 x5) then (dowelbook_Bytes.l0 k x0 x1 (wrap64 (x5 + 1))) else (some false)) else (none)) else (none)) else (some true)
def dowelbook_Bytes.f (k : Nat) (l0 : List Int) (l1 : List Int) : Option (Bool) := if (l0.length : Int) = (l1.length : Int) then (dowelbook_Bytes.l0 k l0 l1 0) else (some false)
set_option maxHeartbeats 8000000 in
set_option maxRecDepth 100000 in
theorem dowelbook_Bytes.calls (k : Nat) (A0 : Option Addr) (c0 : Nat) (l0 : List Int) (A1 : Option Addr) (c1 : Nat) (l1 : List Int) (r : Bool) (w : World) (hr0 : Kd.C (Kd.int .u8) w A0 l0.length l0) (hc0 : l0.length ≤ c0) (hr1 : Kd.C (Kd.int .u8) w A1 l1.length l1) (hc1 : l1.length ≤ c1) (h : dowelbook_Bytes.f k l0 l1 = some r) :
    Calls Try.prog 21 #[.slice A0 l0.length c0, .slice A1 l1.length c1] w fun e w' => e = .returned (.bool r) ∧ Drawn0 w w' := by
  have HR0 := Aside0.mk hr0
  have HC0 := Aside0.mk hc0
  clear hr0 hc0
  have HR1 := Aside0.mk hr1
  have HC1 := Aside0.mk hc1
  clear hr1 hc1
  have H : (if (l0.length : Int) = (l1.length : Int) then (dowelbook_Bytes.l0 k l0 l1 0) else (some false)) = some r := h
  clear h
  by_cases c3 : (l0.length : Int) = (l1.length : Int)
  · rw [if_pos c3] at H
    have c3b0 : ((l0.length : Int) == (l1.length : Int)) = true := beq_iff_eq.mpr c3
    have c3b1 : ((l0.length : Int) != (l1.length : Int)) = false := bne_eq_false_iff_eq.mpr c3
    have c3b2 : (l0.length == l1.length) = true := by first | simpa using c3 | (simp at c3 ⊢; omega)
    clear c3
    have H' := Aside0.mk H
    clear H
    go_enter Try.func21, Try.ntmps21
    go_wp2
    repeat (go_quiet (fail); try go_wp2)
    go_loopg [5] k (fun kq v5 w' => ∃ (x5_1 : Int), v5 = .int .i64 x5_1 ∧ Aside0 (dowelbook_Bytes.l0 kq l0 l1 x5_1 = some r) ∧ Aside0 (kq ≤ k) ∧ Drawn0 w w')
    case atStart => exact ⟨(0), (by first | rfl | (simp; done) | (simp [*]; done)), H', ⟨Nat.le_refl _⟩, by repeat (first | exact Drawn0.refl _ | apply Drawn0.step)⟩
    case round =>
      clear H'
      try clear c1
      try clear c2
      try clear p2
      try clear c3
      try clear c3b0
      try clear c3b1
      try clear c3b2
      obtain ⟨x5_1, rfl, HA, HK1, ⟨m1, rfl⟩⟩ := hrel
      cases gk with
      | zero => exact absurd HA.out (by simp [dowelbook_Bytes.l0])
      | succ k1 =>
        have H := HA.out
        clear HA
        simp only [dowelbook_Bytes.l0] at H
        by_cases c4 : x5_1 < (l0.length : Int)
        · rw [if_pos c4] at H
          have c4b0 : decide (x5_1 < (l0.length : Int)) = true := decide_eq_true c4
          clear c4
          by_cases c5 : 0 ≤ x5_1
          · rw [if_pos c5] at H
            have c5b0 : decide (0 ≤ x5_1) = true := decide_eq_true c5
            clear c5
            by_cases c6 : x5_1 < (l1.length : Int)
            · rw [if_pos c6] at H
              have c6b0 : decide (x5_1 < (l1.length : Int)) = true := decide_eq_true c6
              clear c6
              by_cases c7 : (rd l0 x5_1) = (rd l1 x5_1)
              · rw [if_pos c7] at H
                have c7b0 : ((rd l0 x5_1) == (rd l1 x5_1)) = true := beq_iff_eq.mpr c7
                have c7b1 : ((rd l0 x5_1) != (rd l1 x5_1)) = false := bne_eq_false_iff_eq.mpr c7
                clear c7
                have H' := Aside0.mk H
                clear H
                have p102 : 0 ≤ (x5_1 : Int) := of_decide_eq_true (by first | (with_reducible assumption) | assumption)
                have q102 : x5_1 < (l0.length : Int) := of_decide_eq_true (by first | (with_reducible assumption) | assumption)
                obtain ⟨ad102, e102, hx102_0⟩ := Kd.at_int HR0.out x5_1 p102 q102
                cases e102
                replace p102 := eq_true p102
                replace q102 := eq_true q102
                have p103 : 0 ≤ (x5_1 : Int) := of_decide_eq_true (by first | (with_reducible assumption) | assumption)
                have q103 : x5_1 < (l1.length : Int) := of_decide_eq_true (by first | (with_reducible assumption) | assumption)
                obtain ⟨ad103, e103, hx103_0⟩ := Kd.at_int HR1.out x5_1 p103 q103
                cases e103
                replace p103 := eq_true p103
                replace q103 := eq_true q103
                go_wp2
                repeat (go_quiet (fail); try go_wp2)
                go_roundg k1
                case measure => have := HK1.out; omega
                case rel => exact ⟨(wrap64 (x5_1 + 1)), (by first | rfl | (simp; done) | (simp [*]; done)), H', ⟨by have := HK1.out; omega⟩, by repeat (first | exact Drawn0.refl _ | apply Drawn0.step)⟩
              · rw [if_neg c7] at H
                have c7b0 : ((rd l0 x5_1) == (rd l1 x5_1)) = false := beq_eq_false_iff_ne.mpr c7
                have c7b1 : ((rd l0 x5_1) != (rd l1 x5_1)) = true := bne_iff_ne.mpr c7
                obtain rfl := Option.some.inj H
                have p102 : 0 ≤ (x5_1 : Int) := of_decide_eq_true (by first | (with_reducible assumption) | assumption)
                have q102 : x5_1 < (l0.length : Int) := of_decide_eq_true (by first | (with_reducible assumption) | assumption)
                obtain ⟨ad102, e102, hx102_0⟩ := Kd.at_int HR0.out x5_1 p102 q102
                cases e102
                replace p102 := eq_true p102
                replace q102 := eq_true q102
                have p103 : 0 ≤ (x5_1 : Int) := of_decide_eq_true (by first | (with_reducible assumption) | assumption)
                have q103 : x5_1 < (l1.length : Int) := of_decide_eq_true (by first | (with_reducible assumption) | assumption)
                obtain ⟨ad103, e103, hx103_0⟩ := Kd.at_int HR1.out x5_1 p103 q103
                cases e103
                replace p103 := eq_true p103
                replace q103 := eq_true q103
                go_wp2
                repeat (go_quiet (fail); try go_wp2)
                go_ret
                exact ⟨by first | rfl | (simp; done) | (simp [*]; done), by repeat (first | exact Drawn0.refl _ | apply Drawn0.step)⟩
            · rw [if_neg c6] at H
              exact absurd H (by simp)
          · rw [if_neg c5] at H
            exact absurd H (by simp)
        · rw [if_neg c4] at H
          have c4b0 : decide (x5_1 < (l0.length : Int)) = false := decide_eq_false c4
          clear c4
          obtain rfl := Option.some.inj H
          go_wp2
          repeat (go_quiet (fail); try go_wp2)
          go_ret
          exact ⟨by first | rfl | (simp; done) | (simp [*]; done), by repeat (first | exact Drawn0.refl _ | apply Drawn0.step)⟩
  · rw [if_neg c3] at H
    have c3b0 : ((l0.length : Int) == (l1.length : Int)) = false := beq_eq_false_iff_ne.mpr c3
    have c3b1 : ((l0.length : Int) != (l1.length : Int)) = true := bne_iff_ne.mpr c3
    have c3b2 : (l0.length == l1.length) = false := by first | simpa using c3 | (simp at c3 ⊢; omega)
    obtain rfl := Option.some.inj H
    go_enter Try.func21, Try.ntmps21
    go_wp2
    repeat (go_quiet (fail); try go_wp2)
    go_ret
    exact ⟨by first | rfl | (simp; done) | (simp [*]; done), by repeat (first | exact Drawn0.refl _ | apply Drawn0.step)⟩

/-! ### dowellaw01_sameFiles: function 10 -/

-- NOT PRINTED: function 36 (shelf_named)

-- NOT PRINTED: function 37 (slices_Clone_byte_byte)

-- NOT PRINTED: function 17 (shelf_New)

-- NOT PRINTED: function 44 (dowelbook_Lend)

-- NOT PRINTED: function 22 (dowellaw01_lent)


/-! ### dowelref01_Shelf_Size: function 34 -/

end Go.Proofs.Ytplknppmaepinaa.F
namespace Go.Proofs.Ytplknppmaepinaa.F
open Go.RowKit Go.Proofs.YtplknppmaepinaaW.PrintWords Go.Proofs.YtplknppmaepinaaW.PrintLast Go.Proofs.YtplknppmaepinaaW.PrintMore
attribute [local go_sem] max2_int min2_int max_two min_two max_three min_three max_four min_four   -- for this text's walks alone
set_option linter.unusedVariables false
set_option linter.unusedSimpArgs false

/-! ### dowelref01_Name: function 55 -/

end Go.Proofs.Ytplknppmaepinaa.F
/- A store into a block, as one step inside a region that draws its order. -/
namespace Go.X
open Go Go.RowKit
section
variable {P : Program} {ops : Array Oper} {o : Oper} {a : Act} {w : World} {K : Act → World → Prop} {Q : Exit → Act → World → Prop} {E : Prop}
end
end Go.X
