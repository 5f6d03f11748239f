/- Texts joined and shortened (wip/tools/shrink.py): ShKey, ShMem, ShLeaf, ShNamed, ShF, ShLend, ShLent, ShRef1, ShPut, ShRefNew, ShMap, ShNew, ShAns. -/
import Derived.Maps.OwnSet
import Derived.DeepKeys4
import Derived.Test.YtplknppmaepinaaQl1
import Derived.WalkKit
import Derived.Lib.Hide
import Derived.Lib.SliceRun
import Derived.Deep.RegionHeld3
import Derived.RegionTactic
import Derived.BigQuiet
import Derived.Carry
/- The keys of the troubles' map: a struct of two whole numbers. -/
namespace Go.Proofs.Ytplknppmaepinaa.S
open Go Go.RowKit Go.Maps Go.Proofs.YtplknppmaepinaaW.PrintWords Go.Proofs.Ytplknppmaepinaa.F

set_option maxRecDepth 100000 in
theorem laidOut : laidOutB Try.prog = true := by kernel_rfl
set_option maxRecDepth 100000 in
theorem row92 : (92 : TypeId) < Try.prog.types.size := of_decide_eq_true (by kernel_rfl)
theorem wide92 : (match Try.prog.underlying 92 with | some (.array _ _) | some (.struct _) => true | _ => false) = true := by kernel_rfl
set_option maxRecDepth 100000 in
theorem lawT : Keyed Try.prog 92 := Keyed.of_law (deep_law_laid laidOut (m := 2) (by omega) row92 (by kernel_rfl) wide92)
def tkey (c n : Int) : Lit := .string (keyBytes [.int .i64 c, .int .i64 n])
theorem st92 : ∃ fs : Array Field, Try.prog.underlying 92 = some (.struct fs) ∧ fs.toList.map (fun f => (f.type, f.offset, Try.prog.cellsOf f.type)) = [(3, 0, 1), (3, 1, 1)] ∧ fs.all (·.name != "_") = true :=
  ⟨_, Try.underlying92, by kernel_rfl, by kernel_rfl⟩
theorem size_types : ∃ m, Try.prog.types.size + 1 = m + 2 := ⟨Try.prog.types.size - 1, by have : (92 : Nat) < Try.prog.types.size := row92; omega⟩
theorem key92 : Try.prog.keyType 92 = true := by kernel_rfl
theorem form92 (a b : Value) : (Value.agg #[a, b]).formed Try.prog 92 = true := by
  have h : Try.prog.cellsOf 92 = 2 := by kernel_rfl
  obtain ⟨fs, hu, _, _⟩ := st92
  simp [Value.formed, hu, h]
theorem lits3 (m : Nat) (a : Int) (h : (Lit.int .i64 a).wf = true) : Try.prog.keyLits (m + 1) 3 [.int .i64 a] = some [.int .i64 a] := by
  unfold Program.keyLits
  rw [Try.underlying3]
  simp [h]
theorem keyT {c n : Int} (hc : (Lit.int .i64 c).wf = true) (hn : (Lit.int .i64 n).wf = true) : keyOf Try.prog 92 (.agg #[.int .i64 c, .int .i64 n]) = some (tkey c n) := by
  obtain ⟨fs, hu, hfs, hall⟩ := st92
  have h3 : Try.prog.cellsOf 3 = 1 := by kernel_rfl
  unfold keyOf
  rw [hu]
  dsimp only
  rw [key92, form92]
  obtain ⟨m, hm⟩ := size_types
  rw [hm]
  have e : Try.prog.keyLits (m + 2) 92 (Value.agg #[.int .i64 c, .int .i64 n]).cells.toList = some [.int .i64 c, .int .i64 n] := by
    unfold Program.keyLits
    rw [hu]
    have h : Try.prog.cellsOf 92 = 2 := by kernel_rfl
    have h2 : (Value.agg #[.int .i64 c, .int .i64 n]).cells.toList = [.int .i64 c, .int .i64 n] := rfl
    rw [h2]
    dsimp only
    rw [h, if_pos ⟨rfl, hall⟩]
    have hf : ∀ (fs : List Field), fs.map (fun f => (f.type, f.offset, Try.prog.cellsOf f.type)) = [(3, 0, 1), (3, 1, 1)] →
        (fs.mapM fun f => Try.prog.keyLits (m + 1) f.type (([.int .i64 c, .int .i64 n].drop f.offset).take (Try.prog.cellsOf f.type))) = some [[.int .i64 c], [.int .i64 n]] := by
      intro fs he
      obtain ⟨f, r, rfl, hf, he⟩ := List.map_eq_cons_iff.1 he
      obtain ⟨g, r, rfl, hg, he⟩ := List.map_eq_cons_iff.1 he
      obtain rfl := List.map_eq_nil_iff.1 he
      simp only [Prod.mk.injEq] at hf hg
      obtain ⟨f1, f2, _⟩ := hf
      obtain ⟨g1, g2, _⟩ := hg
      have a1 := lits3 m c hc
      have a2 := lits3 m n hn
      simp only [List.mapM_cons, List.mapM_nil, f1, f2, g1, g2, h3]
      simp [a1, a2]
    rw [hf _ hfs]
    rfl
  rw [e]
  rfl
theorem tkey_inj {c n c' n' : Int} (hc : (Lit.int .i64 c).wf = true) (hn : (Lit.int .i64 n).wf = true) (hc' : (Lit.int .i64 c').wf = true) (hn' : (Lit.int .i64 n').wf = true) (h : tkey c n = tkey c' n') : c = c' ∧ n = n' := by
  have := lawT.inj (keyT hc hn) (h ▸ keyT hc' hn')
  simpa using this
end Go.Proofs.Ytplknppmaepinaa.S
/- A shelf in memory: the program's (ShelfAt) and the document's (RefAt); the blocks that it lies in are told (ok): what else turns, leaves it as it is. -/
namespace Go.Proofs.Ytplknppmaepinaa.S
open Go Go.RowKit Go.Maps Go.X Go.Proofs.YtplknppmaepinaaW.PrintWords Go.Proofs.Ytplknppmaepinaa.F

/-- On the blocks that ok names, w' is w. -/
def Keeps (ok : Nat → Prop) (w w' : World) : Prop := ∀ k, ok k → k < w.heap.size → w'.heap[k]? = w.heap[k]?
theorem Keeps.refl (ok : Nat → Prop) (w : World) : Keeps ok w w := fun _ _ _ => rfl
theorem Keeps.below {ok : Nat → Prop} {w w' : World} (h : Below w.heap.size w w') : Keeps ok w w' := fun k _ hk => h.block k hk
theorem Keeps.grown {ok : Nat → Prop} {w w' : World} {r : Option Nat} (h : w.grownBy w' r) (hr : ∀ k, ok k → some k ≠ r) : Keeps ok w w' := fun k hk hlt => h.block k hlt (hr k hk)
theorem Keeps.but {ok S : Nat → Prop} {w w' : World} (h : But S w w') (hr : ∀ k, ok k → ¬ S k) : Keeps ok w w' := fun k hk hlt => h.block k hlt (hr k hk)
theorem heap_keep {w w' : World} {k : Nat} {o : Obj} (h : w.heap[k]? = some o) (hk : k < w.heap.size → w'.heap[k]? = w.heap[k]?) : w'.heap[k]? = some o := (hk (Array.getElem?_eq_some_iff.1 h).1).trans h
theorem Blk.keep {ok : Nat → Prop} {w w' : World} {b : Nat} {t : TypeId} {cs : List Value} (h : Blk w b t cs) (hk : Keeps ok w w') (hb : ok b) : Blk w' b t cs := heap_keep h (hk b hb)
theorem ownsRow_keep {ok : Nat → Prop} {w w' : World} {base : Nat} {e : TypeId} {size n : Nat} {v : Value} {xs : List Value} (h : w.ownsRow base e size v n xs) (hk : Keeps ok w w') (hb : ∀ g, v.ownBlock = some g → ok g) : w'.ownsRow base e size v n xs :=
  own_move h fun g hg => hk g (hb g hg) (own_lt h g hg)
theorem ownsMap_keep {H : Type} {P : Program} {k : TypeId} {R : Value → Option (DataW H × List MemPlace)} {ok : Nat → Prop} {w w' : World} {b n : Nat} {D : DataW H} (h : w.ownsMap P k R b n D) (hk : Keeps ok w w') (hb : ok b) : w'.ownsMap P k R b n D := by
  obtain ⟨es, clock, h1, r⟩ := h
  exact ⟨es, clock, heap_keep h1 (hk b hb), r⟩
theorem ownsMap_tight {H : Type} {P : Program} {k : TypeId} {R : Value → Option (DataW H × List MemPlace)} {w : World} {b n : Nat} {D : DataW H} (h : w.ownsMap P k R b n D) : w.ownsMap P k R b (Maps.size D) D := by
  obtain ⟨es, clock, h1, h2, h3, h4⟩ := h
  refine ⟨es, clock, h1, h2, ?_, h4⟩
  rw [h4]
  simp [Maps.size, length_sorted]

/-! ### bytes -/
/-- Bytes: an empty slice, or a row in a block of bytes. -/
def DataAt (w : World) (ok : Nat → Prop) (v : Value) (bs : List Int) : Prop :=
  (bs = [] ∧ ∃ A c, v = .slice A 0 c) ∨ ∃ g c rest, v = .slice (some ⟨g, 0, none⟩) bs.length c ∧ bs.length ≤ c ∧ bs.length ≤ maxLen ∧ ok g ∧ Blk w g 5 (nums .u8 bs ++ rest)
theorem DataAt.keep {w w' : World} {ok : Nat → Prop} {v : Value} {bs : List Int} (h : DataAt w ok v bs) (hk : Keeps ok w w') : DataAt w' ok v bs := by
  rcases h with h | ⟨g, c, rest, h1, h2, h3, h4, h5⟩
  · exact .inl h
  · exact .inr ⟨g, c, rest, h1, h2, h3, h4, Blk.keep h5 hk h4⟩
theorem DataAt.mono {w : World} {ok ok' : Nat → Prop} {v : Value} {bs : List Int} (h : DataAt w ok v bs) (hi : ∀ k, ok k → ok' k) : DataAt w ok' v bs := by
  rcases h with h | ⟨g, c, rest, h1, h2, h3, h4, h5⟩
  · exact .inl h
  · exact .inr ⟨g, c, rest, h1, h2, h3, hi _ h4, h5⟩
theorem DataAt.bound {w : World} {ok : Nat → Prop} {v : Value} {bs : List Int} (h : DataAt w ok v bs) : DataAt w (fun k => ok k ∧ k < w.heap.size) v bs := by
  rcases h with h | ⟨g, c, rest, h1, h2, h3, h4, h5⟩
  · exact .inl h
  · exact .inr ⟨g, c, rest, h1, h2, h3, ⟨h4, h5.lt⟩, h5⟩
theorem DataAt.slice {w : World} {ok : Nat → Prop} {v : Value} {bs : List Int} (h : DataAt w ok v bs) : ∃ A c, v = .slice A bs.length c ∧ bs.length ≤ c ∧ Kd.C (Kd.int .u8) w A bs.length bs := by
  rcases h with ⟨rfl, A, c, rfl⟩ | ⟨g, c, rest, rfl, h2, h3, h4, h5⟩
  · exact ⟨A, c, rfl, Nat.zero_le _, rfl, by simp, fun h => absurd h (Nat.lt_irrefl _)⟩
  · refine ⟨_, c, rfl, h2, C_of_blk h5 ?_ (by simpa [maxLen] using h3)⟩
    refine ⟨by simp [nums, Kd.int, Kd.scalar], fun j p hj => ?_⟩
    have hl := (List.getElem?_eq_some_iff.1 hj).1
    show ((nums .u8 bs).drop (j * 1)).take 1 = [.int .u8 p]
    rw [Nat.mul_one, nums, ← List.map_drop, ← List.map_take]
    rw [List.drop_eq_getElem_cons hl]
    simp [(List.getElem?_eq_some_iff.1 hj).2]
theorem DataAt.of_own {w : World} {ok : Nat → Prop} {base : Nat} {v : Value} {bs : List Int} (h : w.ownsRow base 5 1 v bs.length (nums .u8 bs)) (hok : ∀ g, v.ownBlock = some g → ok g) : DataAt w ok v bs := by
  rcases h.2 with ⟨rfl, h0⟩ | ⟨g, cap, cur, rfl, _, hh, h1, h2, h3, h4⟩
  · refine .inl ⟨List.eq_nil_of_length_eq_zero h0, none, 0, ?_⟩
    rfl
  · refine .inr ⟨g, cap, cur.toList.drop bs.length, rfl, h1, Nat.le_trans h1 h2, hok g (by simp [Value.ownBlock]), ?_⟩
    unfold Blk
    rw [hh, ← h4, Nat.mul_one]
    simp

/-! ### rows of files -/
/-- The cells of files: a name, and what leads to the bytes. -/
inductive FileCells (w : World) (ok : Nat → Prop) : List S73 → List Value → Prop
  | nil : FileCells w ok [] []
  | cons {f : S73} {v : Value} {L : List S73} {cs : List Value} : DataAt w ok v f.f1 → FileCells w ok L cs → FileCells w ok (f :: L) (.string f.f0 :: v :: cs)
theorem FileCells.keep {w w' : World} {ok : Nat → Prop} {L : List S73} {cs : List Value} (h : FileCells w ok L cs) (hk : Keeps ok w w') : FileCells w' ok L cs := by
  induction h with
  | nil => exact .nil
  | cons hd _ ih => exact .cons (hd.keep hk) ih
theorem FileCells.length {w : World} {ok : Nat → Prop} {L : List S73} {cs : List Value} (h : FileCells w ok L cs) : cs.length = L.length * 2 := by
  induction h with
  | nil => rfl
  | cons _ _ ih => simp [ih]; omega
theorem FileCells.append {w : World} {ok : Nat → Prop} {L M : List S73} {cs ds : List Value} (h : FileCells w ok L cs) (h' : FileCells w ok M ds) : FileCells w ok (L ++ M) (cs ++ ds) := by
  induction h with
  | nil => exact h'
  | cons hd _ ih => exact .cons hd ih
theorem FileCells.take {w : World} {ok : Nat → Prop} {L : List S73} {cs : List Value} (h : FileCells w ok L cs) (n : Nat) : FileCells w ok (L.take n) (cs.take (n * 2)) := by
  induction h generalizing n with
  | nil => simpa using .nil
  | cons hd _ ih =>
    cases n with
    | zero => simpa using .nil
    | succ n =>
      rw [show (n + 1) * 2 = n * 2 + 1 + 1 by omega]
      exact .cons hd (ih n)
theorem FileCells.get {w : World} {ok : Nat → Prop} {L : List S73} {cs : List Value} (h : FileCells w ok L cs) {j : Nat} {f : S73} (hj : L[j]? = some f) : ∃ v, cs[j * 2]? = some (.string f.f0) ∧ cs[j * 2 + 1]? = some v ∧ DataAt w ok v f.f1 := by
  induction h generalizing j with
  | nil => simp at hj
  | @cons g v L cs hd _ ih =>
    cases j with
    | zero =>
      simp at hj
      subst hj
      exact ⟨v, rfl, rfl, hd⟩
    | succ j =>
      obtain ⟨u, h1, h2, h3⟩ := ih (by simpa using hj)
      rw [show (j + 1) * 2 = j * 2 + 1 + 1 by omega]
      exact ⟨u, h1, h2, h3⟩
theorem FileCells.reps {w : World} {ok : Nat → Prop} {L : List S73} {cs : List Value} (h : FileCells w ok L cs) : Reps (k73.K w) k73.sz L cs := by
  refine ⟨h.length, fun j f hj => ?_⟩
  obtain ⟨v, h1, h2, h3⟩ := h.get hj
  obtain ⟨A, c, rfl, hl, hc⟩ := h3.slice
  have hlt := (List.getElem?_eq_some_iff.1 h2).1
  have e : (cs.drop (j * k73.sz)).take k73.sz = [.string f.f0, .slice A f.f1.length c] := by
    show (cs.drop (j * 2)).take 2 = _
    have e1 := (List.getElem?_eq_some_iff.1 h1).2
    have e2 := (List.getElem?_eq_some_iff.1 h2).2
    rw [List.drop_eq_getElem_cons (by omega), List.drop_eq_getElem_cons hlt, e1, e2]
    rfl
  rw [e]
  exact k73_mk w f hl hc
/-- A row of files of the call's own. -/
def FilesAt (w : World) (ok : Nat → Prop) (v : Value) (L : List S73) : Prop := (∀ g, v.ownBlock = some g → ok g) ∧ ∃ cs, FileCells w ok L cs ∧ w.ownsRow 0 73 2 v L.length cs
theorem ownsRow_len {w : World} {base : Nat} {e : TypeId} {size n : Nat} {v : Value} {xs : List Value} (h : w.ownsRow base e size v n xs) : n ≤ maxLen := by
  rcases h.2 with ⟨rfl, rfl⟩ | ⟨g, cap, cur, rfl, _, _, h1, h2, _⟩
  · exact Nat.zero_le _
  · exact Nat.le_trans h1 h2
/-- The row as one that is read. -/
theorem FilesAt.slice {w : World} {ok : Nat → Prop} {v : Value} {L : List S73} (h : FilesAt w ok v L) : ∃ A c, v = .slice A L.length c ∧ L.length ≤ c ∧ Kd.C k73 w A L.length L := by
  obtain ⟨_, cs, h1, h2⟩ := h
  have hm := ownsRow_len h2
  rcases h2.2 with ⟨rfl, h0⟩ | ⟨g, cap, cur, rfl, _, hh, h3, h4, h5, h6⟩
  · obtain rfl := List.eq_nil_of_length_eq_zero h0
    exact ⟨none, 0, rfl, Nat.le_refl _, rfl, by simp, fun h => absurd h (Nat.lt_irrefl _)⟩
  · refine ⟨_, cap, rfl, h3, C_of_blk (e := 73) (cs := cs) (rest := cur.toList.drop (L.length * 2)) ?_ h1.reps (by simpa [maxLen] using hm)⟩
    unfold Blk
    rw [hh, ← h6]
    simp

/-! ### calls -/
def callCells : List S102 → List Value
  | [] => []
  | x :: r => .int .i64 x.f0 :: .string x.f1 :: .int .i64 x.f2 :: callCells r
theorem callCells_append (xs ys : List S102) : callCells (xs ++ ys) = callCells xs ++ callCells ys := by
  induction xs with
  | nil => rfl
  | cons x r ih => simp [callCells, ih]
theorem callCells_length (xs : List S102) : (callCells xs).length = xs.length * 3 := by
  induction xs with
  | nil => rfl
  | cons x r ih => simp [callCells, ih]; omega
theorem callCells_one (xs : List S102) : ∀ u ∈ callCells xs, u.oneCell' = true := by
  induction xs with
  | nil => intro u hu; cases hu
  | cons x r ih =>
    intro u hu
    simp only [callCells, List.mem_cons] at hu
    rcases hu with rfl | rfl | rfl | hu
    · rfl
    · rfl
    · rfl
    · exact ih u hu
theorem callCells_reps (w : World) (xs : List S102) : Reps (k102.K w) k102.sz xs (callCells xs) := by
  refine ⟨callCells_length xs, fun j x hj => ?_⟩
  have e : ((callCells xs).drop (j * k102.sz)).take k102.sz = [.int .i64 x.f0, .string x.f1, .int .i64 x.f2] := by
    show ((callCells xs).drop (j * 3)).take 3 = _
    induction xs generalizing j with
    | nil => simp at hj
    | cons y r ih =>
      cases j with
      | zero => simp at hj; subst hj; rfl
      | succ j =>
        rw [show (j + 1) * 3 = j * 3 + 1 + 1 + 1 by omega]
        exact ih j (by simpa using hj)
  rw [e]
  exact k102_mk w x
def troubleCells : List S76 → List Value
  | [] => []
  | x :: r => .int .i64 x.f0 :: .int .i64 x.f1 :: .int .i64 x.f2 :: troubleCells r
theorem troubleCells_length (xs : List S76) : (troubleCells xs).length = xs.length * 3 := by
  induction xs with
  | nil => rfl
  | cons x r ih => simp [troubleCells, ih]; omega
theorem troubleCells_reps (w : World) (xs : List S76) : Reps (k76.K w) k76.sz xs (troubleCells xs) := by
  refine ⟨troubleCells_length xs, fun j x hj => ?_⟩
  have e : ((troubleCells xs).drop (j * k76.sz)).take k76.sz = [.int .i64 x.f0, .int .i64 x.f1, .int .i64 x.f2] := by
    show ((troubleCells xs).drop (j * 3)).take 3 = _
    induction xs generalizing j with
    | nil => simp at hj
    | cons y r ih =>
      cases j with
      | zero => simp at hj; subst hj; rfl
      | succ j =>
        rw [show (j + 1) * 3 = j * 3 + 1 + 1 + 1 by omega]
        exact ih j (by simpa using hj)
  rw [e]
  exact k76_mk w x

/-! ### the shelf of the program -/
/-- How an element of the files' map is read: as it stands. -/
def RH (v : Value) : Option (DataW Value × List MemPlace) := some (.held v, [])
def nilV : Value := .slice none 0 0
structure FMap (w : World) (ok : Nat → Prop) (fm : Nat) (L : List S73) : Prop where
  mk' ::
  out : ∃ D : DataW Value, w.ownsMap Try.prog 9 RH fm (Maps.size D) D ∧ Maps.size D = L.length ∧ (∀ n : ByteArray, Maps.has D (.string (ky n)) = hasN L n) ∧ ∀ f ∈ L, ∃ v, D.atKey (.string (ky f.f0)) (.held nilV) = .held v ∧ DataAt w ok v f.f1
theorem FMap.keep {w w' : World} {ok : Nat → Prop} {fm : Nat} {L : List S73} (h : FMap w ok fm L) (hk : Keeps ok w w') (hf : ok fm) : FMap w' ok fm L := by
  obtain ⟨D, h1, h2, h3, h4⟩ := h.out
  exact ⟨D, ownsMap_keep h1 hk hf, h2, h3, fun f hf' => by obtain ⟨v, h5, h6⟩ := h4 f hf'; exact ⟨v, h5, h6.keep hk⟩⟩
theorem FMap.mono {w : World} {ok ok' : Nat → Prop} {fm : Nat} {L : List S73} (h : FMap w ok fm L) (hi : ∀ k, ok k → ok' k) : FMap w ok' fm L := by
  obtain ⟨D, h1, h2, h3, h4⟩ := h.out
  exact ⟨D, h1, h2, h3, fun f hf' => by obtain ⟨v, h5, h6⟩ := h4 f hf'; exact ⟨v, h5, h6.mono hi⟩⟩
def PMap (w : World) (pm : Nat) (plan : List S76) : Prop :=
  ∃ D : DataW Value, w.ownsMap Try.prog 92 (plainElem Try.prog 42) pm (Maps.size D) D ∧ Maps.size D ≤ plan.length ∧ ∀ c n, (Lit.int .i64 c).wf = true → (Lit.int .i64 n).wf = true → D.atKey (tkey c n) (.lit (.int .i64 0)) = .lit (.int .i64 (planF plan c n))
def AMap (w : World) (am : Nat) (all : List S102) : Prop :=
  ∃ D : DataW Value, w.ownsMap Try.prog 3 (plainElem Try.prog 3) am (Maps.size D) D ∧ Maps.size D ≤ all.length ∧ ∀ c, D.atKey (.int .i64 c) (.lit (.int .i64 0)) = .lit (.int .i64 (cntL all c))
structure ShelfAt (w : World) (ok : Nat → Prop) (sb : Nat) (s : Sh) : Prop where
  mk' ::
  out : ∃ fm pm am cv, Blk w sb 84 [.map (some fm), .int .i64 s.room, .int .i64 (szL s.L), .map (some pm), .map (some am), cv] ∧ FMap w ok fm s.L ∧ PMap w pm s.plan ∧ AMap w am s.all ∧
    w.ownsRow 0 102 3 cv s.all.length (callCells s.all) ∧ (ok sb ∧ ok fm ∧ ok pm ∧ ok am ∧ ∀ g, cv.ownBlock = some g → ok g) ∧ fm ≠ pm ∧ fm ≠ am ∧ pm ≠ am
theorem ShelfAt.keep {w w' : World} {ok : Nat → Prop} {sb : Nat} {s : Sh} (h : ShelfAt w ok sb s) (hk : Keeps ok w w') : ShelfAt w' ok sb s := by
  obtain ⟨fm, pm, am, cv, h1, h2, ⟨D, h3, h3'⟩, ⟨E, h4, h4'⟩, h5, h6, h7⟩ := h.out
  exact ⟨fm, pm, am, cv, Blk.keep h1 hk h6.1, h2.keep hk h6.2.1, ⟨D, ownsMap_keep h3 hk h6.2.2.1, h3'⟩, ⟨E, ownsMap_keep h4 hk h6.2.2.2.1, h4'⟩, ownsRow_keep h5 hk h6.2.2.2.2, h6, h7⟩
theorem ShelfAt.mono {w : World} {ok ok' : Nat → Prop} {sb : Nat} {s : Sh} (h : ShelfAt w ok sb s) (hi : ∀ k, ok k → ok' k) : ShelfAt w ok' sb s := by
  obtain ⟨fm, pm, am, cv, h1, h2, h3, h4, h5, h6, h7⟩ := h.out
  exact ⟨fm, pm, am, cv, h1, h2.mono hi, h3, h4, h5, ⟨hi _ h6.1, hi _ h6.2.1, hi _ h6.2.2.1, hi _ h6.2.2.2.1, fun g hg => hi _ (h6.2.2.2.2 g hg)⟩, h7⟩
theorem ownsMap_ne_blk {H : Type} {P : Program} {k : TypeId} {R : Value → Option (DataW H × List MemPlace)} {w : World} {b n : Nat} {D : DataW H} (h : w.ownsMap P k R b n D) {b' : Nat} {t : TypeId} {cs : List Value} (hb : Blk w b' t cs) : b ≠ b' := by
  rintro rfl
  obtain ⟨es, clock, h1, _⟩ := h
  have h2 : w.heap[b]? = _ := hb
  rw [h1] at h2
  cases h2
theorem ownsMap_ne_row {H : Type} {P : Program} {k : TypeId} {R : Value → Option (DataW H × List MemPlace)} {w : World} {b n : Nat} {D : DataW H} (h : w.ownsMap P k R b n D) {base : Nat} {e : TypeId} {size m : Nat} {v : Value} {xs : List Value} (hr : w.ownsRow base e size v m xs) : some b ≠ v.ownBlock := by
  intro hv
  obtain ⟨es, clock, h1, _⟩ := h
  obtain ⟨cells, h2⟩ := own_typed hr b hv.symm
  rw [h1] at h2
  cases h2
/-! ### the document's shelf -/
end Go.Proofs.Ytplknppmaepinaa.S
/- Copies of bytes: fresh, copied, slices.Clone; names: named. -/
namespace Go.Proofs.Ytplknppmaepinaa.S
open Go Go.RowKit Go.X Go.Proofs.YtplknppmaepinaaW.PrintWords Go.Proofs.Ytplknppmaepinaa.F

theorem C_bytes {w : World} {A : Option Addr} {bs : List Int} (h : Kd.C (Kd.int .u8) w A bs.length bs) : nums .u8 bs ≠ [] → ∃ ad, A = some ad ∧ ∀ j u, (nums .u8 bs)[j]? = some u → w.cell? (ad.add j) = some u := by
  obtain ⟨cs, hr, hc⟩ := C_cells h
  have e : cs = nums .u8 bs := by
    have hl : cs.length = bs.length := by have := hr.1; simpa [Kd.int, Kd.scalar] using this
    apply List.ext_getElem?
    intro j
    rcases Nat.lt_or_ge j bs.length with hj | hj
    · have := hr.2 j bs[j] (List.getElem?_eq_getElem hj)
      have h1 : (cs.drop (j * 1)).take 1 = [.int .u8 bs[j]] := this
      rw [Nat.mul_one, List.drop_eq_getElem_cons (by omega), List.take_succ_cons] at h1
      have h2 := (List.cons.inj h1).1
      rw [List.getElem?_eq_getElem (by omega), h2]
      simp [nums, hj]
    · rw [List.getElem?_eq_none (by omega), List.getElem?_eq_none (by rw [nums_length]; omega)]
  rw [← e]
  exact hc
theorem nums_one (bs : List Int) : ∀ u ∈ nums .u8 bs, u.oneCell' = true := by
  intro u hu
  simp only [nums, List.mem_map] at hu
  obtain ⟨x, _, rfl⟩ := hu
  rfl
/-- A new copy of bytes, and nothing of what was there has turned. -/
def FreshPost (w : World) (bs : List Int) (e : Ending) (w' : World) : Prop := ∃ v, e = .returned v ∧ DataAt w' (fun k => w.heap.size ≤ k) v bs ∧ Below w.heap.size w w'
theorem own_ge {w : World} {base : Nat} {e : TypeId} {size n : Nat} {v : Value} {xs : List Value} (h : w.ownsRow base e size v n xs) : ∀ g, v.ownBlock = some g → base ≤ g := fun g hg => own_base h g hg

set_option maxRecDepth 100000 in
set_option maxHeartbeats 1000000 in
theorem fresh.calls (A : Option Addr) (c : Nat) (bs : List Int) (w : World) (hr : Kd.C (Kd.int .u8) w A bs.length bs) (hm : bs.length ≤ 140737488355328) :
    Calls Try.prog 32 #[.slice A bs.length c] w (FreshPost w bs) := by
  obtain ⟨i0, hi, hz0, hz1, hz2⟩ := info_parts info5
  have HC := Lib.hid (C_bytes hr); clear hr
  have HI := Lib.hid hi; clear hi
  have HZ0 := Lib.hid hz0; clear hz0
  have HZ1 := Lib.hid hz1; clear hz1
  have HZ2 := Lib.hid hz2; clear hz2
  go_enter Try.func32, Try.ntmps32
  go_wp2_with (first
    | (at_make; refine wpList_make_own _ rfl _ _ 39 rfl w.heap.size 5 i0 _ 1 Try.underlying39 HI.out HZ0.out HZ1.out .i64 .i64 _ bs.length rfl rfl rfl (by rw [HZ2.out]; omega) (by simp only [maxLen]; omega) (Nat.le_refl _) ?_; intro w1 hb1 hg1; have HB1 := Lib.hid hb1; clear hb1; have HG1 := Lib.hid hg1; clear hg1)
    | (at_builtin; refine appendAny rfl (.tmp 5) (.tmp 6) 39 5 rfl w.heap.size (.int .u8 0) 1 1 Try.underlying39 info5 rfl (by decide) _ 0 [] rfl HB1.out A bs.length c (nums .u8 bs) rfl (by rw [nums_length]; omega) ?_ (nums_one bs) (by simp only [maxLen]; omega) (by omega) (by have := HG1.out.size; omega) ?_)
    | fail)
  · intro h0
    obtain ⟨ad, e, hc⟩ := HC.out h0
    exact ⟨ad, e, fun j u hj => HG1.out.cell (hc j u hj) (by simp)⟩
  intro v' w2 ho2 ha2
  have HO2 := Lib.hid ho2; clear ho2
  have HA2 := Lib.hid ha2; clear ha2
  go_wp2
  go_ret
  exact ⟨v', rfl, DataAt.of_own HO2.out (own_ge HO2.out), ((Below.refl _ _).grown HG1.out (Nat.le_refl _) (by simp)).grown HA2.out.grown HG1.out.size (by simp [Value.ownBlock])⟩
set_option maxRecDepth 100000 in
set_option maxHeartbeats 1000000 in
theorem clone.calls (A : Option Addr) (c : Nat) (bs : List Int) (w : World) (hr : Kd.C (Kd.int .u8) w A bs.length bs) (hm : bs.length ≤ 140737488355328) :
    Calls Try.prog 37 #[.slice A bs.length c] w (FreshPost w bs) := by
  have hnil := hr
  have HC := Lib.hid (C_bytes hr); clear hr
  go_enter Try.func37, Try.ntmps37
  cases A with
  | none =>
    have h0 : bs = [] := by
      rcases Nat.eq_zero_or_pos bs.length with h | h
      · exact List.eq_nil_of_length_eq_zero h
      · obtain ⟨ad, e, _⟩ := hnil.2.2 h
        cases e
    subst h0
    have he := fun W : World => Lib.run_eql_slice_nil (P := Try.prog) W 39 5 none 0 c 0 0 Try.underlying39
    go_wp2
    go_ret
    exact ⟨_, rfl, .inl ⟨rfl, _, _, rfl⟩, Below.refl _ _⟩
  | some ad =>
    clear hnil
    have he := fun W : World => Lib.run_eql_slice_nil (P := Try.prog) W 39 5 (some ad) bs.length c 0 0 Try.underlying39
    have HG1 : Hid (w.grownBy (w.alloc (.cells #[] 5)) none) := World.grownBy_alloc w _ none
    go_wp2_with (first
      | (at_builtin; refine appendAny rfl (.tmp 5) (.tmp 6) 39 5 rfl w.heap.size (.int .u8 0) 1 1 Try.underlying39 info5 rfl (by decide) (.slice (some ⟨w.heap.size, 0, none⟩) 0 0) 0 [] rfl (own_empty w 5 1) (some ad) bs.length c (nums .u8 bs) rfl (by rw [nums_length]; omega) ?_ (nums_one bs) (by simp only [maxLen]; omega) (by omega) (by simp) ?_)
      | fail)
    · intro h0
      obtain ⟨ad, e, hc⟩ := HC.out h0
      exact ⟨ad, e, fun j u hj => HG1.out.cell (hc j u hj) (by simp)⟩
    intro v' w2 ho2 ha2
    have HO2 := Lib.hid ho2; clear ho2
    have HA2 := Lib.hid ha2; clear ha2
    go_wp2
    go_ret
    exact ⟨v', rfl, DataAt.of_own HO2.out (own_ge HO2.out), ((Below.refl _ _).grown HG1.out (Nat.le_refl _) (by simp)).grown HA2.out.grown (by simp) (by simp [Value.ownBlock])⟩
end Go.Proofs.Ytplknppmaepinaa.S
/- shelf.named: is a text a file's name. -/
namespace Go.Proofs.Ytplknppmaepinaa.S
open Go Go.RowKit Go.X Go.Proofs.YtplknppmaepinaaW.PrintWords Go.Proofs.Ytplknppmaepinaa.F

theorem size_zero {s : ByteArray} (h : s.size = 0) : s = ⟨#[]⟩ := by
  apply ky_inj
  unfold ky
  have : s.data.size = 0 := h
  rw [Array.size_eq_zero_iff.1 this]
theorem nmOK_big {s : ByteArray} (h : ¬ s.size ≤ 64) : nmOK s = false := by simp [nmOK, h]
theorem all_take_succ (l : List Int) (p : Int → Bool) (i : Nat) (h : i < l.length) : (l.take (i + 1)).all p = ((l.take i).all p && p l[i]) := by
  rw [List.take_succ_eq_append_getElem h, List.all_append]
  simp
theorem all_false_of {l : List Int} {p : Int → Bool} {i : Nat} (h : i < l.length) (hp : p l[i] = false) : l.all p = false := by
  rw [List.all_eq_false]
  exact ⟨l[i], List.getElem_mem h, by simp [hp]⟩
theorem byteOK_iff {b : Int} : byteOK b = true ↔ (97 ≤ b ∧ b ≤ 122) ∨ (65 ≤ b ∧ b ≤ 90) ∨ (48 ≤ b ∧ b ≤ 57) ∨ b = 46 ∨ b = 45 ∨ b = 95 ∨ b = 47 := by
  simp only [byteOK, Bool.or_eq_true, Bool.and_eq_true, decide_eq_true_eq]
  omega
theorem get_of {l : List Int} {i : Nat} {b : Int} (h : i < l.length) (hb : l.getD i 0 = b) : l[i] = b := by
  rw [List.getD_eq_getElem?_getD, List.getElem?_eq_getElem h] at hb
  exact hb
set_option maxRecDepth 100000 in
set_option maxHeartbeats 4000000 in
theorem named.calls (s : ByteArray) (w : World) : Calls Try.prog 36 #[.string s] w fun e w' => e = .returned (.bool (nmOK s)) ∧ Below w.heap.size w w' := by
  by_cases h0 : s.size = 0
  · obtain rfl := size_zero h0
    clear h0
    go_enter Try.func36, Try.ntmps36
    go_wp2
    go_ret
    exact ⟨rfl, Below.refl _ _⟩
  have hq : ¬ s.toList = [] := by
    rw [ByteArray.toList_eq]
    intro e
    apply h0
    have : s.data.toList.length = 0 := by rw [e]; rfl
    rw [data_length] at this
    exact this
  have hq2 : s.toList.isEmpty = false := by cases h : s.toList <;> simp_all
  by_cases h64 : s.size ≤ 64
  · have hg : ¬ (64 : Int) < s.size := by omega
    have kb := fun W => print_bytes (P := Try.prog) 9 39 5 Try.underlying9 Try.underlying39 Try.underlying5 s W
    have hread := bytes_reads w 5 s (by omega)
    have HBW := Lib.hid (bytes_below (Below.refl w.heap.size w) (Nat.le_refl _) 5 s)
    obtain ⟨wb, hwb⟩ : ∃ wb, Lib.bytesWorld w 5 s = wb := ⟨_, rfl⟩
    rw [hwb] at hread HBW
    have hkb := kb w
    rw [hwb] at hkb
    have HR := Lib.hid hread
    clear kb hwb hread
    have hlen : (bytesOf s).length = s.size := bytesOf_length s
    have HL := Lib.hid hlen; clear hlen
    go_enter Try.func36, Try.ntmps36
    go_wp2
    clear hkb hq hq2 hg
    go_loopg [15] s.size (fun q v wr => ∃ i : Nat, q + i = s.size ∧ v = .int .i64 i ∧ Hid (((bytesOf s).take i).all byteOK = true) ∧ wr = wb)
    case atStart => exact ⟨0, by omega, rfl, Lib.hid (by simp), rfl⟩
    case round =>
      obtain ⟨i, hi, rfl, HA, rfl⟩ := hrel
      by_cases hlt : i < s.size
      · have hil : i < (bytesOf s).length := by rw [HL.out]; exact hlt
        obtain ⟨b, hb⟩ : ∃ b, (bytesOf s).getD i 0 = b := ⟨_, rfl⟩
        have hc : wr.cell? ⟨w.heap.size, i, none⟩ = some (.int .u8 b) := by
          obtain ⟨ad, e, hcc⟩ := HR.out.2.2 (by omega)
          cases e
          have := hcc i hlt
          rw [add_plain, hb] at this
          exact this
        have HB := Lib.hid hb; clear hb
        have HIL := Lib.hid hil; clear hil
        go_wp2
        all_goals
          try have e46 : b ≠ 46 := beq_eq_false_iff_ne.1 (by assumption)
          try have e45 : b ≠ 45 := beq_eq_false_iff_ne.1 (by assumption)
          try have e95 : b ≠ 95 := beq_eq_false_iff_ne.1 (by assumption)
          try have e47 : b ≠ 47 := beq_eq_false_iff_ne.1 (by assumption)
          try have f46 : b = 46 := beq_iff_eq.1 (by assumption)
          try have f45 : b = 45 := beq_iff_eq.1 (by assumption)
          try have f95 : b = 95 := beq_iff_eq.1 (by assumption)
          try have f47 : b = 47 := beq_iff_eq.1 (by assumption)
          first
            | (have hk : byteOK b = true := byteOK_iff.2 (by omega)
               go_roundg (s.size - (i + 1))
               case measure => omega
               case rel => exact ⟨i + 1, by omega, by go_num, Lib.hid (by rw [all_take_succ _ _ _ HIL.out, HA.out, get_of HIL.out HB.out, hk]; rfl), rfl⟩)
            | (have hk : ¬ byteOK b = true := fun h => by have := byteOK_iff.1 h; omega
               go_ret
               refine ⟨?_, HBW.out⟩
               have h1 : (bytesOf s).all byteOK = false := all_false_of HIL.out (by rw [get_of HIL.out HB.out]; exact Bool.eq_false_iff.2 hk)
               simp [nmOK, h1])
      · go_wp2
        go_ret
        refine ⟨?_, HBW.out⟩
        have e : i = (bytesOf s).length := by rw [HL.out]; omega
        have h1 := HA.out
        rw [e, List.take_length] at h1
        simp [nmOK, h1, h64]
        omega
  · have hg : (64 : Int) < s.size := by omega
    go_enter Try.func36, Try.ntmps36
    go_wp2
    go_ret
    exact ⟨by rw [nmOK_big h64]; rfl, Below.refl _ _⟩
end Go.Proofs.Ytplknppmaepinaa.S
/- What the printed loops tell: weight, Bytes, sameFiles, Name. -/
namespace Go.Proofs.Ytplknppmaepinaa.S
open Go Go.RowKit Go.Proofs.YtplknppmaepinaaW.PrintWords Go.Proofs.Ytplknppmaepinaa.F

theorem wrap_in {x : Int} (h0 : -9223372036854775808 ≤ x) (h1 : x < 9223372036854775808) : wrap64 x = x := by unfold wrap64; omega
theorem bytes_l0 (l : List Int) (hl : l.length ≤ 9223372036854775806) : ∀ (k i : Nat), l.length < k + i → i ≤ l.length → dowelbook_Bytes.l0 k l l (i : Int) = some true
  | 0, i, hk, hi => by omega
  | k + 1, i, hk, hi => by
    unfold dowelbook_Bytes.l0
    by_cases hlt : i < l.length
    · rw [if_pos (by omega), if_pos (by omega), if_pos (by omega), if_pos rfl, wrap_in (by omega) (by omega)]
      exact bytes_l0 l hl k (i + 1) (by omega) (by omega)
    · rw [if_neg (by omega)]
theorem bytes_f (l : List Int) (hl : l.length ≤ 9223372036854775806) (k : Nat) (hk : l.length < k) : dowelbook_Bytes.f k l l = some true := by
  have := bytes_l0 l hl k 0 (by omega) (by omega)
  simpa [dowelbook_Bytes.f] using this
end Go.Proofs.Ytplknppmaepinaa.S
/- dowelbook.Lend, Kept: bytes that are lent, and looked at. -/
namespace Go.Proofs.Ytplknppmaepinaa.S
open Go Go.RowKit Go.X Go.Proofs.YtplknppmaepinaaW.PrintWords Go.Proofs.Ytplknppmaepinaa.F

end Go.Proofs.Ytplknppmaepinaa.S
/- The law's lent: files in memory of their own. -/
namespace Go.Proofs.Ytplknppmaepinaa.S
open Go Go.RowKit Go.X Go.Proofs.YtplknppmaepinaaW.PrintWords Go.Proofs.Ytplknppmaepinaa.F

theorem info73 : (Try.prog.info? 73).map (fun i => (i.zero, i.size, i.bytes)) = some (some (.agg #[.string ⟨#[]⟩, .slice none 0 0]), 2, 40) := by kernel_rfl
theorem fs_at {w : World} {A : Option Addr} {fs : List S73} (h : Kd.C k73 w A fs.length fs) {i : Nat} {f : S73} (hi : fs[i]? = some f) : ∃ ad A1 c1, A = some ad ∧ w.cell? (ad.add (i * 2)) = some (.string f.f0) ∧ w.cell? ⟨(ad.add (i * 2)).block, (ad.add (i * 2)).off + 1, none⟩ = some (.slice A1 f.f1.length c1) ∧ f.f1.length ≤ c1 ∧ Kd.C (Kd.int .u8) w A1 f.f1.length f.f1 := by
  have hil := (List.getElem?_eq_some_iff.1 hi).1
  have := at_T73 h (i : Int) (by omega) (by omega)
  have e : rd_T73 fs (i : Int) = f := by simp [rd_T73, List.getD_eq_getElem?_getD, hi]
  rw [e] at this
  simpa using this
theorem Below.cellS {w w' : World} (h : Below w.heap.size w w') {p : Addr} {v : Value} (hp : w.cell? p = some v) : w'.cell? p = some v := (h.cell (World.block_lt_of_cell? w _ hp)).trans hp
end Go.Proofs.Ytplknppmaepinaa.S
/- The document's shelf: place, Size. -/
namespace Go.Proofs.Ytplknppmaepinaa.S
open Go Go.RowKit Go.X Go.Proofs.YtplknppmaepinaaW.PrintWords Go.Proofs.Ytplknppmaepinaa.F

end Go.Proofs.Ytplknppmaepinaa.S
namespace Go.Proofs.Ytplknppmaepinaa.S
open Go Go.RowKit Go.X Go.Proofs.YtplknppmaepinaaW.PrintWords Go.Proofs.Ytplknppmaepinaa.F
end Go.Proofs.Ytplknppmaepinaa.S
/- The document's put: a file, in its place. -/
namespace Go.Proofs.Ytplknppmaepinaa.S
open Go Go.RowKit Go.X Go.Proofs.YtplknppmaepinaaW.PrintWords Go.Proofs.Ytplknppmaepinaa.F

def No5 (w : World) (r : Option Nat) : Prop := ∀ g, r = some g → ∀ cells, w.heap[g]? ≠ some (.cells cells 5 (0, 0))
theorem No5.row {w : World} {base : Nat} {e : TypeId} {size n : Nat} {v : Value} {xs : List Value} (h : w.ownsRow base e size v n xs) (he : e ≠ 5) : No5 w v.ownBlock := fun g hg cells hc => by
  obtain ⟨cells', h'⟩ := own_typed h g hg
  rw [hc] at h'
  injection h' with h'
  injection h' with _ h'
  exact he h'.symm
theorem No5.blk {w : World} {b : Nat} {t : TypeId} {cs : List Value} (h : Blk w b t cs) (ht : t ≠ 5) : No5 w (some b) := fun g hg cells hc => by
  cases hg
  have h' : w.heap[b]? = _ := h
  rw [hc] at h'
  injection h' with h'
  injection h' with _ h'
  exact ht h'.symm
theorem No5.map {H : Type} {P : Program} {k : TypeId} {R : Value → Option (DataW H × List MemPlace)} {w : World} {b n : Nat} {D : DataW H} (h : w.ownsMap P k R b n D) : No5 w (some b) := fun g hg cells hc => by
  cases hg
  obtain ⟨es, clock, h', _⟩ := h
  rw [hc] at h'
  cases h'
theorem DataAt.grown {w w' : World} {ok : Nat → Prop} {v : Value} {bs : List Int} (h : DataAt w ok v bs) {r : Option Nat} (g : w.grownBy w' r) (hr : No5 w r) : DataAt w' ok v bs := by
  rcases h with h | ⟨b, c, rest, h1, h2, h3, h4, h5⟩
  · exact .inl h
  · exact .inr ⟨b, c, rest, h1, h2, h3, h4, h5.grown g (fun e => hr b e.symm _ h5)⟩
theorem FileCells.grown {w w' : World} {ok : Nat → Prop} {L : List S73} {cs : List Value} (h : FileCells w ok L cs) {r : Option Nat} (g : w.grownBy w' r) (hr : No5 w r) : FileCells w' ok L cs := by
  induction h with
  | nil => exact .nil
  | cons hd _ ih => exact .cons (hd.grown g hr) ih
theorem _root_.Go.X.But.trans2 {S : Nat → Prop} {w w1 w2 : World} (h : But S w w1) (h' : But S w1 w2) : But S w w2 :=
  ⟨h'.os.trans h.os, h'.tape.trans h.tape, h'.output.trans h.output, Nat.le_trans h.size h'.size, fun k hk hs => (h'.block k (Nat.lt_of_lt_of_le hk h.size) hs).trans (h.block k hk hs)⟩
theorem But.of_below {S : Nat → Prop} {w w1 : World} (h : Below w.heap.size w w1) : But S w w1 := ⟨h.os, h.tape, h.output, h.size, fun k hk _ => h.block k hk⟩
theorem But.of_grown {S : Nat → Prop} {w w1 : World} {r : Option Nat} (h : w.grownBy w1 r) (hr : ∀ k, r = some k → S k) : But S w w1 := ⟨h.os, h.tape, h.output, h.size, fun k hk hs => h.block k hk (fun e => hs (hr k e.symm))⟩
theorem DataAt.but {w w' : World} {ok S : Nat → Prop} {v : Value} {bs : List Int} (h : DataAt w ok v bs) (g : But S w w') (hr : ∀ b, S b → No5 w (some b)) : DataAt w' ok v bs := by
  rcases h with h | ⟨b, c, rest, h1, h2, h3, h4, h5⟩
  · exact .inl h
  · exact .inr ⟨b, c, rest, h1, h2, h3, h4, h5.but g (fun e => hr b e b rfl _ h5)⟩
theorem _root_.Go.X.But.imp {S T : Nat → Prop} {w w1 : World} (h : But S w w1) (hi : ∀ k, S k → T k) : But T w w1 := ⟨h.os, h.tape, h.output, h.size, fun k hk hs => h.block k hk (fun e => hs (hi k e))⟩
theorem row_but {w w' : World} {S : Nat → Prop} {base : Nat} {e : TypeId} {size n : Nat} {v : Value} {xs : List Value} (h : w.ownsRow base e size v n xs) (g : But S w w') (hr : ∀ b, S b → v.ownBlock ≠ some b) : w'.ownsRow base e size v n xs :=
  own_move h fun b hb => g.block b (own_lt h b hb) (fun e => hr b e hb)
theorem row_ne_blk {w : World} {base : Nat} {e : TypeId} {size n : Nat} {v : Value} {xs : List Value} (h : w.ownsRow base e size v n xs) {b : Nat} {t : TypeId} {cs : List Value} (hb : Blk w b t cs) (he : e ≠ t) {g : Nat} (hg : v.ownBlock = some g) : g ≠ b := by
  rintro rfl
  obtain ⟨cells, h'⟩ := own_typed h g hg
  have h2 : w.heap[g]? = _ := hb
  rw [h'] at h2
  injection h2 with h2
  injection h2 with _ h2
  exact he h2
end Go.Proofs.Ytplknppmaepinaa.S
/- The document's New. -/
namespace Go.Proofs.Ytplknppmaepinaa.S
open Go Go.RowKit Go.X Go.Proofs.YtplknppmaepinaaW.PrintWords Go.Proofs.Ytplknppmaepinaa.F

theorem ps_at {w : World} {A : Option Addr} {ps : List S76} (h : Kd.C k76 w A ps.length ps) {i : Nat} {p : S76} (hi : ps[i]? = some p) : ∃ ad, A = some ad ∧ w.cell? (ad.add (i * 3)) = some (.int .i64 p.f0) ∧ w.cell? ⟨(ad.add (i * 3)).block, (ad.add (i * 3)).off + 1, none⟩ = some (.int .i64 p.f1) ∧ w.cell? ⟨(ad.add (i * 3)).block, (ad.add (i * 3)).off + 2, none⟩ = some (.int .i64 p.f2) := by
  have hil := (List.getElem?_eq_some_iff.1 hi).1
  have := at_T76 h (i : Int) (by omega) (by omega)
  have e : rd_T76 ps (i : Int) = p := by simp [rd_T76, List.getD_eq_getElem?_getD, hi]
  rw [e] at this
  simpa using this
theorem newF_step {room : Int} {acc fs : List S73} {i : Nat} {f : S73} (hf : fs[i]? = some f) : newF room acc (fs.drop i) = if hasN acc f.f0 || !nmOK f.f0 then (10, acc) else if acc.length = 64 ∨ room < szL acc + f.f1.length then (13, acc) else newF room (putL f.f0 f.f1 acc) (fs.drop (i + 1)) := by
  have hl := (List.getElem?_eq_some_iff.1 hf).1
  rw [List.drop_eq_getElem_cons hl, (List.getElem?_eq_some_iff.1 hf).2]
  rfl
theorem newP_step {ps : List S76} {i : Nat} {p : S76} (hf : ps[i]? = some p) : newP (ps.drop i) = if badT p then 6 else newP (ps.drop (i + 1)) := by
  have hl := (List.getElem?_eq_some_iff.1 hf).1
  rw [List.drop_eq_getElem_cons hl, (List.getElem?_eq_some_iff.1 hf).2]
  rfl
/-- The loop over the files: what lies there by then. -/
structure Acc (room : Int) (fs acc : List S73) (i : Nat) : Prop where
  rises : Rises acc
  names : ∀ f ∈ acc, nmOK f.f0 = true
  len : acc.length = i
  few : i ≤ 64
  fits : (szL acc : Int) ≤ room
  step : newF room [] fs = newF room acc (fs.drop i)
theorem Acc.next {room : Int} {fs acc : List S73} {i : Nat} {f : S73} (h : Acc room fs acc i) (hf : fs[i]? = some f) (h1 : hasN acc f.f0 = false) (h2 : nmOK f.f0 = true) (h3 : i ≠ 64) (h4 : ¬ room < szL acc + f.f1.length) : Acc room fs (putL f.f0 f.f1 acc) (i + 1) := by
  have hs := newF_step (room := room) (acc := acc) hf
  rw [h1, h2, if_neg (by decide), if_neg (by rw [h.len]; exact fun e => e.elim h3 h4)] at hs
  refine ⟨h.rises.put, fun g hg => ?_, ?_, ?_, ?_, h.step.trans hs⟩
  · rcases mem_putL hg with e | hg
    · rw [e]; exact h2
    · exact h.names g hg
  · rw [length_putL h.rises, h1]; simp [h.len]
  · have := h.few; omega
  · rw [szL_putL h.rises, szBut_none h1]; omega
theorem Acc.bad1 {room : Int} {fs acc : List S73} {i : Nat} {f : S73} (h : Acc room fs acc i) (hf : fs[i]? = some f) (h1 : (hasN acc f.f0 || !nmOK f.f0) = true) : (newF room [] fs).1 = 10 := by
  rw [h.step, newF_step hf, if_pos h1]
theorem Acc.bad2 {room : Int} {fs acc : List S73} {i : Nat} {f : S73} (h : Acc room fs acc i) (hf : fs[i]? = some f) (h1 : hasN acc f.f0 = false) (h2 : nmOK f.f0 = true) (h3 : i = 64 ∨ room < szL acc + f.f1.length) : (newF room [] fs).1 = 13 := by
  rw [h.step, newF_step hf, h1, h2, if_neg (by decide), if_pos (by rw [h.len]; exact h3)]
theorem Acc.done {room : Int} {fs acc : List S73} (h : Acc room fs acc fs.length) : newF room [] fs = (0, acc) := by
  rw [h.step, List.drop_length]
  rfl
theorem newE_room {fs : List S73} {room : Int} {ps : List S76} (h : room < 0 ∨ 16777216 < room) : newE fs room ps = 5 := by
  unfold newE; rw [if_pos h]
theorem newE_files {fs : List S73} {room : Int} {ps : List S76} {x : Int} (h : ¬ (room < 0 ∨ 16777216 < room)) (hx : (newF room [] fs).1 = x) (h0 : x ≠ 0) : newE fs room ps = x := by
  unfold newE; rw [if_neg h, hx, if_pos h0]
theorem newE_plan {fs : List S73} {room : Int} {ps : List S76} (h : ¬ (room < 0 ∨ 16777216 < room)) (hx : (newF room [] fs).1 = 0) : newE fs room ps = newP ps := by
  unfold newE; rw [if_neg h, hx, if_neg (by simp)]
theorem but_cell {S : Nat → Prop} {w w' : World} (h : But S w w') {p : Addr} {v : Value} (hc : w.cell? p = some v) (hp : ¬ S p.block) : w'.cell? p = some v := by
  rw [World.cell?_of_block (h.block p.block (World.block_lt_of_cell? w p hc) hp)]
  exact hc
end Go.Proofs.Ytplknppmaepinaa.S
/- The maps of the program's shelf: files by names, troubles by calls and turns, turns by calls. -/
namespace Go.Proofs.Ytplknppmaepinaa.S
open Go Go.RowKit Go.X Go.Maps Go.Proofs.YtplknppmaepinaaW.PrintWords Go.Proofs.Ytplknppmaepinaa.F

set_option maxRecDepth 100000
theorem lawS : Keyed Try.prog 9 := string_keyed Try.underlying9
theorem lawI : Keyed Try.prog 3 := int_keyed Try.underlying3
theorem keyS {n : ByteArray} (h : n.size ≤ maxLen) : keyOf Try.prog 9 (.string n) = some (.string (ky n)) := by
  simp [keyOf, Try.underlying9, mapKey, h, ky]
theorem keyI {c : Int} (h : (Lit.int .i64 c).wf = true) : keyOf Try.prog 3 (.int .i64 c) = some (.int .i64 c) := keyOf_int_mk Try.underlying3 h
theorem isKS (s : List UInt8) : WideAt.IsKeyLit (.string s) := trivial
theorem zero39 (w : World) : (zeroValue 39).run Try.prog w = .ok nilV w := by kernel_rfl
theorem zero42 (w : World) : (zeroValue 42).run Try.prog w = .ok (.int .i64 0) w := by kernel_rfl
theorem zero3 (w : World) : (zeroValue 3).run Try.prog w = .ok (.int .i64 0) w := by kernel_rfl
/-- 'v, ok := files[n]', 'files[n]' -/
theorem FMap.look {w : World} {ok : Nat → Prop} {fm : Nat} {L : List S73} (h : FMap w ok fm L) {n : ByteArray} (hn : n.size ≤ maxLen) :
    ∃ v, (∀ W, Keeps (fun k => k = fm) w W → (Instr.lookup 80 (.map (some fm)) (.string n) true).run Try.prog W = .ok (.tuple #[v, .bool (hasN L n)]) W ∧ (Instr.lookup 80 (.map (some fm)) (.string n) false).run Try.prog W = .ok v W) ∧ (hasN L n = false → v = nilV) ∧ (∀ f ∈ L, ky f.f0 = ky n → DataAt w ok v f.f1) := by
  obtain ⟨D, h1, h2, h3, h4⟩ := h.out
  obtain ⟨v0, ps0, hr0, hv0⟩ := h1.look_ok lawS Try.underlying80 (zero39 w) (show RH nilV = some (.held nilV, []) from rfl) (keyS hn)
  have e0 : D.atKey (.string (ky n)) (.held nilV) = .held v0 := by
    simp only [RH, Option.some.injEq, Prod.mk.injEq] at hv0
    exact hv0.1.symm
  refine ⟨v0, fun W hW => ?_, fun hh => ?_, fun f hf e => ?_⟩
  · have hW1 := ownsMap_keep h1 hW rfl
    obtain ⟨v1, ps1, hr1, hv1⟩ := hW1.look_ok lawS Try.underlying80 (zero39 W) (show RH nilV = some (.held nilV, []) from rfl) (keyS hn)
    obtain ⟨v2, ps2, hr2, hv2⟩ := hW1.lookup lawS Try.underlying80 (zero39 W) (show RH nilV = some (.held nilV, []) from rfl) (keyS hn)
    simp only [RH, Option.some.injEq, Prod.mk.injEq] at hv1 hv2
    rw [e0] at hv1 hv2
    injection hv1.1 with hv1
    injection hv2.1 with hv2
    rw [hr1, hr2, hv1, hv2, h3]
    exact ⟨rfl, rfl⟩
  · rw [← h3] at hh
    rw [atKey_of_not_has hh] at e0
    injection e0 with e0
    exact e0.symm
  · obtain ⟨v, h5, h6⟩ := h4 f hf
    rw [e, e0] at h5
    injection h5 with h5
    rw [h5]
    exact h6
theorem FMap.len {w : World} {ok : Nat → Prop} {fm : Nat} {L : List S73} (h : FMap w ok fm L) (ty : TypeId) : ∀ W, Keeps (fun k => k = fm) w W → (Builtin.len_ #[80] ty #[.map (some fm)]).run Try.prog W = .ok (.int .i64 (L.length : Nat)) W := by
  obtain ⟨D, h1, h2, h3, h4⟩ := h.out
  intro W hW
  have := (ownsMap_keep h1 hW rfl).len Try.underlying80 ty
  rw [h2] at this
  exact this
theorem mapTurned_but {w w' : World} {b : Nat} (h : w.mapTurned w' b) : But (fun k => k = b) w w' := But.of_grown h.grown (fun k e => by cases e; rfl)
/-- 'files[n] = v' -/
theorem FMap.store {w : World} {ok : Nat → Prop} {fm : Nat} {L : List S73} (h : FMap w ok fm L) (hr : Rises L) (hl : L.length < maxLen) {n : ByteArray} (hn : n.size ≤ maxLen) {v : Value} {d : List Int} (hd : DataAt w ok v d) :
    ∃ w', (Instr.mapUpdate 80 (.map (some fm)) (.string n) v).run Try.prog w = .ok () w' ∧ FMap w' ok fm (putL n d L) ∧ w.mapTurned w' fm := by
  obtain ⟨D, h1, h2, h3, h4⟩ := h.out
  have hti := h1.tidy lawS
  obtain ⟨w', hrun, hown, hturn⟩ := h1.store lawS Try.underlying80 (by rw [h2]; exact hl) (keyS hn) (show RH v = some (.held v, []) from rfl)
  have n5 : No5 w (some fm) := No5.map h1
  refine ⟨w', hrun, ⟨_, ownsMap_tight hown, ?_, fun m => ?_, fun f hf => ?_⟩, hturn⟩
  · rw [size_put hti, h3, h2, length_putL hr]
  · rw [has_putL, ← h3]
    by_cases e : ky n = ky m
    · rw [e, has_put_same hti.isMap (isKS _)]
      simp
    · rw [has_put_other (fun h => e (by injection h with h; exact h.symm))]
      have : (ky n == ky m) = false := by simpa using e
      rw [this, Bool.false_or]
  · have hlk := lookL_of_mem hr.put hf
    rw [look_putL hr] at hlk
    by_cases e : ky n = ky f.f0
    · rw [if_pos e] at hlk
      refine ⟨v, ?_, ?_⟩
      · rw [← e]; exact atKey_put_same hti.isMap (isKS _) _ _
      · rw [← hlk]; exact hd.grown hturn.grown n5
    · rw [if_neg e] at hlk
      have hm : f ∈ L := by
        rcases mem_putL hf with h | h
        · exact absurd (by rw [h]) e
        · exact h
      obtain ⟨u, h5, h6⟩ := h4 f hm
      refine ⟨u, ?_, h6.grown hturn.grown n5⟩
      rw [atKey_put_other (fun h => e (by injection h with h; exact h.symm))]
      exact h5
/-- 'delete(files, n)' -/
theorem FMap.drop {w : World} {ok : Nat → Prop} {fm : Nat} {L : List S73} (h : FMap w ok fm L) (hr : Rises L) {n : ByteArray} (hn : n.size ≤ maxLen) (hh : hasN L n = true) (ty : TypeId) :
    ∃ w', (Builtin.delete_ #[80, 9] ty #[.map (some fm), .string n]).run Try.prog w = .ok (.tuple #[]) w' ∧ FMap w' ok fm (delL n L) ∧ w.mapTurned w' fm := by
  obtain ⟨D, h1, h2, h3, h4⟩ := h.out
  have hti := h1.tidy lawS
  obtain ⟨w', hrun, hown, hturn⟩ := h1.drop lawS Try.underlying80 (keyS hn) ty
  have n5 : No5 w (some fm) := No5.map h1
  refine ⟨w', hrun, ⟨_, ownsMap_tight hown, ?_, fun m => ?_, fun f hf => ?_⟩, hturn⟩
  · have := size_del hti (k := .string (ky n))
    rw [h3, hh, h2] at this
    have := length_delL hh
    simp at *
    omega
  · rw [has_delL hr, ← h3]
    by_cases e : ky n = ky m
    · rw [e, has_del_same]
      simp
    · rw [has_del_other (fun h => e (by injection h with h; exact h.symm))]
      have : (ky n == ky m) = false := by simpa using e
      rw [this]
      simp
  · have hm := mem_delL hf
    have e : ky n ≠ ky f.f0 := by
      intro e
      have := has_delL (n := n) (m := f.f0) hr
      rw [show (ky n == ky f.f0) = true by simpa using e] at this
      have h6 : hasN (delL n L) f.f0 = true := hasN_iff.2 ⟨f, hf, rfl⟩
      rw [h6] at this
      simp at this
    obtain ⟨u, h5, h6⟩ := h4 f hm
    refine ⟨u, ?_, h6.grown hturn.grown n5⟩
    rw [atKey_del_other (fun h => e (by injection h with h; exact h.symm))]
    exact h5
/-! ### troubles -/
theorem planF_snoc_old {plan : List S76} {p : S76} (_hne : ∀ q ∈ plan, q.f2 ≠ 0) (c n : Int) (h : planF plan p.f0 p.f1 ≠ 0) : planF (plan ++ [p]) c n = planF plan c n := by
  unfold planF
  rw [List.find?_append]
  cases hf : plan.find? fun q => decide (q.f0 = c ∧ q.f1 = n) with
  | some q => rfl
  | none =>
    rw [Option.none_or]
    by_cases e : p.f0 = c ∧ p.f1 = n
    · exfalso
      apply h
      unfold planF
      rw [e.1, e.2, hf]
    · rw [List.find?_cons_of_neg (by simpa using e)]
      rfl
theorem planF_zero {plan : List S76} (hne : ∀ q ∈ plan, q.f2 ≠ 0) {c n : Int} (h : planF plan c n = 0) : plan.find? (fun q => decide (q.f0 = c ∧ q.f1 = n)) = none := by
  unfold planF at h
  cases hf : plan.find? fun q => decide (q.f0 = c ∧ q.f1 = n) with
  | none => rfl
  | some q => rw [hf] at h; exact absurd h (hne q (List.mem_of_find?_eq_some hf))
theorem planF_snoc_new {plan : List S76} {p : S76} (hne : ∀ q ∈ plan, q.f2 ≠ 0) (c n : Int) (h : planF plan p.f0 p.f1 = 0) : planF (plan ++ [p]) c n = if p.f0 = c ∧ p.f1 = n then p.f2 else planF plan c n := by
  by_cases e : p.f0 = c ∧ p.f1 = n
  · rw [if_pos e]
    have h0 := planF_zero hne h
    rw [e.1, e.2] at h0
    unfold planF
    rw [List.find?_append, h0, Option.none_or, List.find?_cons_of_pos (by simpa using e)]
  · rw [if_neg e]
    unfold planF
    rw [List.find?_append]
    cases hf : plan.find? fun q => decide (q.f0 = c ∧ q.f1 = n) with
    | some q => rfl
    | none =>
      rw [Option.none_or, List.find?_cons_of_neg (by simpa using e)]
      rfl
theorem PMap.keep {w w' : World} {pm : Nat} {plan : List S76} (h : PMap w pm plan) (hk : Keeps (fun k => k = pm) w w') : PMap w' pm plan := by
  obtain ⟨D, h1, h2⟩ := h
  exact ⟨D, ownsMap_keep h1 hk rfl, h2⟩
theorem AMap.keep {w w' : World} {am : Nat} {all : List S102} (h : AMap w am all) (hk : Keeps (fun k => k = am) w w') : AMap w' am all := by
  obtain ⟨D, h1, h2⟩ := h
  exact ⟨D, ownsMap_keep h1 hk rfl, h2⟩
theorem PMap.look {w : World} {pm : Nat} {plan : List S76} (h : PMap w pm plan) {c n : Int} (hc : (Lit.int .i64 c).wf = true) (hn : (Lit.int .i64 n).wf = true) :
    ∀ W, Keeps (fun k => k = pm) w W → (Instr.lookup 81 (.map (some pm)) (.agg #[.int .i64 c, .int .i64 n]) false).run Try.prog W = .ok (.int .i64 (planF plan c n)) W := by
  intro W hW
  obtain ⟨D, h1, _, h3⟩ := h
  obtain ⟨x, hrun, hat, _⟩ := (ownsMap_keep h1 hW rfl).lookup_int lawT Try.underlying81 Try.underlying42 (zero42 W) (keyT hc hn)
  rw [h3 c n hc hn] at hat
  injection hat with hat
  injection hat with _ hat
  rw [hrun, hat]
theorem PMap.old {w : World} {pm : Nat} {plan : List S76} (h : PMap w pm plan) (hne : ∀ q ∈ plan, q.f2 ≠ 0) {p : S76} (hz : planF plan p.f0 p.f1 ≠ 0) : PMap w pm (plan ++ [p]) := by
  obtain ⟨D, h1, h2, h3⟩ := h
  exact ⟨D, h1, by rw [List.length_append]; omega, fun c n hc hn => by rw [planF_snoc_old hne c n hz]; exact h3 c n hc hn⟩
theorem PMap.store {w : World} {pm : Nat} {plan : List S76} (h : PMap w pm plan) (hne : ∀ q ∈ plan, q.f2 ≠ 0) (hl : plan.length < maxLen) {p : S76} (hc : (Lit.int .i64 p.f0).wf = true) (hn : (Lit.int .i64 p.f1).wf = true) (h2 : (Lit.int .i64 p.f2).wf = true) (hz : planF plan p.f0 p.f1 = 0) :
    ∃ w', (Instr.mapUpdate 81 (.map (some pm)) (.agg #[.int .i64 p.f0, .int .i64 p.f1]) (.int .i64 p.f2)).run Try.prog w = .ok () w' ∧ PMap w' pm (plan ++ [p]) ∧ w.mapTurned w' pm := by
  obtain ⟨D, k1, k2, k3⟩ := h
  have hti := k1.tidy lawT
  obtain ⟨w', hrun, hown, hturn⟩ := k1.store lawT Try.underlying81 (Nat.lt_of_le_of_lt k2 hl) (keyT hc hn) (plainElem_int Try.underlying42 h2)
  refine ⟨w', hrun, ⟨_, ownsMap_tight hown, ?_, fun c n wc wn => ?_⟩, hturn⟩
  · have := hown.size_le
    rw [List.length_append]
    simp
    omega
  · rw [planF_snoc_new hne c n hz]
    by_cases e : p.f0 = c ∧ p.f1 = n
    · rw [if_pos e, ← e.1, ← e.2]
      exact atKey_put_same hti.isMap (lawT.key (keyT hc hn)) _ _
    · rw [if_neg e, atKey_put_other (fun h => e ?_)]
      · exact k3 c n wc wn
      · have := tkey_inj wc wn hc hn h
        exact ⟨this.1.symm, this.2.symm⟩
/-! ### turns -/
theorem cntL_snoc (all : List S102) (x : S102) (c : Int) : cntL (all ++ [x]) c = if x.f0 = c then cntL all c + 1 else cntL all c := by
  unfold cntL
  rw [List.filter_append, List.length_append]
  by_cases e : x.f0 = c <;> simp [e]
theorem cntL_le (all : List S102) (c : Int) : cntL all c ≤ all.length := List.length_filter_le _ _
theorem AMap.look {w : World} {am : Nat} {all : List S102} (h : AMap w am all) {c : Int} (hc : (Lit.int .i64 c).wf = true) :
    ∀ W, Keeps (fun k => k = am) w W → (Instr.lookup 82 (.map (some am)) (.int .i64 c) false).run Try.prog W = .ok (.int .i64 (cntL all c : Nat)) W := by
  intro W hW
  obtain ⟨D, h1, _, h3⟩ := h
  obtain ⟨x, hrun, hat, _⟩ := (ownsMap_keep h1 hW rfl).lookup_int lawI Try.underlying82 Try.underlying3 (zero3 W) (keyI hc)
  rw [h3 c] at hat
  injection hat with hat
  injection hat with _ hat
  rw [hrun, hat]
/-- 'asked[c]++', ahead of the call's being noted down. -/
theorem AMap.store {w : World} {am : Nat} {all : List S102} (h : AMap w am all) (hl : all.length < 4611686018427387904) {x : S102} (hc : (Lit.int .i64 x.f0).wf = true) :
    ∃ w', (Instr.mapUpdate 82 (.map (some am)) (.int .i64 x.f0) (.int .i64 ((cntL all x.f0 : Int) + 1))).run Try.prog w = .ok () w' ∧ AMap w' am (all ++ [x]) ∧ w.mapTurned w' am := by
  obtain ⟨D, k1, k2, k3⟩ := h
  have hti := k1.tidy lawI
  have hcl := cntL_le all x.f0
  obtain ⟨w', hrun, hown, hturn⟩ := k1.store lawI Try.underlying82 (by simp only [maxLen]; omega) (keyI hc) (plainElem_int Try.underlying3 (a := (cntL all x.f0 : Int) + 1) (WalkArith.wf_i64 (by omega)))
  refine ⟨w', hrun, ⟨_, ownsMap_tight hown, ?_, fun c => ?_⟩, hturn⟩
  · have := hown.size_le
    rw [List.length_append]
    simp
    omega
  · rw [cntL_snoc]
    by_cases e : x.f0 = c
    · rw [if_pos e, ← e, atKey_put_same hti.isMap (lawI.key (keyI hc))]
      rfl
    · rw [if_neg e, atKey_put_other (fun h => e ?_)]
      · exact k3 c
      · injection h with _ h
        exact h.symm
end Go.Proofs.Ytplknppmaepinaa.S
/- The program's New. -/
namespace Go.Proofs.Ytplknppmaepinaa.S
open Go Go.RowKit Go.X Go.Maps Go.Proofs.YtplknppmaepinaaW.PrintWords Go.Proofs.Ytplknppmaepinaa.F
set_option maxRecDepth 100000

theorem FMap.but {w w' : World} {ok S : Nat → Prop} {fm : Nat} {L : List S73} (h : FMap w ok fm L) (g : But S w w') (hf : ¬ S fm) (hr : ∀ b, S b → No5 w (some b)) : FMap w' ok fm L := by
  obtain ⟨D, h1, h2, h3, h4⟩ := h.out
  exact ⟨D, ownsMap_keep h1 (ok := fun k => k = fm) (fun k hk hlt => g.block k hlt (by cases hk; exact hf)) rfl, h2, h3, fun f hf' => by obtain ⟨v, h5, h6⟩ := h4 f hf'; exact ⟨v, h5, h6.but g hr⟩⟩
theorem FMap.lt {w : World} {ok : Nat → Prop} {fm : Nat} {L : List S73} (h : FMap w ok fm L) : fm < w.heap.size := by
  obtain ⟨D, h1, _⟩ := h.out
  exact h1.lt
theorem PMap.lt {w : World} {pm : Nat} {plan : List S76} (h : PMap w pm plan) : pm < w.heap.size := by
  obtain ⟨D, h1, _⟩ := h
  exact h1.lt
theorem AMap.lt {w : World} {am : Nat} {all : List S102} (h : AMap w am all) : am < w.heap.size := by
  obtain ⟨D, h1, _⟩ := h
  exact h1.lt
theorem FMap.ne {w : World} {ok : Nat → Prop} {fm : Nat} {L : List S73} (h : FMap w ok fm L) {b : Nat} {t : TypeId} {cs : List Value} (hb : Blk w b t cs) : fm ≠ b := by
  obtain ⟨D, h1, _⟩ := h.out
  exact ownsMap_ne_blk h1 hb
theorem PMap.ne {w : World} {pm : Nat} {plan : List S76} (h : PMap w pm plan) {b : Nat} {t : TypeId} {cs : List Value} (hb : Blk w b t cs) : pm ≠ b := by
  obtain ⟨D, h1, _⟩ := h
  exact ownsMap_ne_blk h1 hb
theorem AMap.ne {w : World} {am : Nat} {all : List S102} (h : AMap w am all) {b : Nat} {t : TypeId} {cs : List Value} (hb : Blk w b t cs) : am ≠ b := by
  obtain ⟨D, h1, _⟩ := h
  exact ownsMap_ne_blk h1 hb
theorem FMap.no5 {w : World} {ok : Nat → Prop} {fm : Nat} {L : List S73} (h : FMap w ok fm L) : No5 w (some fm) := by
  obtain ⟨D, h1, _⟩ := h.out
  exact No5.map h1
/-- The shelf's parts in memory (nothing was asked yet). -/
structure NewAt (w : World) (ok : Nat → Prop) (sb fm pm am : Nat) (room : Int) (acc : List S73) (plan : List S76) : Prop where
  blk : Blk w sb 84 [.map (some fm), .int .i64 room, .int .i64 (szL acc), .map (some pm), .map (some am), .slice none 0 0]
  files : FMap w ok fm acc
  troubles : PMap w pm plan
  turns : AMap w am []
  oks : ok sb ∧ ok fm ∧ ok pm ∧ ok am
  ne : fm ≠ pm ∧ fm ≠ am ∧ pm ≠ am
theorem NewAt.shelf {w : World} {ok : Nat → Prop} {sb fm pm am : Nat} {room : Int} {acc : List S73} {plan : List S76} (h : NewAt w ok sb fm pm am room acc plan) : ShelfAt w ok sb ⟨acc, room, plan, []⟩ :=
  ⟨fm, pm, am, _, h.blk, h.files, h.troubles, h.turns, own_nil _ _ _ _, ⟨h.oks.1, h.oks.2.1, h.oks.2.2.1, h.oks.2.2.2, by simp [Value.ownBlock]⟩, h.ne⟩
theorem NewAt.keep {w w' : World} {ok : Nat → Prop} {sb fm pm am : Nat} {room : Int} {acc : List S73} {plan : List S76} (h : NewAt w ok sb fm pm am room acc plan) (hk : Keeps ok w w') : NewAt w' ok sb fm pm am room acc plan :=
  ⟨Blk.keep h.blk hk h.oks.1, h.files.keep hk h.oks.2.1, h.troubles.keep (fun k e => by cases e; exact hk _ h.oks.2.2.1), h.turns.keep (fun k e => by cases e; exact hk _ h.oks.2.2.2), h.oks, h.ne⟩
theorem NewAt.start (w : World) (room : Int) :
    NewAt ((((w.alloc (.map #[] 0)).alloc (.map #[] 0)).alloc (.map #[] 0)).alloc (.cells #[.map (some w.heap.size), .int .i64 room, .int .i64 0, .map (some (w.heap.size + 1)), .map (some (w.heap.size + 2)), .slice none 0 0] 84)) (fun k => w.heap.size ≤ k) (w.heap.size + 3) w.heap.size (w.heap.size + 1) (w.heap.size + 2) room [] [] := by
  have s1 : (w.alloc (.map #[] 0)).heap.size = w.heap.size + 1 := by simp
  have s2 : ((w.alloc (.map #[] 0)).alloc (.map #[] 0)).heap.size = w.heap.size + 2 := by simp
  have s3 : (((w.alloc (.map #[] 0)).alloc (.map #[] 0)).alloc (.map #[] 0)).heap.size = w.heap.size + 3 := by simp
  refine ⟨?_, ⟨.map [], ?_, rfl, fun n => rfl, fun f hf => by cases hf⟩, ⟨.map [], ?_, Nat.le_refl _, fun c n _ _ => rfl⟩, ⟨.map [], ?_, Nat.le_refl _, fun c => rfl⟩, ⟨by omega, by omega, by omega, by omega⟩, by omega, by omega, by omega⟩
  · have := Blk.alloc (((w.alloc (.map #[] 0)).alloc (.map #[] 0)).alloc (.map #[] 0)) #[.map (some w.heap.size), .int .i64 room, .int .i64 0, .map (some (w.heap.size + 1)), .map (some (w.heap.size + 2)), .slice none 0 0] 84
    rw [s3] at this
    exact this
  · exact ((((World.ownsMap_made w Try.prog 9 RH).alloc _).alloc _).alloc _)
  · have := World.ownsMap_made (w.alloc (.map #[] 0)) Try.prog 92 (plainElem (H := Value) Try.prog 42)
    rw [s1] at this
    exact (this.alloc _).alloc _
  · have := World.ownsMap_made ((w.alloc (.map #[] 0)).alloc (.map #[] 0)) Try.prog 3 (plainElem (H := Value) Try.prog 3)
    rw [s2] at this
    exact this.alloc _
/-- A file more. -/
theorem NewAt.file {w5 w6 w7 : World} {ok : Nat → Prop} {sb fm pm am : Nat} {room : Int} {acc : List S73} {plan : List S76} {f : S73} (h : NewAt w5 ok sb fm pm am room acc plan) (hr : Rises acc) (hn : hasN acc f.f0 = false)
    (hf : FMap w6 ok fm (putL f.f0 f.f1 acc)) (ht : w5.mapTurned w6 fm) (e : w7 = w6.setCell ⟨sb, 2, none⟩ (.int .i64 ((szL acc : Int) + f.f1.length))) : NewAt w7 ok sb fm pm am room (putL f.f0 f.f1 acc) plan ∧ But (fun k => k = fm ∨ k = sb) w5 w7 := by
  subst e
  have g1 := ht.grown
  have hb6 : Blk w6 sb 84 _ := h.blk.grown g1 (fun e => h.files.ne h.blk (by injection e with e; exact e.symm))
  have g2 := grown_setCell w6 ⟨sb, 2, none⟩ (.int .i64 ((szL acc : Int) + f.f1.length))
  have n6 : No5 w6 (some sb) := No5.blk hb6 (by decide)
  have fb := hf.ne hb6
  have hp6 : PMap w6 pm plan := h.troubles.keep (fun k e hlt => by cases e; exact g1.block _ hlt (fun e => h.ne.1 (by injection e with e; exact e.symm)))
  have ha6 : AMap w6 am [] := h.turns.keep (fun k e hlt => by cases e; exact g1.block _ hlt (fun e => h.ne.2.1 (by injection e with e; exact e.symm)))
  refine ⟨⟨?_, hf.but (S := fun k => k = sb) (But.of_grown g2 fun k e => by cases e; rfl) fb (fun b hb => by cases hb; exact n6), hp6.keep (fun k e hlt => by cases e; exact g2.block _ hlt (fun e => hp6.ne hb6 (by injection e))), ha6.keep (fun k e hlt => by cases e; exact g2.block _ hlt (fun e => ha6.ne hb6 (by injection e))), h.oks, h.ne⟩, ?_⟩
  · have := hb6.setCell 2 (.int .i64 ((szL acc : Int) + f.f1.length))
    have hs : (szL (putL f.f0 f.f1 acc) : Int) = (szL acc : Int) + f.f1.length := by
      rw [szL_putL hr, szBut_none hn]; simp
    rw [hs]
    exact this
  · exact (But.of_grown g1 fun k e => by cases e; exact .inl rfl).trans2 (But.of_grown g2 fun k e => by cases e; exact .inr rfl)
theorem bcase4 (a b c : Bool) : a = true ∨ (a = false ∧ b = true) ∨ (a = false ∧ b = false ∧ c = true) ∨ (a = false ∧ b = false ∧ c = false) := by cases a <;> cases b <;> cases c <;> simp
theorem bcase3 {a b c : Bool} (h : a = true ∨ b = true ∨ c = true) : a = true ∨ (a = false ∧ b = true) ∨ (a = false ∧ b = false ∧ c = true) := by cases a <;> cases b <;> simp_all
theorem bads {p : S76} (h : badT p = true) : p.f0 < 1 ∨ 3 < p.f0 ∨ p.f1 < 1 ∨ ¬ (p.f2 = 11 ∨ p.f2 = 12 ∨ p.f2 = 13) := by
  simp only [badT, Bool.or_eq_true, decide_eq_true_eq, Bool.not_eq_true', Bool.or_eq_false_iff, decide_eq_false_iff_not] at h
  omega
theorem goods {p : S76} (h : ¬ badT p = true) : 1 ≤ p.f0 ∧ p.f0 ≤ 3 ∧ 1 ≤ p.f1 ∧ (p.f2 = 11 ∨ p.f2 = 12 ∨ p.f2 = 13) := by
  simp only [badT, Bool.or_eq_true, decide_eq_true_eq, Bool.not_eq_true', Bool.or_eq_false_iff, decide_eq_false_iff_not] at h
  omega
theorem bools {x y : Int} {b : Bool} (h : decide (x = y) = b) : x = y ↔ b = true := by rw [← h]; simp
/-- A trouble more. -/
theorem NewAt.trouble {w w6 : World} {ok : Nat → Prop} {sb fm pm am : Nat} {room : Int} {acc : List S73} {plan : List S76} {p : S76} (h : NewAt w ok sb fm pm am room acc plan) (hp : PMap w6 pm (plan ++ [p])) (ht : w.mapTurned w6 pm) : NewAt w6 ok sb fm pm am room acc (plan ++ [p]) := by
  have g := ht.grown
  have n5 : No5 w (some pm) := by
    obtain ⟨D, h1, _⟩ := h.troubles
    exact No5.map h1
  refine ⟨h.blk.grown g (fun e => h.troubles.ne h.blk (by injection e with e; exact e.symm)), h.files.but (mapTurned_but ht) h.ne.1 (fun b hb => by cases hb; exact n5), hp, h.turns.keep (fun k e hlt => by cases e; exact g.block _ hlt (fun e => h.ne.2.2 (by injection e with e; exact e.symm))), h.oks, h.ne⟩
theorem plan_more {ps : List S76} {j : Nat} {p : S76} (h1 : newP ps = newP (ps.drop j)) (h2 : ∀ p ∈ ps.take j, p.f2 ≠ 0) (hp : ps[j]? = some p) (hb : ¬ badT p = true) (h0 : p.f2 ≠ 0) :
    newP ps = newP (ps.drop (j + 1)) ∧ (∀ q ∈ ps.take (j + 1), q.f2 ≠ 0) ∧ ps.take (j + 1) = ps.take j ++ [p] := by
  have hl : ps.take (j + 1) = ps.take j ++ [p] := by
    have hlt := (List.getElem?_eq_some_iff.1 hp).1
    rw [List.take_succ_eq_append_getElem hlt, (List.getElem?_eq_some_iff.1 hp).2]
  refine ⟨by rw [h1, newP_step hp, if_neg hb], fun q hq => ?_, hl⟩
  rw [hl] at hq
  rcases List.mem_append.1 hq with hq | hq
  · exact h2 q hq
  · simp at hq
    rw [hq]; exact h0
/-- What the program's New leaves. -/
def NewPost (w : World) (fs : List S73) (room : Int) (ps : List S76) (e : Ending) (w' : World) : Prop :=
  Below w.heap.size w w' ∧ ((newE fs room ps ≠ 0 ∧ e = .returned (.tuple #[.pointer none, .int .i64 (newE fs room ps)])) ∨
    (newE fs room ps = 0 ∧ ∃ sb, e = .returned (.tuple #[.pointer (some ⟨sb, 0, none⟩), .int .i64 0]) ∧ ShelfAt w' (fun k => w.heap.size ≤ k) sb (newS fs room ps)))
theorem drawn_drewN (w : World) (q : Nat) : Below w.heap.size w (w.drewN q) := Drawn0.below ⟨q, rfl⟩
set_option maxHeartbeats 8000000 in
theorem new.calls (Af Ap : Option Addr) (cf cp : Nat) (fs : List S73) (ps : List S76) (room : Int) (w : World) (hf : Kd.C k73 w Af fs.length fs) (hp : Kd.C k76 w Ap ps.length ps) (hn : fs.length ≤ 67108864) (hm : ∀ f ∈ fs, f.f1.length ≤ 140737488355328) (hz : ∀ f ∈ fs, f.f0.size ≤ maxLen) (hq : ps.length ≤ 5864062014805)
    (hwf : ∀ p ∈ ps, (Lit.int .i64 p.f0).wf = true ∧ (Lit.int .i64 p.f1).wf = true ∧ (Lit.int .i64 p.f2).wf = true) :
    Calls Try.prog 17 #[.slice Af fs.length cf, .int .i64 room, .slice Ap ps.length cp] w (NewPost w fs room ps) := by
  have HF := Lib.hid hf; clear hf
  have HP := Lib.hid hp; clear hp
  have HM := Lib.hid hm; clear hm
  have HZ := Lib.hid hz; clear hz
  have HWF := Lib.hid hwf; clear hwf
  by_cases hr : room < 0 ∨ 16777216 < room
  · have he := newE_room (fs := fs) (ps := ps) hr
    have HE := Lib.hid he; clear he
    go_enter Try.func17, Try.ntmps17
    rcases Classical.em (room < 0) with h0 | h0
    · go_wp2
      go_ret2
      exact ⟨Below.refl _ _, .inl ⟨by rw [HE.out]; decide, by rw [HE.out]; rfl⟩⟩
    · have h1 : 16777216 < room := by omega
      go_wp2
      go_ret2
      exact ⟨Below.refl _ _, .inl ⟨by rw [HE.out]; decide, by rw [HE.out]; rfl⟩⟩
  · have hr0 : ¬ room < 0 := fun h => hr (.inl h)
    have hr1 : ¬ 16777216 < room := fun h => hr (.inr h)
    have HRM : Hid (¬ (room < 0 ∨ 16777216 < room)) := hr
    clear hr
    have hmm := @run_makeMap Try.prog
    go_enter Try.func17, Try.ntmps17
    go_wp2
    have HN0 : Hid (NewAt ((((w.alloc (.map #[] 0)).alloc (.map #[] 0)).alloc (.map #[] 0)).alloc (.cells #[.map (some w.heap.size), .int .i64 room, .int .i64 0, .map (some (w.heap.size + 1)), .map (some (w.heap.size + 2)), .slice none 0 0] 84)) (fun k => w.heap.size ≤ k) (w.heap.size + 3) w.heap.size (w.heap.size + 1) (w.heap.size + 2) room [] [] ∧ Below w.heap.size w ((((w.alloc (.map #[] 0)).alloc (.map #[] 0)).alloc (.map #[] 0)).alloc (.cells #[.map (some w.heap.size), .int .i64 room, .int .i64 0, .map (some (w.heap.size + 1)), .map (some (w.heap.size + 2)), .slice none 0 0] 84))) :=
      ⟨NewAt.start w room, (((((Below.refl _ _).alloc (Nat.le_refl _) _).alloc (by simp) _).alloc (by simp; omega) _).alloc (by simp; omega) _)⟩
    generalize ((((w.alloc (.map #[] 0)).alloc (.map #[] 0)).alloc (.map #[] 0)).alloc (.cells #[.map (some w.heap.size), .int .i64 room, .int .i64 0, .map (some (w.heap.size + 1)), .map (some (w.heap.size + 2)), .slice none 0 0] 84)) = w0 at *
    obtain ⟨N, hN⟩ : ∃ N, w.heap.size = N := ⟨_, rfl⟩
    have HN := Lib.hid hN
    rw [hN] at HN0 ⊢
    clear hN hmm
    generalize N + 3 = sb at *
    generalize N + 1 = pm at *
    generalize N + 2 = am at *
    go_loopg [31] fs.length (fun q v wr => ∃ (i : Nat) (acc : List S73), q + i = fs.length ∧ v = .int .i64 (i : Nat) ∧ Hid (Acc room fs acc i ∧ NewAt wr (fun k => N ≤ k) sb N pm am room acc [] ∧ Below N w wr))
    case atStart => exact ⟨0, [], by simp, rfl, ⟨Rises.nil, by simp, rfl, by omega, by simp [szL]; omega, by simp⟩, HN0.out⟩
    case round =>
      clear HN0
      obtain ⟨i, acc, hi, rfl, HI⟩ := hrel
      by_cases hlt : i < fs.length
      · obtain ⟨f, hf⟩ : ∃ f, fs[i]? = some f := ⟨_, List.getElem?_eq_getElem hlt⟩
        have hfl := HM.out f (List.mem_of_getElem? hf)
        have hfz := HZ.out f (List.mem_of_getElem? hf)
        obtain ⟨ad, A1, c1, eA, e0, e1, hc1l, hc1⟩ := fs_at (Kd.C_below HF.out (HN.out ▸ HI.out.2.2)) hf
        subst eA
        have HBK : Hid (∀ W, Below wr.heap.size wr W → Below w.heap.size w W) := fun W hW => by
          have h1 : Below w.heap.size w wr := HN.out ▸ HI.out.2.2
          exact h1.trans (hW.mono h1.size)
        have HC1 := Lib.hid hc1; clear hc1
        have HFI := Lib.hid hf; clear hf
        have HFL := Lib.hid hfl; clear hfl
        have HFZ := Lib.hid hfz; clear hfz
        have HIL := Lib.hid hlt
        have hi0 : (0 : Int) ≤ (i : Int) := Int.natCast_nonneg _
        have hi1 : (i : Int) < (fs.length : Int) := Int.ofNat_lt.2 hlt
        have HA : ∀ wa : World, wa = wr.alloc (.cells #[.string f.f0, .slice A1 f.f1.length c1] 73) → Hid (Blk wa wr.heap.size 73 [.string f.f0, .slice A1 f.f1.length c1] ∧ NewAt wa (fun k => N ≤ k) sb N pm am room acc [] ∧ Below wr.heap.size wr wa) := by
          rintro wa rfl
          have hb : Below wr.heap.size wr (wr.alloc (.cells #[.string f.f0, .slice A1 f.f1.length c1] 73)) := (Below.refl _ _).alloc (Nat.le_refl _) _
          exact ⟨Blk.alloc wr _ _, HI.out.2.1.keep (Keeps.below hb), hb⟩
        go_upto_region 7 with (fail)
        generalize hwa : wr.alloc (.cells #[.string f.f0, .slice A1 f.f1.length c1] 73) = wa
        have HW0 := HA wa hwa.symm
        have HLB0 : Hid (N ≤ wr.heap.size) := HN.out ▸ HI.out.2.2.size
        clear HA hwa e0 e1
        obtain ⟨lb, hlb⟩ : ∃ lb, wr.heap.size = lb := ⟨_, rfl⟩
        rw [hlb]
        have HW : Hid (Blk wa lb 73 [.string f.f0, .slice A1 f.f1.length c1] ∧ NewAt wa (fun k => N ≤ k) sb N pm am room acc [] ∧ Below wr.heap.size wr wa) := ⟨hlb ▸ HW0.out.1, HW0.out.2⟩
        have HLB : Hid (N ≤ lb) := hlb ▸ HLB0.out
        have HLW := Lib.hid hlb
        clear hlb HW0 HLB0
        have c0 : wa.cell? ⟨lb, 0, none⟩ = some (.string f.f0) := HW.out.1.cell 0
        have d0 : wa.cell? ⟨sb, 0, none⟩ = some (.map (some N)) := HW.out.2.1.blk.cell 0
        obtain ⟨ov, hlk, _, _⟩ := HW.out.2.1.files.look HFZ.out
        have hlk1 := fun q => (hlk (wa.drewN q) (Keeps.below (drawn_drewN wa q))).1
        clear hlk
        obtain ⟨bh, hbh⟩ : ∃ bh, hasN acc f.f0 = bh := ⟨_, rfl⟩
        have HBH := Lib.hid hbh
        rw [hbh] at hlk1
        clear hbh
        go_quiet (fail)
        clear hlk1 c0 d0
        have HW2 : Hid (Blk (wa.drewN nq) lb 73 [.string f.f0, .slice A1 f.f1.length c1] ∧ NewAt (wa.drewN nq) (fun k => N ≤ k) sb N pm am room acc [] ∧ Below wr.heap.size wr (wa.drewN nq)) :=
          ⟨HW.out.1.below (drawn_drewN wa nq) HW.out.1.lt, HW.out.2.1.keep (Keeps.below (drawn_drewN wa nq)), HW.out.2.2.trans ((drawn_drewN wa nq).mono HW.out.2.2.size)⟩
        clear HW
        generalize wa.drewN nq = w2 at *
        cases bh
        · have c0 : w2.cell? ⟨lb, 0, none⟩ = some (.string f.f0) := HW2.out.1.cell 0
          obtain ⟨bk, hbk⟩ : ∃ bk, nmOK f.f0 = bk := ⟨_, rfl⟩
          have HBKN := Lib.hid hbk; clear hbk
          go_wp2_with (first
            | (go_at_call 36; refine (named.calls f.f0 w2).mono ?_; rintro e w3 ⟨rfl, hb3⟩; rw [HBKN.out]
               have HW3 : Hid (Blk w3 lb 73 [.string f.f0, .slice A1 f.f1.length c1] ∧ NewAt w3 (fun k => N ≤ k) sb N pm am room acc [] ∧ Below wr.heap.size wr w3) :=
                 ⟨HW2.out.1.below hb3 HW2.out.1.lt, HW2.out.2.1.keep (Keeps.below hb3), HW2.out.2.2.trans (hb3.mono HW2.out.2.2.size)⟩
               clear hb3 c0 HW2
               dsimp only; cases bk)
            | fail)
          · go_ret2
            have he := newE_files (ps := ps) HRM.out (HI.out.1.bad1 HFI.out (by rw [HBH.out, HBKN.out]; rfl)) (by decide)
            exact ⟨HBK.out _ HW3.out.2.2, .inl ⟨by rw [he]; decide, by rw [he]; rfl⟩⟩
          · have c1' : w3.cell? ⟨lb, 1, none⟩ = some (.slice A1 f.f1.length c1) := HW3.out.1.cell 1
            have d0 : w3.cell? ⟨sb, 0, none⟩ = some (.map (some N)) := HW3.out.2.1.blk.cell 0
            have d1 : w3.cell? ⟨sb, 1, none⟩ = some (.int .i64 room) := HW3.out.2.1.blk.cell 1
            have d2 : w3.cell? ⟨sb, 2, none⟩ = some (.int .i64 (szL acc : Nat)) := HW3.out.2.1.blk.cell 2
            have hlen : ∀ (ty : TypeId) (q : Nat), (Builtin.len_ #[80] ty #[.map (some N)]).run Try.prog (w3.drewN q) = .ok (.int .i64 (i : Nat)) (w3.drewN q) := fun ty q => by
              have := HW3.out.2.1.files.len ty (w3.drewN q) (Keeps.below (drawn_drewN w3 q))
              rwa [HI.out.1.len] at this
            obtain ⟨t, ht⟩ : ∃ t, szL acc = t := ⟨_, rfl⟩
            have HT := Lib.hid ht
            rw [ht] at d2
            have htb : (t : Int) ≤ room := ht ▸ HI.out.1.fits
            clear ht
            have hw : IntKind.i64.wrap (room - (t : Int)) = room - (t : Int) := IntWalk.i64_in _ (by omega)
            by_cases h64 : i = 64
            · have hb64 : ((i : Int) == 64) = true := by rw [h64]; rfl
              have H64 := Lib.hid h64; clear h64
              go_quiet (fail)
              go_wp2
              go_ret2
              have he := newE_files (ps := ps) HRM.out (HI.out.1.bad2 HFI.out HBH.out HBKN.out (.inl H64.out)) (by decide)
              exact ⟨HBK.out _ (HW3.out.2.2.trans ((drawn_drewN w3 _).mono HW3.out.2.2.size)), .inl ⟨by rw [he]; decide, by rw [he]; rfl⟩⟩
            · have hb64 : ((i : Int) == 64) = false := by simpa using fun h => h64 (by omega)
              have H64 := Lib.hid h64; clear h64
              go_quiet (fail)
              clear c1' d0 d1 d2 hlen hw hb64
              have HW4 : Hid (Blk (w3.drewN nq) lb 73 [.string f.f0, .slice A1 f.f1.length c1] ∧ NewAt (w3.drewN nq) (fun k => N ≤ k) sb N pm am room acc [] ∧ Below wr.heap.size wr (w3.drewN nq)) :=
                ⟨HW3.out.1.below (drawn_drewN w3 nq) HW3.out.1.lt, HW3.out.2.1.keep (Keeps.below (drawn_drewN w3 nq)), HW3.out.2.2.trans ((drawn_drewN w3 nq).mono HW3.out.2.2.size)⟩
              clear HW3
              generalize w3.drewN nq = w4 at *
              go_wp2
              · rename_i hfull
                go_ret2
                have he := newE_files (ps := ps) HRM.out (HI.out.1.bad2 HFI.out HBH.out HBKN.out (.inr (by rw [HT.out]; omega))) (by decide)
                exact ⟨HBK.out _ HW4.out.2.2, .inl ⟨by rw [he]; decide, by rw [he]; rfl⟩⟩
              have hfit' : ¬ room < (szL acc : Int) + f.f1.length := by rw [HT.out]; omega
              have HFT := Lib.hid hfit'; clear hfit' htb
              have c0 : w4.cell? ⟨lb, 0, none⟩ = some (.string f.f0) := HW4.out.1.cell 0
              have c1' : w4.cell? ⟨lb, 1, none⟩ = some (.slice A1 f.f1.length c1) := HW4.out.1.cell 1
              have d0 : w4.cell? ⟨sb, 0, none⟩ = some (.map (some N)) := HW4.out.2.1.blk.cell 0
              have HAC : Hid (acc.length < maxLen) := by have := HI.out.1.len; have := HI.out.1.few; simp only [maxLen]; show _ < _; omega
              go_region_held3 (fun w' => w'.cell? ⟨lb, 0, none⟩ = some (.string f.f0) ∧ w'.cell? ⟨lb, 1, none⟩ = some (.slice A1 f.f1.length c1) ∧ w'.cell? ⟨sb, 0, none⟩ = some (.map (some N)))
                (first
                  | with_reducible exact ⟨q0, q1, q2⟩
                  | with_reducible exact ⟨p0, p1, p2⟩
                  | go_keep)
                (first
                  | (go_at_call 37; refine (clone.calls A1 c1 f.f1 w4.drew (Kd.C_below HC1.out (HW4.out.2.2.trans ((Below.refl _ w4).drew.mono HW4.out.2.2.size))) HFL.out).mono ?_; rintro e w5 ⟨v5, rfl, hdat, hbl⟩
                     have HB5 : Hid (Below w4.heap.size w4 w5) := (Below.refl _ w4).drew.trans hbl
                     have p0 := Below.cellS HB5.out c0
                     have p1 := Below.cellS HB5.out c1'
                     have p2 := Below.cellS HB5.out d0
                     have HNA5 : Hid (NewAt w5 (fun k => N ≤ k) sb N pm am room acc []) := HW4.out.2.1.keep (Keeps.below HB5.out)
                     obtain ⟨Av, cw, rfl, _, _⟩ := hdat.slice
                     obtain ⟨w6, hrun6, hfm6, htu6⟩ := HNA5.out.files.store HI.out.1.rises HAC.out HFZ.out (hdat.mono fun k hk => Nat.le_trans (Nat.le_trans (HN.out ▸ HI.out.2.2.size) HW4.out.2.2.size) hk)
                     have HLB5 : Hid (Blk w5 lb 73 [.string f.f0, .slice A1 f.f1.length c1]) := HW4.out.1.below HB5.out HW4.out.1.lt
                     have hne1 : ¬ lb = N := fun e => HNA5.out.files.ne HLB5.out e.symm
                     have hne2 : ¬ sb = N := fun e => HNA5.out.files.ne HNA5.out.blk e.symm
                     have q0 := but_cell (mapTurned_but htu6) p0 hne1
                     have q1 := but_cell (mapTurned_but htu6) p1 hne1
                     have q2 := but_cell (mapTurned_but htu6) p2 hne2
                     have HFM6 := Lib.hid hfm6; clear hfm6
                     have HTU6 := Lib.hid htu6; clear htu6 hdat hbl hne1 hne2))
              rename _ ∧ _ ∧ _ => hHeld
              clear hHeld c0 c1' d0 p0 p1 p2 q0 hrun6
              have HS6 : Hid (Blk w6 sb 84 [.map (some N), .int .i64 room, .int .i64 (szL acc : Nat), .map (some pm), .map (some am), .slice none 0 0]) := HNA5.out.blk.grown HTU6.out.grown (fun e => HNA5.out.files.ne HNA5.out.blk (by injection e with e; exact e.symm))
              have r2 : w6.cell? ⟨sb, 2, none⟩ = some (.int .i64 (t : Nat)) := HT.out ▸ HS6.out.cell 2
              have f2 : w6.frozen? ⟨sb, 2, none⟩ = false := HS6.out.frozen 2
              have hw2 : IntKind.i64.wrap ((t : Int) + (f.f1.length : Int)) = (t : Int) + (f.f1.length : Int) := IntWalk.i64_in _ (by have := HFT.out; have := HT.out; omega)
              go_wp2
              go_region
              have hN7 : ∀ w7 : World, w7 = (w6.setCell ⟨sb, 2, none⟩ (.int .i64 ((t : Int) + (f.f1.length : Int)))).drew → Hid (Acc room fs (putL f.f0 f.f1 acc) (i + 1) ∧ NewAt w7 (fun k => N ≤ k) sb N pm am room (putL f.f0 f.f1 acc) [] ∧ Below N w w7) := by
                rintro w7 rfl
                obtain ⟨k1, k2⟩ := HNA5.out.file HI.out.1.rises HBH.out HFM6.out HTU6.out (w7 := w6.setCell ⟨sb, 2, none⟩ (.int .i64 ((t : Int) + (f.f1.length : Int)))) (by rw [HT.out])
                have hle : N ≤ wr.heap.size := HN.out ▸ HI.out.2.2.size
                have b5 : Below N w w5 := HI.out.2.2.trans ((HW4.out.2.2.trans (HB5.out.mono HW4.out.2.2.size)).mono hle)
                have b7 : Below N w5 (w6.setCell ⟨sb, 2, none⟩ (.int .i64 ((t : Int) + (f.f1.length : Int)))) := k2.below (fun k hk => by rcases hk with rfl | rfl; exact Nat.le_refl _; exact HNA5.out.oks.1) (Nat.le_trans (Nat.le_trans hle HW4.out.2.2.size) HB5.out.size)
                exact ⟨HI.out.1.next HFI.out HBH.out HBKN.out H64.out (by have := HFT.out; omega), k1.keep (Keeps.below (Below.refl _ _).drew), (b5.trans b7).drew⟩
              have hiw : wrap64 ((i : Int) + 1) = ((i + 1 : Nat) : Int) := by rw [IntWalk.wrap64_in _ (by omega)]; rfl
              clear q1 q2 r2 f2 hw2 hi0 hi1
              generalize hw7 : (w6.setCell ⟨sb, 2, none⟩ (.int .i64 ((t : Int) + (f.f1.length : Int)))).drew = w7
              have HF7 := hN7 w7 hw7.symm
              clear hN7 hw7
              go_wp2
              go_roundg (fs.length - (i + 1))
              case measure => clear hiw; omega
              case rel => exact ⟨i + 1, putL f.f0 f.f1 acc, by clear hiw; omega, by first | rfl | rw [hiw], HF7.out⟩
        · go_wp2
          go_ret2
          have he := newE_files (ps := ps) HRM.out (HI.out.1.bad1 HFI.out (by rw [HBH.out]; rfl)) (by decide)
          exact ⟨HBK.out _ HW2.out.2.2, .inl ⟨by rw [he]; decide, by rw [he]; rfl⟩⟩
      · obtain rfl : i = fs.length := by omega
        have hdone := HI.out.1.done
        have HD := Lib.hid hdone; clear hdone
        have HI2 : Hid (NewAt wr (fun k => N ≤ k) sb N pm am room acc (ps.take 0) ∧ Below N w wr) := Lib.hid (by simpa using HI.out.2)
        clear HI hlt hi
        go_wp2
        go_loopg [97] ps.length (fun q v wr => ∃ j : Nat, q + j = ps.length ∧ v = .int .i64 (j : Nat) ∧ Hid (newP ps = newP (ps.drop j) ∧ ∀ p ∈ ps.take j, p.f2 ≠ 0) ∧ Hid (NewAt wr (fun k => N ≤ k) sb N pm am room acc (ps.take j) ∧ Below N w wr))
        case atStart => exact ⟨0, by simp, rfl, Lib.hid (by simp), HI2.out⟩
        case round =>
          clear HI2
          rename World => wr2
          obtain ⟨j, hj, rfl, HNP, HI⟩ := hrel
          by_cases hlt : j < ps.length
          · obtain ⟨p, hp⟩ : ∃ p, ps[j]? = some p := ⟨_, List.getElem?_eq_getElem hlt⟩
            obtain ⟨ad, eA, e0, e1, e2⟩ := ps_at (Kd.C_below HP.out (HN.out ▸ HI.out.2)) hp
            subst eA
            have hwfp := HWF.out p (List.mem_of_getElem? hp)
            have HWP := Lib.hid hwfp; clear hwfp
            have HPI := Lib.hid hp; clear hp
            have hj0 : (0 : Int) ≤ (j : Int) := Int.natCast_nonneg _
            have hj1 : (j : Int) < (ps.length : Int) := Int.ofNat_lt.2 hlt
            have HB1 : ∀ wa : World, wa = wr2.alloc (.cells #[.int .i64 p.f0, .int .i64 p.f1, .int .i64 p.f2] 76) → Hid (Blk wa wr2.heap.size 76 [.int .i64 p.f0, .int .i64 p.f1, .int .i64 p.f2] ∧ NewAt wa (fun k => N ≤ k) sb N pm am room acc (ps.take j) ∧ Below N w wa ∧ N ≤ wr2.heap.size) := by
              rintro wa rfl
              have hb : Below wr2.heap.size wr2 (wr2.alloc (.cells #[.int .i64 p.f0, .int .i64 p.f1, .int .i64 p.f2] 76)) := (Below.refl _ _).alloc (Nat.le_refl _) _
              have hle : N ≤ wr2.heap.size := HN.out ▸ HI.out.2.size
              exact ⟨Blk.alloc wr2 _ _, HI.out.1.keep (Keeps.below hb), HI.out.2.trans (hb.mono hle), hle⟩
            obtain ⟨b11, b12, b13, hb1, hb2, hb3⟩ : ∃ b11 b12 b13 : Bool, ((p.f2 == 11) = b11 ∧ decide (p.f2 = 11) = b11) ∧ ((p.f2 == 12) = b12 ∧ decide (p.f2 = 12) = b12) ∧ ((p.f2 == 13) = b13 ∧ decide (p.f2 = 13) = b13) := ⟨_, _, _, ⟨rfl, rfl⟩, ⟨rfl, rfl⟩, rfl, rfl⟩
            have HBS : Hid ((p.f2 = 11 ↔ b11 = true) ∧ (p.f2 = 12 ↔ b12 = true) ∧ (p.f2 = 13 ↔ b13 = true)) := ⟨bools hb1.2, bools hb2.2, bools hb3.2⟩
            obtain ⟨h11, h11'⟩ := hb1
            obtain ⟨h12, h12'⟩ := hb2
            obtain ⟨h13, h13'⟩ := hb3
            by_cases hbad : badT p = true
            · have hbad' := bads hbad
              rw [HBS.out.1, HBS.out.2.1, HBS.out.2.2] at hbad'
              have HBD := Lib.hid hbad'; clear hbad'
              have HBB := Lib.hid hbad; clear hbad
              have hret : NewPost w fs room ps (.returned (.tuple #[.pointer none, .int .i64 6])) (wr2.alloc (.cells #[.int .i64 p.f0, .int .i64 p.f1, .int .i64 p.f2] 76)) := by
                have he := newE_plan (ps := ps) HRM.out (show (newF room [] fs).1 = 0 by rw [HD.out])
                rw [HNP.out.1, newP_step HPI.out, if_pos HBB.out] at he
                exact ⟨HN.out ▸ (HB1 _ rfl).out.2.2.1, .inl ⟨by rw [he]; decide, by rw [he]⟩⟩
              have HRET := Lib.hid hret; clear hret HB1
              have HBC := bcase4 b11 b12 b13
              clear HBS
              rcases HBC with rfl | ⟨rfl, rfl⟩ | ⟨rfl, rfl, rfl⟩ | ⟨rfl, rfl, rfl⟩
              all_goals
                go_wp2
                all_goals first
                  | (go_ret2; exact HRET.out)
                  | (exfalso; have := HBD.out; simp only [Bool.false_eq_true, or_false, or_true, true_or, not_true_eq_false] at this; omega)
            · have hok := goods hbad
              have HBAD := Lib.hid hbad; clear hbad
              obtain ⟨k0, k1, k2, k3⟩ := hok
              have HP2 : Hid (p.f2 ≠ 0) := fun e => by rw [e] at k3; revert k3; decide
              rw [HBS.out.1, HBS.out.2.1, HBS.out.2.2] at k3
              have HBC := bcase3 k3
              clear k3 HBS
              obtain ⟨pf, hpf⟩ : ∃ pf, planF (ps.take j) p.f0 p.f1 = pf := ⟨_, rfl⟩
              have HPF := Lib.hid hpf
              have hlk : ∀ W, Keeps (fun k => k = pm) wr2 W → (Instr.lookup 81 (.map (some pm)) (.agg #[.int .i64 p.f0, .int .i64 p.f1]) false).run Try.prog W = .ok (.int .i64 pf) W := hpf ▸ HI.out.1.troubles.look HWP.out.1 HWP.out.2.1
              have HLK := Lib.hid hlk; clear hlk hpf
              have HB2 : ∀ wb : World, wb = (wr2.alloc (.cells #[.int .i64 p.f0, .int .i64 p.f1, .int .i64 p.f2] 76)).alloc (.cells #[.int .i64 p.f0, .int .i64 p.f1] 92) →
                  Hid (Blk wb wr2.heap.size 76 [.int .i64 p.f0, .int .i64 p.f1, .int .i64 p.f2] ∧ Blk wb (wr2.heap.size + 1) 92 [.int .i64 p.f0, .int .i64 p.f1] ∧ NewAt wb (fun k => N ≤ k) sb N pm am room acc (ps.take j) ∧ Below wr2.heap.size wr2 wb) := by
                rintro wb rfl
                have h1 := HB1 _ rfl
                have hs : (wr2.alloc (.cells #[.int .i64 p.f0, .int .i64 p.f1, .int .i64 p.f2] 76)).heap.size = wr2.heap.size + 1 := by simp
                have hb := Blk.alloc (wr2.alloc (.cells #[.int .i64 p.f0, .int .i64 p.f1, .int .i64 p.f2] 76)) #[.int .i64 p.f0, .int .i64 p.f1] 92
                rw [hs] at hb
                have hbel := (Below.refl _ (wr2.alloc (.cells #[.int .i64 p.f0, .int .i64 p.f1, .int .i64 p.f2] 76))).alloc (Nat.le_refl _) (.cells #[.int .i64 p.f0, .int .i64 p.f1] 92)
                exact ⟨h1.out.1.below hbel h1.out.1.lt, hb, h1.out.2.1.keep (Keeps.below hbel), ((Below.refl _ wr2).alloc (Nat.le_refl _) _).alloc (by simp) _⟩
              clear HB1
              rcases HBC with rfl | ⟨rfl, rfl⟩ | ⟨rfl, rfl, rfl⟩
              all_goals
                go_wp2
                generalize hwb : (wr2.alloc (.cells #[.int .i64 p.f0, .int .i64 p.f1, .int .i64 p.f2] 76)).alloc (.cells #[.int .i64 p.f0, .int .i64 p.f1] 92) = wb
                have HB := HB2 wb hwb.symm
                clear HB2 hwb e0 e1 e2 h11 h11' h12 h12' h13 h13'
                have d3 : wb.cell? ⟨sb, 3, none⟩ = some (.map (some pm)) := HB.out.2.2.1.blk.cell 3
                have c0 : wb.cell? ⟨wr2.heap.size + 1, 0, none⟩ = some (.int .i64 p.f0) := HB.out.2.1.cell 0
                have c1 : wb.cell? ⟨wr2.heap.size + 1, 1, none⟩ = some (.int .i64 p.f1) := HB.out.2.1.cell 1
                have hlk1 := fun q => HLK.out (wb.drewN q) (Keeps.below (HB.out.2.2.2.trans ((drawn_drewN wb q).mono HB.out.2.2.2.size)))
                go_quiet (fail)
                clear hlk1 d3 c0 c1
                have HB3 : Hid (Blk (wb.drewN nq) wr2.heap.size 76 [.int .i64 p.f0, .int .i64 p.f1, .int .i64 p.f2] ∧ Blk (wb.drewN nq) (wr2.heap.size + 1) 92 [.int .i64 p.f0, .int .i64 p.f1] ∧ NewAt (wb.drewN nq) (fun k => N ≤ k) sb N pm am room acc (ps.take j) ∧ Below N w (wb.drewN nq)) := by
                  have hle : N ≤ wr2.heap.size := HN.out ▸ HI.out.2.size
                  have hd := drawn_drewN wb nq
                  exact ⟨HB.out.1.below hd HB.out.1.lt, HB.out.2.1.below hd HB.out.2.1.lt, HB.out.2.2.1.keep (Keeps.below hd), HI.out.2.trans ((HB.out.2.2.2.trans (hd.mono HB.out.2.2.2.size)).mono hle)⟩
                clear HB
                generalize wb.drewN nq = w2 at *
                have hiw : wrap64 ((j : Int) + 1) = ((j + 1 : Nat) : Int) := by rw [IntWalk.wrap64_in _ (by omega)]; rfl
                have HNX : Hid (newP ps = newP (ps.drop (j + 1)) ∧ (∀ q ∈ ps.take (j + 1), q.f2 ≠ 0) ∧ ps.take (j + 1) = ps.take j ++ [p]) := plan_more HNP.out.1 HNP.out.2 HPI.out HBAD.out HP2.out
                have HNJ : Hid (N ≤ w2.heap.size) := Nat.le_trans (HN.out ▸ Nat.le_refl _) HB3.out.2.2.2.size
                by_cases hz : pf = 0
                · have hz1 : (pf == 0) = true := by rw [hz]; rfl
                  have HZ0 : Hid (planF (ps.take j) p.f0 p.f1 = 0) := HPF.out.trans hz
                  clear hz
                  have d3 : w2.cell? ⟨sb, 3, none⟩ = some (.map (some pm)) := HB3.out.2.2.1.blk.cell 3
                  have c0 : w2.cell? ⟨wr2.heap.size + 1, 0, none⟩ = some (.int .i64 p.f0) := HB3.out.2.1.cell 0
                  have c1 : w2.cell? ⟨wr2.heap.size + 1, 1, none⟩ = some (.int .i64 p.f1) := HB3.out.2.1.cell 1
                  have e2 : w2.cell? ⟨wr2.heap.size, 2, none⟩ = some (.int .i64 p.f2) := HB3.out.1.cell 2
                  have HDR : Hid (NewAt w2.drew (fun k => N ≤ k) sb N pm am room acc (ps.take j)) := HB3.out.2.2.1.keep (Keeps.below (Below.refl _ w2).drew)
                  have hpl : (ps.take j).length < maxLen := by rw [List.length_take]; simp only [maxLen]; omega
                  obtain ⟨w6, hrun6, hpm6, htu6⟩ := HDR.out.troubles.store HNP.out.2 hpl HWP.out.1 HWP.out.2.1 HWP.out.2.2 HZ0.out
                  clear hpl
                  have HF6 : Hid (NewAt w6 (fun k => N ≤ k) sb N pm am room acc (ps.take (j + 1)) ∧ Below N w w6) := by
                    refine ⟨HNX.out.2.2 ▸ HDR.out.trouble hpm6 htu6, ?_⟩
                    have b1 : Below N w w2.drew := HB3.out.2.2.2.drew
                    exact b1.grown htu6.grown HNJ.out (fun k hk => by cases hk; exact HDR.out.oks.2.2.1)
                  clear hpm6 htu6
                  go_wp2
                  go_region
                  clear hrun6 d3 c0 c1 e2 hz1
                  go_wp2
                  go_roundg (ps.length - (j + 1))
                  case measure => clear hiw; omega
                  case rel => exact ⟨j + 1, by clear hiw; omega, by first | rfl | rw [hiw], ⟨HNX.out.1, HNX.out.2.1⟩, HF6.out⟩
                · have hz1 : (pf == 0) = false := by simpa using hz
                  have HZ0 : Hid (planF (ps.take j) p.f0 p.f1 ≠ 0) := fun e => hz (HPF.out.symm.trans e)
                  clear hz
                  have HF6 : Hid (NewAt w2 (fun k => N ≤ k) sb N pm am room acc (ps.take (j + 1)) ∧ Below N w w2) := by
                    refine ⟨HNX.out.2.2 ▸ ?_, HB3.out.2.2.2⟩
                    obtain ⟨n1, n2, n3, n4, n5, n6⟩ := HB3.out.2.2.1
                    exact ⟨n1, n2, n3.old HNP.out.2 HZ0.out, n4, n5, n6⟩
                  go_wp2
                  go_roundg (ps.length - (j + 1))
                  case measure => clear hiw; omega
                  case rel => exact ⟨j + 1, by clear hiw; omega, by first | rfl | rw [hiw], ⟨HNX.out.1, HNX.out.2.1⟩, HF6.out⟩
          · obtain rfl : j = ps.length := by omega
            have hNP := HNP.out.1
            rw [List.drop_length] at hNP
            have he := newE_plan (ps := ps) HRM.out (show (newF room [] fs).1 = 0 by rw [HD.out])
            rw [hNP] at he
            have HE : Hid (newE fs room ps = 0) := he
            clear hNP he
            go_wp2
            go_ret2
            have hs : newS fs room ps = ⟨acc, room, ps.take ps.length, []⟩ := by rw [newS, HD.out, List.take_length]
            refine ⟨HN.out ▸ HI.out.2, .inr ⟨HE.out, sb, rfl, ?_⟩⟩
            rw [hs, HN.out]
            exact HI.out.1.shelf
end Go.Proofs.Ytplknppmaepinaa.S
/- What the shelves tell: Left, Calls; the document's Files. -/
namespace Go.X
open Go Go.RowKit
theorem make0 {P : Program} (t : TypeId) (e : TypeId) (z : Value) (size bytes : Nat) (h1 : P.underlying t = some (.slice e)) (h2 : (P.info? e).map (fun i => (i.zero, i.size, i.bytes)) = some (some z, size, bytes)) (_hz : z.cells.size = size)
    (n : Nat) (b2 : bytes * n ≤ 281474976710656) (b3 : n ≤ maxLen) : ∃ Z : Array Value, Z.size = n * size ∧ ∀ W : World, (Instr.makeSlice t (.int .i64 0) (.int .i64 (n : Nat))).run P W = .ok (.slice (some ⟨W.heap.size, 0, none⟩) 0 n) (W.alloc (.cells Z e)) := by
  obtain ⟨i, hi, hz0, hs, hb⟩ := info_parts h2
  refine ⟨madeCells z.cells (n * size), size_madeCells _ _, fun W => ?_⟩
  have hb' : (i.bytes : Int) * (n : Int) ≤ 281474976710656 := by
    have h : ((i.bytes * n : Nat) : Int) ≤ 281474976710656 := by rw [hb]; omega
    rwa [Int.natCast_mul] at h
  have hr := run_make (P := P) W t e i z h1 hi hz0 .i64 .i64 0 n (by omega) (by omega) hb' (by simp only [maxLen] at b3; omega)
  simpa [hs] using hr
theorem own_made (w : World) (e : TypeId) (size n : Nat) (Z : Array Value) (hz : Z.size = n * size) (hn : n ≤ maxLen) : (w.alloc (.cells Z e)).ownsRow w.heap.size e size (.slice (some ⟨w.heap.size, 0, none⟩) 0 n) 0 [] :=
  ⟨by simp, .inr ⟨w.heap.size, n, Z, rfl, Nat.le_refl _, heap_alloc_new w _, Nat.zero_le _, hn, hz, by simp⟩⟩
end Go.X
namespace Go.Proofs.Ytplknppmaepinaa.S
open Go Go.RowKit Go.X Go.Maps Go.Proofs.YtplknppmaepinaaW.PrintWords Go.Proofs.Ytplknppmaepinaa.F
set_option maxRecDepth 100000

theorem left.calls {w : World} {ok : Nat → Prop} {sb : Nat} {s : Sh} (h : ShelfAt w ok sb s) (hg : Good s) :
    Calls Try.prog 13 #[.pointer (some ⟨sb, 0, none⟩)] w fun e w' => e = .returned (.int .i64 (s.room - szL s.L)) ∧ Drawn0 w w' := by
  obtain ⟨fm, pm, am, cv, h1, -⟩ := h.out
  have c1 : w.cell? ⟨sb, 1, none⟩ = some (.int .i64 s.room) := h1.cell 1
  have c2 : w.cell? ⟨sb, 2, none⟩ = some (.int .i64 (szL s.L : Nat)) := h1.cell 2
  have k1 := hg.fits
  have k2 := hg.room1
  obtain ⟨t, ht⟩ : ∃ t, szL s.L = t := ⟨_, rfl⟩
  rw [ht] at c2 k1 ⊢
  clear h1 ht
  have hw : IntKind.i64.wrap (s.room - (t : Int)) = s.room - (t : Int) := IntWalk.i64_in _ (by omega)
  go_enter Try.func13, Try.ntmps13
  go_wp2
  go_quiet (fail)
  go_wp2
  go_ret
  exact ⟨rfl, ⟨_, rfl⟩⟩

theorem info102 : (Try.prog.info? 102).map (fun i => (i.zero, i.size, i.bytes)) = some (some (.agg #[.int .i64 0, .string ⟨#[]⟩, .int .i64 0]), 3, 32) := by kernel_rfl
theorem u34 : Try.prog.underlying 34 = some (.slice 102) := Try.underlying34
set_option maxHeartbeats 4000000 in
/-- What was asked so far, as a row of its own. -/
theorem calls.calls {w : World} {ok : Nat → Prop} {sb : Nat} {s : Sh} (h : ShelfAt w ok sb s) (hl : s.all.length ≤ 1073741824) :
    Calls Try.prog 15 #[.pointer (some ⟨sb, 0, none⟩)] w fun e w' => ∃ v, e = .returned v ∧ w'.ownsRow w.heap.size 102 3 v s.all.length (callCells s.all) ∧ Below w.heap.size w w' := by
  obtain ⟨fm, pm, am, cv, h1, -, -, -, h5, -⟩ := h.out
  obtain ⟨Ac, cc, rfl⟩ := own_slice h5
  have c1 : w.cell? ⟨sb, 5, none⟩ = some (.slice Ac s.all.length cc) := h1.cell 5
  have HOW := Lib.hid h5; clear h5 h1 h
  have HN := Lib.hid hl
  go_enter Try.func15, Try.ntmps15
  go_wp2
  obtain ⟨Z, hZ, hmk⟩ := make0 (P := Try.prog) 34 102 _ 3 32 u34 info102 rfl s.all.length (by have := HN.out; omega) (by have := HN.out; simp only [maxLen]; omega)
  have HO1 : Hid (((w.alloc (.cells Z 102)).drew).ownsRow w.heap.size 102 3 (.slice (some ⟨w.heap.size, 0, none⟩) 0 s.all.length) 0 []) := own_made w 102 3 _ Z hZ (by have := HN.out; simp only [maxLen]; omega)
  have HG1 : Hid (Below w.heap.size w (w.alloc (.cells Z 102)).drew) := ((Below.refl _ w).alloc (Nat.le_refl _) _).drew
  have p0 : (w.alloc (.cells Z 102)).drew.cell? ⟨sb, 5, none⟩ = some (.slice Ac s.all.length cc) := Below.cellS HG1.out c1
  clear hZ hl
  go_region_law (first
      | (refine step_appendAny rfl (.tmp 8) (.tmp 12) 34 102 rfl w.heap.size _ 3 32 u34 info102 rfl (by decide) (.slice (some ⟨w.heap.size, 0, none⟩) 0 s.all.length) 0 [] rfl HO1.out Ac s.all.length cc (callCells s.all) rfl (callCells_length _)
           (own_news (ownsRow_keep (ok := fun _ => True) HOW.out (Keeps.below HG1.out) (fun _ _ => trivial))) (callCells_one _) (by have := HN.out; simp only [maxLen]; omega) (by have := HN.out; omega) (by have := HG1.out.size; exact this) ?_
         intro v' w2 ho2 ha2
         have HO2 := Lib.hid ho2; clear ho2
         have HA2 := Lib.hid ha2; clear ha2)
      | fail)
  all_goals
    go_wp2
    go_ret
    exact ⟨v', rfl, by simpa using HO2.out, HG1.out.grown HA2.out.grown HG1.out.size (by simp [Value.ownBlock])⟩

theorem files_next {wr wl w4 : World} {N : Nat} {v v4 : Value} {L : List S73} {f : S73} {u : Value} {cs : List Value} {i : Nat} (hi : L.length = i) (hok : ∀ g, v.ownBlock = some g → N ≤ g) (hfc : FileCells wr (fun k => N ≤ k) L cs) (how : wr.ownsRow 0 73 2 v i cs) (hb : Below wr.heap.size wr wl) (hle : N ≤ wr.heap.size)
    (hd : DataAt wl (fun k => N ≤ k) u f.f1) (ho : w4.ownsRow 0 73 2 v4 (i + 1) (cs ++ [.string f.f0, u])) (ha : Appended wl w4 73 2 v v4 i) : FilesAt w4 (fun k => N ≤ k) v4 (L ++ [f]) ∧ Below N wr w4 := by
  have n5 : No5 wl v.ownBlock := No5.row (ownsRow_keep (ok := fun _ => True) how (Keeps.below hb) (fun _ _ => trivial)) (by decide)
  refine ⟨⟨fun g hg => ?_, _, ((hfc.keep (Keeps.below hb)).grown ha.grown n5).append (.cons (hd.grown ha.grown n5) .nil), ?_⟩, (hb.mono hle).grown ha.grown (Nat.le_trans hle hb.size) fun k e => hok k e⟩
  · rcases ha.place with h | ⟨h, _⟩
    · rw [h] at hg; exact hok g hg
    · rw [h] at hg
      injection hg with hg
      have := hb.size
      omega
  · rw [List.length_append, hi]
    exact ho
theorem take_next {L : List S73} {i : Nat} {f : S73} (h : L[i]? = some f) : L.take (i + 1) = L.take i ++ [f] := by
  have hlt := (List.getElem?_eq_some_iff.1 h).1
  rw [List.take_succ_eq_append_getElem hlt, (List.getElem?_eq_some_iff.1 h).2]
theorem len_sz {L : List S73} {f : S73} (h : f ∈ L) : f.f1.length ≤ szL L := by
  induction L with
  | nil => cases h
  | cons g r ih =>
    unfold szL
    rcases List.mem_cons.1 h with rfl | h
    · omega
    · have := ih h; omega
end Go.Proofs.Ytplknppmaepinaa.S
