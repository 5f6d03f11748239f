/- Texts joined and shortened (wip/tools/shrink.py): RMatch, DReg6, DReg7, DReg17, DReg20, DReg21. -/
import Derived.Test.YtmpkkphohilkoaaDoorQl6
import Derived.Test.YtmpkkphohilkoaaDoorQl9
/- Regions that run match.Run: what the steps share. -/
namespace Go.X
open Go Go.RowKit
variable {P : Program} {ty : TypeId} {ρ : Operand → Value} {w : World} {K : Value → World → Prop}
theorem Does.loadBlk {t e : TypeId} {x : Operand} {b : Nat} {cs : List Value} {d : TypeDesc} (hx : ρ x = .pointer (some ⟨b, 0, none⟩)) (hb : Blk w b e cs) (hu : P.underlying t = some d) (hd : d.isRow = true)
    (hi : (P.info? t).map (·.size) = some cs.length) (h : K (.agg cs.toArray) w) : Does P (.load t x) ty ρ w K := by
  refine Does.load ?_ h
  rw [hx]
  exact run_loadAt_mid w b 0 t cs d (fun j v hj => by rw [Nat.zero_add, hb.cell]; exact hj) hu hd hi
theorem below_grown {B : Nat} {a w w' : World} {r : Option Nat} (h : Below B a w) (g : w.grownBy w' r) (hr : ∀ k, r = some k → B ≤ k) (ha : B ≤ a.heap.size) : Below B a w' :=
  ⟨g.os.trans h.os, g.tape.trans h.tape, g.output.trans h.output, Nat.le_trans h.size g.size, fun k hk => (g.block k (Nat.lt_of_lt_of_le hk (Nat.le_trans ha h.size)) (fun e => by have := hr k e.symm; omega)).trans (h.block k hk)⟩
theorem no {x : Bool} {p : Prop} (h : x = false) (h' : x = true) : p := by rw [h] at h'; cases h'
/-- The i-th part of a tuple. -/
def tup (v : Value) (i : Nat) : Value := match v with
  | .tuple vs => vs.getD i undef
  | _ => undef
theorem Does.ext {x : Operand} {i : Nat} {vs : Array Value} (hx : ρ x = .tuple vs) (hi : i < vs.size) (h : K (tup (.tuple vs) i) w) : Does P (.extract x i) ty ρ w K := by
  refine Does.extract hx (Array.getElem?_eq_getElem hi) ?_
  have : tup (.tuple vs) i = vs[i] := by simp [tup, hi]
  rwa [this] at h
theorem splice_all {α : Type} (L cs : List α) (h : L.length = cs.length) : splice L 0 cs = cs := by simp [splice, ← h]
end Go.X
namespace Go.Proofs.YtmpkkphohilkoaaDoor.B
open Go Go.RowKit Go.X Go.Ma Go.Proofs.YtmpkkphohilkoaaDoorW.PrintWords Go.Proofs.YtmpkkphohilkoaaDoor.F
/-- An answer of this shape. -/
theorem RunAns.any {x : Res × St} {w w' : World} {e : Ending} (h : RunAns w x e w') :
    ∃ A c, e = .returned (.tuple #[.agg #[.int .i64 (ansRes x).kind, .int .i64 ((ansRes x).en : Nat), .string (ansRes x).label, .slice A (ansRes x).forest.length c], .agg #[.int .i64 ((ansSt x).depth : Nat), .int .i64 ((ansSt x).steps : Nat)], .int .i64 (ansSt x).err]) ∧ Below w.heap.size w w' ∧ OwnF w' w.heap.size (.slice A (ansRes x).forest.length c) (ansRes x).forest := by
  obtain ⟨v, he, hb, ho⟩ := h
  obtain ⟨a, c, rfl⟩ := Go.X.own_slice ho
  exact ⟨a, c, he, hb, ho⟩
theorem lendRun.calls (Ar : Option Addr) (c : Nat) (start : Int) (rs : List S42) (w : World) (hr : Kd.C k42 w Ar rs.length rs) (mr : rs.length ≤ 1048576) (mb : ∀ x ∈ rs, x.f1.length ≤ 1048576) :
    Calls Tryd.prog 9 #[.agg #[.slice Ar rs.length c, .int .i64 start]] w fun e w' => ∃ br, e = .returned (.agg #[.slice (some ⟨br, 0, none⟩) rs.length (rs.length + 1), .int .i64 start]) ∧ Kd.C k42 w' (some ⟨br, 0, none⟩) rs.length rs ∧ Below w.heap.size w w' :=
  (LendCore.calls Ar c start rs w hr mr mb).mono fun _ _ ⟨br, _, h1, h2, _, h3⟩ => ⟨br, h1, h2.C mr mb, h3⟩
theorem zero31 : (Tryd.prog.info? 31).map (·.zero) = some (some (.agg #[.int .i64 0, .int .i64 0, .string ⟨#[]⟩, .slice none 0 0])) := by kernel_rfl
theorem zero32 : (Tryd.prog.info? 32).map (·.zero) = some (some (.agg #[.int .i64 0, .int .i64 0])) := by kernel_rfl
theorem sub1 {x : Int} {w : World} (hw : IntKind.i64.wrap (x - 1) = x - 1) : (binOp .sub 3 (.int .i64 x) (.int .i64 1)).run Tryd.prog w = .ok (.int .i64 (x - 1)) w := by
  rw [show (binOp .sub 3 (.int .i64 x) (.int .i64 1)).run Tryd.prog w = .ok (.int .i64 (IntKind.i64.wrap (x - 1))) w from by go_simp, hw]
/-- The answer's parts, as cells. -/
abbrev oC (X : Res × St) (v : Value) : List Value := [.int .i64 (ansRes X).kind, .int .i64 ((ansRes X).en : Nat), .string (ansRes X).label, v]
abbrev uC (X : Res × St) : List Value := [.int .i64 ((ansSt X).depth : Nat), .int .i64 ((ansSt X).steps : Nat)]
abbrev ansV (X : Res × St) (A : Option Addr) (c : Nat) : Value := .tuple #[.agg (oC X (.slice A (ansRes X).forest.length c)).toArray, .agg (uC X).toArray, .int .i64 (ansSt X).err]
end Go.Proofs.YtmpkkphohilkoaaDoor.B
/- A region of the law MatchLimits, by its invariant (printed by wip/gen/genreg6.py). -/
namespace Go.Proofs.YtmpkkphohilkoaaDoor.B
open Go Go.RowKit Go.X Go.Ma Go.Proofs.YtmpkkphohilkoaaDoorW.PrintWords Go.Proofs.YtmpkkphohilkoaaDoor.F
structure R6 (w0 wb : World) (Ar : Option Addr) (c : Nat) (start : Int) (rs : List S42) (inp : ByteArray) (D S : Int) (X : Res × St) (b3 bl q1 q2 : Nat) (b : Bits) (f : Slots) (w : World) : Prop where
  bel : Below wb.heap.size wb w
  g3 : f 3 = .pointer (some ⟨b3, 0, none⟩)
  g1 : f 1 = .string inp
  gl : f 7 = .pointer (some ⟨bl, 0, none⟩)
  p0 : b 0 = true → f 24 = .agg #[.slice Ar rs.length c, .int .i64 start]
  p1 : b 1 = true → ∃ br, f 25 = .agg #[.slice (some ⟨br, 0, none⟩) rs.length (rs.length + 1), .int .i64 start] ∧ (b 4 = false → Kd.C k42 w (some ⟨br, 0, none⟩) rs.length rs)
  p2 : b 2 = true → f 26 = .string inp
  p3 : b 3 = true → f 27 = .agg #[.int .i64 D, .int .i64 S]
  p4 : b 4 = true → ∃ A c', f 28 = ansV X A c' ∧ OwnF w wb.heap.size (.slice A (ansRes X).forest.length c') (ansRes X).forest
  p5 : b 5 = true → f 23 = f 28
  p6 : b 6 = true → f 29 = tup (f 28) 0
  p7 : b 7 = true → f 30 = tup (f 28) 1
  p8 : b 8 = true → f 31 = tup (f 28) 2
  p9 : b 9 = true → ∃ q cs, f 8 = .pointer (some ⟨q, 0, none⟩) ∧ wb.heap.size ≤ q ∧ Blk w q 31 cs ∧ cs.length = 4 ∧ (b 11 = true → .agg cs.toArray = tup (f 28) 0)
  p10 : b 10 = true → ∃ q cs, f 9 = .pointer (some ⟨q, 0, none⟩) ∧ wb.heap.size ≤ q ∧ Blk w q 32 cs ∧ cs.length = 2 ∧ (b 12 = true → .agg cs.toArray = tup (f 28) 1)
  p13 : b 13 = true → f 10 = tup (f 28) 2
theorem R6.below {w0 wb : World} {Ar : Option Addr} {c : Nat} {start : Int} {rs : List S42} {inp : ByteArray} {D S : Int} {X : Res × St} {b3 bl q1 q2 : Nat} {b : Bits} {f : Slots} {w w' : World} (h : R6 w0 wb Ar c start rs inp D S X b3 bl q1 q2 b f w) (g : Below w.heap.size w w') : R6 w0 wb Ar c start rs inp D S X b3 bl q1 q2 b f w' :=
  { h with
    bel := h.bel.trans (g.mono h.bel.size)
    p1 := fun hb => (h.p1 hb).imp fun _ ⟨e, k⟩ => ⟨e, fun hr => Kd.C_below (k hr) g⟩
    p4 := fun hb => (h.p4 hb).imp fun _ ⟨c', e, k⟩ => ⟨c', e, k.more (Go.X.grown_of_below g none)⟩
    p9 := fun hb => (h.p9 hb).imp fun _ ⟨cs, e, e1, k, e2⟩ => ⟨cs, e, e1, k.below g k.lt, e2⟩
    p10 := fun hb => (h.p10 hb).imp fun _ ⟨cs, e, e1, k, e2⟩ => ⟨cs, e, e1, k.below g k.lt, e2⟩ }
theorem R6.st31 {w0 wb : World} {Ar : Option Addr} {c : Nat} {start : Int} {rs : List S42} {inp : ByteArray} {D S : Int} {X : Res × St} {b3 bl q1 q2 : Nat} {b : Bits} {f : Slots} {w w' : World} {q : Nat} {cs : List Value} (h : R6 w0 wb Ar c start rs inp D S X b3 bl q1 q2 b f w) (hrun : b 4 = true) (hq : f 8 = .pointer (some ⟨q, 0, none⟩)) (hbq : Blk w q 31 cs) (hle : wb.heap.size ≤ q) {cs' : List Value} (hl : cs'.length = 4) (hv : .agg cs'.toArray = tup (f 28) 0) (hb' : Blk w' q 31 cs') (g : w.grownBy w' (some q)) : R6 w0 wb Ar c start rs inp D S X b3 bl q1 q2 (b.put 11) f w' :=
  { h with
    bel := Go.X.below_grown h.bel g (fun k e => by cases e; exact hle) (Nat.le_refl _)
    p1 := fun hb => (h.p1 hb).imp fun _ ⟨e, _⟩ => ⟨e, fun hr => no hr hrun⟩
    p4 := fun hb => (h.p4 hb).imp fun _ ⟨c', e, k⟩ => ⟨c', e, k.kept g hbq (by decide)⟩
    p9 := fun _ => ⟨q, cs', hq, hle, hb', hl, fun _ => hv⟩
    p10 := fun hb => (h.p10 hb).imp fun _ ⟨cs2, e, e1, k, e2⟩ => ⟨cs2, e, e1, k.grown g (by intro e'; injection e' with e'; exact k.ne hbq (by decide) e'), e2⟩ }
theorem R6.st32 {w0 wb : World} {Ar : Option Addr} {c : Nat} {start : Int} {rs : List S42} {inp : ByteArray} {D S : Int} {X : Res × St} {b3 bl q1 q2 : Nat} {b : Bits} {f : Slots} {w w' : World} {q : Nat} {cs : List Value} (h : R6 w0 wb Ar c start rs inp D S X b3 bl q1 q2 b f w) (hrun : b 4 = true) (hq : f 9 = .pointer (some ⟨q, 0, none⟩)) (hbq : Blk w q 32 cs) (hle : wb.heap.size ≤ q) {cs' : List Value} (hl : cs'.length = 2) (hv : .agg cs'.toArray = tup (f 28) 1) (hb' : Blk w' q 32 cs') (g : w.grownBy w' (some q)) : R6 w0 wb Ar c start rs inp D S X b3 bl q1 q2 (b.put 12) f w' :=
  { h with
    bel := Go.X.below_grown h.bel g (fun k e => by cases e; exact hle) (Nat.le_refl _)
    p1 := fun hb => (h.p1 hb).imp fun _ ⟨e, _⟩ => ⟨e, fun hr => no hr hrun⟩
    p4 := fun hb => (h.p4 hb).imp fun _ ⟨c', e, k⟩ => ⟨c', e, k.kept g hbq (by decide)⟩
    p10 := fun _ => ⟨q, cs', hq, hle, hb', hl, fun _ => hv⟩
    p9 := fun hb => (h.p9 hb).imp fun _ ⟨cs2, e, e1, k, e2⟩ => ⟨cs2, e, e1, k.grown g (by intro e'; injection e' with e'; exact k.ne hbq (by decide) e'), e2⟩ }
set_option maxRecDepth 100000 in
theorem R6.wp (w0 wb : World) (Ar : Option Addr) (c : Nat) (start : Int) (rs : List S42) (inp : ByteArray) (D S : Int) (X : Res × St) (b3 bl q1 q2 : Nat) (hX : atAns rs start start inp 0 D S = X)
    (hr : Kd.C k42 w0 Ar rs.length rs) (bw : Below w0.heap.size w0 wb) (mr : rs.length ≤ 1048576) (mb : ∀ x ∈ rs, x.f1.length ≤ 1048576) (hb : ∀ x ∈ rs, x.f1.length ≤ 140737488355328 ∧ x.f0.size ≤ 140737488355328)
    (x3 : Blk wb b3 24 [.slice Ar rs.length c, .int .i64 start]) (xl : Blk wb bl 26 [.int .i64 D, .int .i64 S]) (a : Act) (Q : Exit → Act → World → Prop) (hz : a.tmps.size = 173)
    (s3 : Slots.of a 3 = .pointer (some ⟨b3, 0, none⟩)) (s1 : Slots.of a 1 = .string inp) (sl : Slots.of a 7 = .pointer (some ⟨bl, 0, none⟩))
    (hQ : ∀ (f : Slots) (w' : World) (q1 q2 : Nat) (A : Option Addr) (c' : Nat), f 8 = .pointer (some ⟨q1, 0, none⟩) → f 9 = .pointer (some ⟨q2, 0, none⟩) → f 10 = .int .i64 (ansSt X).err → wb.heap.size ≤ q1 → wb.heap.size ≤ q2 → Below wb.heap.size wb w' → Blk w' q1 31 (oC X (.slice A (ansRes X).forest.length c')) → Blk w' q2 32 (uC X) → OwnF w' wb.heap.size (.slice A (ansRes X).forest.length c') (ansRes X).forest → Q .normal (Act.puts a f [24, 25, 26, 27, 28, 23, 29, 30, 31, 8, 9, 10]) w') :
    (Code.region 6 #[{ dst := some 24, op := Go.Op.load 24 (Go.Operand.tmp 3), type := 24, pos := "theorems.go:60", after := #[], guard := none }, { dst := some 25, op := Go.Op.call { callee := Go.Callee.value (Go.Operand.func 9), args := #[Go.Operand.tmp 24], argTypes := #[24] }, type := 24, pos := "theorems.go:60", after := #[{ on := 0, ground := Go.Ground.data }], guard := none }, { dst := some 26, op := Go.Op.move (Go.Operand.tmp 1), type := 9, pos := "theorems.go:60", after := #[], guard := none }, { dst := some 27, op := Go.Op.load 26 (Go.Operand.tmp 7), type := 26, pos := "theorems.go:60", after := #[], guard := none }, { dst := some 28, op := Go.Op.call { callee := Go.Callee.value (Go.Operand.func 8), args := #[Go.Operand.tmp 25, Go.Operand.tmp 26, Go.Operand.tmp 27], argTypes := #[24, 9, 26] }, type := 34, pos := "theorems.go:60", after := #[{ on := 1, ground := Go.Ground.data }, { on := 2, ground := Go.Ground.data }, { on := 3, ground := Go.Ground.data }, { on := 1, ground := Go.Ground.chain }], guard := none }, { dst := some 23, op := Go.Op.move (Go.Operand.tmp 28), type := 34, pos := "theorems.go:60", after := #[{ on := 4, ground := Go.Ground.data }], guard := none }, { dst := some 29, op := Go.Op.extract (Go.Operand.tmp 23) 0, type := 31, pos := "theorems.go:60", after := #[{ on := 5, ground := Go.Ground.data }], guard := none }, { dst := some 30, op := Go.Op.extract (Go.Operand.tmp 23) 1, type := 32, pos := "theorems.go:60", after := #[{ on := 5, ground := Go.Ground.data }, { on := 11, ground := Go.Ground.gcOnly Go.Departure.lateStores }], guard := none }, { dst := some 31, op := Go.Op.extract (Go.Operand.tmp 23) 2, type := 33, pos := "theorems.go:60", after := #[{ on := 5, ground := Go.Ground.data }, { on := 12, ground := Go.Ground.gcOnly Go.Departure.lateStores }], guard := none }, { dst := some 8, op := Go.Op.alloc 31, type := 0, pos := "theorems.go:60", after := #[], guard := none }, { dst := some 9, op := Go.Op.alloc 32, type := 0, pos := "theorems.go:60", after := #[], guard := none }, { dst := none, op := Go.Op.store 31 (Go.Operand.tmp 8) (Go.Operand.tmp 29), type := 0, pos := "theorems.go:60", after := #[{ on := 9, ground := Go.Ground.data }, { on := 6, ground := Go.Ground.data }, { on := 4, ground := Go.Ground.chain }, { on := 0, ground := Go.Ground.phase }, { on := 1, ground := Go.Ground.phase }, { on := 2, ground := Go.Ground.phase }, { on := 3, ground := Go.Ground.phase }, { on := 4, ground := Go.Ground.phase }, { on := 5, ground := Go.Ground.phase }, { on := 6, ground := Go.Ground.phase }, { on := 7, ground := Go.Ground.textOnly Go.Departure.lateStores }, { on := 8, ground := Go.Ground.textOnly Go.Departure.lateStores }, { on := 9, ground := Go.Ground.phase }, { on := 10, ground := Go.Ground.phase }], guard := none }, { dst := none, op := Go.Op.store 32 (Go.Operand.tmp 9) (Go.Operand.tmp 30), type := 0, pos := "theorems.go:60", after := #[{ on := 10, ground := Go.Ground.data }, { on := 7, ground := Go.Ground.data }, { on := 11, ground := Go.Ground.chain }, { on := 0, ground := Go.Ground.phase }, { on := 1, ground := Go.Ground.phase }, { on := 2, ground := Go.Ground.phase }, { on := 3, ground := Go.Ground.phase }, { on := 4, ground := Go.Ground.phase }, { on := 5, ground := Go.Ground.phase }, { on := 6, ground := Go.Ground.phase }, { on := 7, ground := Go.Ground.phase }, { on := 8, ground := Go.Ground.textOnly Go.Departure.lateStores }, { on := 9, ground := Go.Ground.phase }, { on := 10, ground := Go.Ground.phase }, { on := 11, ground := Go.Ground.phase }], guard := none }, { dst := some 10, op := Go.Op.assign (Go.Operand.tmp 31), type := 33, pos := "theorems.go:60", after := #[{ on := 8, ground := Go.Ground.data }, { on := 12, ground := Go.Ground.chain }, { on := 0, ground := Go.Ground.phase }, { on := 1, ground := Go.Ground.phase }, { on := 2, ground := Go.Ground.phase }, { on := 3, ground := Go.Ground.phase }, { on := 4, ground := Go.Ground.phase }, { on := 5, ground := Go.Ground.phase }, { on := 6, ground := Go.Ground.phase }, { on := 7, ground := Go.Ground.phase }, { on := 8, ground := Go.Ground.phase }, { on := 9, ground := Go.Ground.phase }, { on := 10, ground := Go.Ground.phase }, { on := 11, ground := Go.Ground.phase }, { on := 12, ground := Go.Ground.phase }], guard := none }] true).wp Tryd.prog Q a wb := by
  refine wp_region_slots (fun b f w => R6 w0 wb Ar c start rs inp D S X b3 bl q1 q2 b f w) 14 [0, 1, 2, 3, 4, 5, 6, 7, 8, 9, 10, 11, 12, 13] [24, 25, 26, 27, 28, 23, 29, 30, 31, 8, 9, 10] 173 (by kernel_rfl) rfl rfl rfl (by kernel_rfl) (by kernel_rfl) hz (by kernel_rfl) ?_ ?_ ?_
  · exact { bel := Below.drew (Below.refl _ _), g3 := s3, g1 := s1, gl := sl, p0 := nofun, p1 := nofun, p2 := nofun, p3 := nofun, p4 := nofun, p5 := nofun, p6 := nofun, p7 := nofun, p8 := nofun, p9 := nofun, p10 := nofun, p13 := nofun }
  · refine SSteps.cons (i := 0) (ds := []) (js := [1, 4, 5, 6, 7, 8, 11, 12, 13]) rfl (by kernel_rfl) (by kernel_rfl) (fun b f w hb0 hd hj h => ?_) ?_
    · exact Does.loadBlk (h.g3) (x3.below h.bel x3.lt) Tryd.underlying24 rfl (by kernel_rfl) { h with p0 := fun _ => rfl }
    refine SSteps.cons (i := 1) (ds := [0]) (js := [4, 5, 6, 7, 8, 11, 12, 13]) rfl (by kernel_rfl) (by kernel_rfl) (fun b f w hb0 hd hj h => ?_) ?_
    · have d0 : b 0 = true := hd 0 (by decide)
      have e0 := h.p0 d0
      refine Does.call (args := #[.agg #[.slice Ar rs.length c, .int .i64 start]]) (by simp [Slots.eval, e0]) rfl (by kernel_rfl) ?_
      refine (lendRun.calls Ar c start rs w (Kd.C_below hr (bw.trans (h.bel.mono bw.size))) mr mb).mono ?_
      rintro e w' ⟨br, rfl, hc, hbl⟩
      exact ⟨_, rfl, { (h.below hbl) with p1 := fun _ => ⟨br, rfl, fun _ => hc⟩ }⟩
    refine SSteps.cons (i := 2) (ds := []) (js := [4, 5, 6, 7, 8, 11, 12, 13]) rfl (by kernel_rfl) (by kernel_rfl) (fun b f w hb0 hd hj h => ?_) ?_
    · exact Does.move { h with p2 := fun _ => h.g1 }
    refine SSteps.cons (i := 3) (ds := []) (js := [4, 5, 6, 7, 8, 11, 12, 13]) rfl (by kernel_rfl) (by kernel_rfl) (fun b f w hb0 hd hj h => ?_) ?_
    · exact Does.loadBlk (h.gl) (xl.below h.bel xl.lt) Tryd.underlying26 rfl (by kernel_rfl) { h with p3 := fun _ => rfl }
    refine SSteps.cons (i := 4) (ds := [1, 2, 3, 0]) (js := [5, 6, 7, 8, 11, 12, 13]) rfl (by kernel_rfl) (by kernel_rfl) (fun b f w hb0 hd hj h => ?_) ?_
    · have d1 : b 1 = true := hd 1 (by decide); have d2 : b 2 = true := hd 2 (by decide); have d3 : b 3 = true := hd 3 (by decide)
      obtain ⟨br, e1, hc⟩ := h.p1 d1
      have e2 := h.p2 d2
      have e3 := h.p3 d3
      refine Does.call (args := #[.agg #[.slice (some ⟨br, 0, none⟩) rs.length (rs.length + 1), .int .i64 start], .string inp, .agg #[.int .i64 D, .int .i64 S]]) (by simp [Slots.eval, e1, e2, e3]) rfl (by kernel_rfl) ?_
      refine (mrun.calls (some ⟨br, 0, none⟩) (rs.length + 1) start rs inp D S w (hc hb0) (by omega) hb).mono ?_
      rintro e w' hans
      rw [hX] at hans
      obtain ⟨A, c', rfl, hbl, hown⟩ := RunAns.any hans
      exact ⟨_, rfl, { (h.below hbl) with p1 := fun hx => ((h.below hbl).p1 hx).imp fun _ ⟨e, _⟩ => ⟨e, fun hr => by cases hr⟩, p4 := fun _ => ⟨A, c', rfl, hown.low h.bel.size⟩, p5 := (fun hx => no (hj 5 (by decide)) hx), p6 := (fun hx => no (hj 6 (by decide)) hx), p7 := (fun hx => no (hj 7 (by decide)) hx), p8 := (fun hx => no (hj 8 (by decide)) hx), p13 := (fun hx => no (hj 13 (by decide)) hx), p9 := fun hx => ((h.below hbl).p9 hx).imp fun _ ⟨cs, k1, k2, k3, k4, _⟩ => ⟨cs, k1, k2, k3, k4, (fun hx => no (hj 11 (by decide)) hx)⟩, p10 := fun hx => ((h.below hbl).p10 hx).imp fun _ ⟨cs, k1, k2, k3, k4, _⟩ => ⟨cs, k1, k2, k3, k4, (fun hx => no (hj 12 (by decide)) hx)⟩ }⟩
    refine SSteps.cons (i := 5) (ds := [4, 1, 2, 3, 0]) (js := [6, 7, 8, 11, 12, 13]) rfl (by kernel_rfl) (by kernel_rfl) (fun b f w hb0 hd hj h => ?_) ?_
    · exact Does.move { h with p5 := fun _ => rfl }
    refine SSteps.cons (i := 6) (ds := [5, 4, 1, 2, 3, 0]) (js := [11, 12, 13]) rfl (by kernel_rfl) (by kernel_rfl) (fun b f w hb0 hd hj h => ?_) ?_
    · have d4 : b 4 = true := hd 4 (by decide); have d5 : b 5 = true := hd 5 (by decide)
      obtain ⟨A, c', e1, _⟩ := h.p4 d4
      have e2 := (h.p5 d5).trans e1
      refine Does.ext e2 (by simp) ?_
      exact { h with p6 := fun _ => (congrArg (fun v => tup v 0) e1).symm }
    refine SSteps.cons (i := 7) (ds := [5, 4, 1, 2, 3, 0]) (js := [12, 13]) rfl (by kernel_rfl) (by kernel_rfl) (fun b f w hb0 hd hj h => ?_) ?_
    · have d4 : b 4 = true := hd 4 (by decide); have d5 : b 5 = true := hd 5 (by decide)
      obtain ⟨A, c', e1, _⟩ := h.p4 d4
      have e2 := (h.p5 d5).trans e1
      refine Does.ext e2 (by simp) ?_
      exact { h with p7 := fun _ => (congrArg (fun v => tup v 1) e1).symm }
    refine SSteps.cons (i := 8) (ds := [5, 4, 1, 2, 3, 0]) (js := [13]) rfl (by kernel_rfl) (by kernel_rfl) (fun b f w hb0 hd hj h => ?_) ?_
    · have d4 : b 4 = true := hd 4 (by decide); have d5 : b 5 = true := hd 5 (by decide)
      obtain ⟨A, c', e1, _⟩ := h.p4 d4
      have e2 := (h.p5 d5).trans e1
      refine Does.ext e2 (by simp) ?_
      exact { h with p8 := fun _ => (congrArg (fun v => tup v 2) e1).symm, p13 := (fun hx => no (hj 13 (by decide)) hx) }
    refine SSteps.cons (i := 9) (ds := []) (js := [11, 12, 13]) rfl (by kernel_rfl) (by kernel_rfl) (fun b f w hb0 hd hj h => ?_) ?_
    · refine Does.alloc (P := Tryd.prog) zero31 ?_
      intro w' hb' hbl
      exact { (h.below hbl) with p9 := fun _ => ⟨w.heap.size, _, rfl, h.bel.size, hb', rfl, (fun hx => no (hj 11 (by decide)) hx)⟩ }
    refine SSteps.cons (i := 10) (ds := []) (js := [11, 12, 13]) rfl (by kernel_rfl) (by kernel_rfl) (fun b f w hb0 hd hj h => ?_) ?_
    · refine Does.alloc (P := Tryd.prog) zero32 ?_
      intro w' hb' hbl
      exact { (h.below hbl) with p10 := fun _ => ⟨w.heap.size, _, rfl, h.bel.size, hb', rfl, (fun hx => no (hj 12 (by decide)) hx)⟩ }
    refine SSteps.cons (i := 11) (ds := [9, 6, 4, 0, 1, 2, 3, 5, 10]) (js := [12, 13]) rfl (by kernel_rfl) (by kernel_rfl) (fun b f w hb0 hd hj h => ?_) ?_
    · have d4 : b 4 = true := hd 4 (by decide); have d9 : b 9 = true := hd 9 (by decide); have d6 : b 6 = true := hd 6 (by decide)
      obtain ⟨A, c', e1, _⟩ := h.p4 d4
      obtain ⟨q, cs, e2, hle, hbq, hcl, _⟩ := h.p9 d9
      have e3 := h.p6 d6
      rw [e1] at e3
      refine Does.store e2 e3 hbq (by kernel_rfl) (by rw [hcl]; exact Nat.le_refl _) (by simp [tup, Value.cells, Value.oneCell']) ?_
      intro w' hb' g
      rw [splice_all _ _ (by rw [hcl]; rfl)] at hb'
      exact h.st31 d4 e2 hbq hle rfl (by rw [e1]; rfl) hb' g
    refine SSteps.cons (i := 12) (ds := [10, 7, 11, 0, 1, 2, 3, 4, 5, 6, 9]) (js := [13]) rfl (by kernel_rfl) (by kernel_rfl) (fun b f w hb0 hd hj h => ?_) ?_
    · have d4 : b 4 = true := hd 4 (by decide); have d10 : b 10 = true := hd 10 (by decide); have d7 : b 7 = true := hd 7 (by decide)
      obtain ⟨A, c', e1, _⟩ := h.p4 d4
      obtain ⟨q, cs, e2, hle, hbq, hcl, _⟩ := h.p10 d10
      have e3 := h.p7 d7
      rw [e1] at e3
      refine Does.store e2 e3 hbq (by kernel_rfl) (by rw [hcl]; exact Nat.le_refl _) (by simp [tup, Value.cells, Value.oneCell']) ?_
      intro w' hb' g
      rw [splice_all _ _ (by rw [hcl]; rfl)] at hb'
      exact h.st32 d4 e2 hbq hle rfl (by rw [e1]; rfl) hb' g
    refine SSteps.cons (i := 13) (ds := [8, 12, 0, 1, 2, 3, 4, 5, 6, 7, 9, 10, 11]) (js := []) rfl (by kernel_rfl) (by kernel_rfl) (fun b f w hb0 hd hj h => ?_) ?_
    · have d8 : b 8 = true := hd 8 (by decide)
      exact Does.assign { h with p13 := fun _ => h.p8 d8 }
    exact SSteps.nil
  · intro b f w' hall h _
    obtain ⟨A, c', e1, hown⟩ := h.p4 (hall 4 (by decide))
    have e4 := h.p13 (hall 13 (by decide))
    obtain ⟨q1, cs1, k1, l1, y1, m1, n1⟩ := h.p9 (hall 9 (by decide))
    obtain ⟨q2, cs2, k2, l2, y2, m2, n2⟩ := h.p10 (hall 10 (by decide))
    have e2 := n1 (hall 11 (by decide))
    have e3 := n2 (hall 12 (by decide))
    rw [e1] at e2 e3 e4
    have t1 : cs1 = oC X (.slice A (ansRes X).forest.length c') := by have := congrArg (fun v => match v with | Value.agg a => a.toList | _ => []) e2; simpa [tup] using this
    have t2 : cs2 = uC X := by have := congrArg (fun v => match v with | Value.agg a => a.toList | _ => []) e3; simpa [tup] using this
    exact hQ f w' q1 q2 A c' k1 k2 (by rw [e4]; rfl) l1 l2 h.bel (t1 ▸ y1) (t2 ▸ y2) hown
end Go.Proofs.YtmpkkphohilkoaaDoor.B
/- A region of the law MatchLimits, by its invariant (printed by wip/gen/genreg6.py). -/
namespace Go.Proofs.YtmpkkphohilkoaaDoor.B
open Go Go.RowKit Go.X Go.Ma Go.Proofs.YtmpkkphohilkoaaDoorW.PrintWords Go.Proofs.YtmpkkphohilkoaaDoor.F
structure R7 (w0 wb : World) (Ar : Option Addr) (c : Nat) (start : Int) (rs : List S42) (inp : ByteArray) (D S : Int) (X : Res × St) (b3 bl q1 q2 : Nat) (b : Bits) (f : Slots) (w : World) : Prop where
  bel : Below wb.heap.size wb w
  g3 : f 3 = .pointer (some ⟨b3, 0, none⟩)
  g1 : f 1 = .string inp
  gl : f 5 = .pointer (some ⟨bl, 0, none⟩)
  p0 : b 0 = true → f 33 = .agg #[.slice Ar rs.length c, .int .i64 start]
  p1 : b 1 = true → ∃ br, f 34 = .agg #[.slice (some ⟨br, 0, none⟩) rs.length (rs.length + 1), .int .i64 start] ∧ (b 4 = false → Kd.C k42 w (some ⟨br, 0, none⟩) rs.length rs)
  p2 : b 2 = true → f 35 = .string inp
  p3 : b 3 = true → f 36 = .agg #[.int .i64 D, .int .i64 S]
  p4 : b 4 = true → ∃ A c', f 37 = ansV X A c' ∧ OwnF w wb.heap.size (.slice A (ansRes X).forest.length c') (ansRes X).forest
  p5 : b 5 = true → f 32 = f 37
  p6 : b 6 = true → f 38 = tup (f 37) 0
  p7 : b 7 = true → f 39 = tup (f 37) 1
  p8 : b 8 = true → f 40 = tup (f 37) 2
  p9 : b 9 = true → ∃ q cs, f 11 = .pointer (some ⟨q, 0, none⟩) ∧ wb.heap.size ≤ q ∧ Blk w q 31 cs ∧ cs.length = 4 ∧ (b 11 = true → .agg cs.toArray = tup (f 37) 0)
  p10 : b 10 = true → ∃ q cs, f 12 = .pointer (some ⟨q, 0, none⟩) ∧ wb.heap.size ≤ q ∧ Blk w q 32 cs ∧ cs.length = 2 ∧ (b 12 = true → .agg cs.toArray = tup (f 37) 1)
  p13 : b 13 = true → f 13 = tup (f 37) 2
theorem R7.below {w0 wb : World} {Ar : Option Addr} {c : Nat} {start : Int} {rs : List S42} {inp : ByteArray} {D S : Int} {X : Res × St} {b3 bl q1 q2 : Nat} {b : Bits} {f : Slots} {w w' : World} (h : R7 w0 wb Ar c start rs inp D S X b3 bl q1 q2 b f w) (g : Below w.heap.size w w') : R7 w0 wb Ar c start rs inp D S X b3 bl q1 q2 b f w' :=
  { h with
    bel := h.bel.trans (g.mono h.bel.size)
    p1 := fun hb => (h.p1 hb).imp fun _ ⟨e, k⟩ => ⟨e, fun hr => Kd.C_below (k hr) g⟩
    p4 := fun hb => (h.p4 hb).imp fun _ ⟨c', e, k⟩ => ⟨c', e, k.more (Go.X.grown_of_below g none)⟩
    p9 := fun hb => (h.p9 hb).imp fun _ ⟨cs, e, e1, k, e2⟩ => ⟨cs, e, e1, k.below g k.lt, e2⟩
    p10 := fun hb => (h.p10 hb).imp fun _ ⟨cs, e, e1, k, e2⟩ => ⟨cs, e, e1, k.below g k.lt, e2⟩ }
theorem R7.st31 {w0 wb : World} {Ar : Option Addr} {c : Nat} {start : Int} {rs : List S42} {inp : ByteArray} {D S : Int} {X : Res × St} {b3 bl q1 q2 : Nat} {b : Bits} {f : Slots} {w w' : World} {q : Nat} {cs : List Value} (h : R7 w0 wb Ar c start rs inp D S X b3 bl q1 q2 b f w) (hrun : b 4 = true) (hq : f 11 = .pointer (some ⟨q, 0, none⟩)) (hbq : Blk w q 31 cs) (hle : wb.heap.size ≤ q) {cs' : List Value} (hl : cs'.length = 4) (hv : .agg cs'.toArray = tup (f 37) 0) (hb' : Blk w' q 31 cs') (g : w.grownBy w' (some q)) : R7 w0 wb Ar c start rs inp D S X b3 bl q1 q2 (b.put 11) f w' :=
  { h with
    bel := Go.X.below_grown h.bel g (fun k e => by cases e; exact hle) (Nat.le_refl _)
    p1 := fun hb => (h.p1 hb).imp fun _ ⟨e, _⟩ => ⟨e, fun hr => no hr hrun⟩
    p4 := fun hb => (h.p4 hb).imp fun _ ⟨c', e, k⟩ => ⟨c', e, k.kept g hbq (by decide)⟩
    p9 := fun _ => ⟨q, cs', hq, hle, hb', hl, fun _ => hv⟩
    p10 := fun hb => (h.p10 hb).imp fun _ ⟨cs2, e, e1, k, e2⟩ => ⟨cs2, e, e1, k.grown g (by intro e'; injection e' with e'; exact k.ne hbq (by decide) e'), e2⟩ }
theorem R7.st32 {w0 wb : World} {Ar : Option Addr} {c : Nat} {start : Int} {rs : List S42} {inp : ByteArray} {D S : Int} {X : Res × St} {b3 bl q1 q2 : Nat} {b : Bits} {f : Slots} {w w' : World} {q : Nat} {cs : List Value} (h : R7 w0 wb Ar c start rs inp D S X b3 bl q1 q2 b f w) (hrun : b 4 = true) (hq : f 12 = .pointer (some ⟨q, 0, none⟩)) (hbq : Blk w q 32 cs) (hle : wb.heap.size ≤ q) {cs' : List Value} (hl : cs'.length = 2) (hv : .agg cs'.toArray = tup (f 37) 1) (hb' : Blk w' q 32 cs') (g : w.grownBy w' (some q)) : R7 w0 wb Ar c start rs inp D S X b3 bl q1 q2 (b.put 12) f w' :=
  { h with
    bel := Go.X.below_grown h.bel g (fun k e => by cases e; exact hle) (Nat.le_refl _)
    p1 := fun hb => (h.p1 hb).imp fun _ ⟨e, _⟩ => ⟨e, fun hr => no hr hrun⟩
    p4 := fun hb => (h.p4 hb).imp fun _ ⟨c', e, k⟩ => ⟨c', e, k.kept g hbq (by decide)⟩
    p10 := fun _ => ⟨q, cs', hq, hle, hb', hl, fun _ => hv⟩
    p9 := fun hb => (h.p9 hb).imp fun _ ⟨cs2, e, e1, k, e2⟩ => ⟨cs2, e, e1, k.grown g (by intro e'; injection e' with e'; exact k.ne hbq (by decide) e'), e2⟩ }
set_option maxRecDepth 100000 in
theorem R7.wp (w0 wb : World) (Ar : Option Addr) (c : Nat) (start : Int) (rs : List S42) (inp : ByteArray) (D S : Int) (X : Res × St) (b3 bl q1 q2 : Nat) (hX : atAns rs start start inp 0 D S = X)
    (hr : Kd.C k42 w0 Ar rs.length rs) (bw : Below w0.heap.size w0 wb) (mr : rs.length ≤ 1048576) (mb : ∀ x ∈ rs, x.f1.length ≤ 1048576) (hb : ∀ x ∈ rs, x.f1.length ≤ 140737488355328 ∧ x.f0.size ≤ 140737488355328)
    (x3 : Blk wb b3 24 [.slice Ar rs.length c, .int .i64 start]) (xl : Blk wb bl 26 [.int .i64 D, .int .i64 S]) (a : Act) (Q : Exit → Act → World → Prop) (hz : a.tmps.size = 173)
    (s3 : Slots.of a 3 = .pointer (some ⟨b3, 0, none⟩)) (s1 : Slots.of a 1 = .string inp) (sl : Slots.of a 5 = .pointer (some ⟨bl, 0, none⟩))
    (hQ : ∀ (f : Slots) (w' : World) (q1 q2 : Nat) (A : Option Addr) (c' : Nat), f 11 = .pointer (some ⟨q1, 0, none⟩) → f 12 = .pointer (some ⟨q2, 0, none⟩) → f 13 = .int .i64 (ansSt X).err → wb.heap.size ≤ q1 → wb.heap.size ≤ q2 → Below wb.heap.size wb w' → Blk w' q1 31 (oC X (.slice A (ansRes X).forest.length c')) → Blk w' q2 32 (uC X) → OwnF w' wb.heap.size (.slice A (ansRes X).forest.length c') (ansRes X).forest → Q .normal (Act.puts a f [33, 34, 35, 36, 37, 32, 38, 39, 40, 11, 12, 13]) w') :
    (Code.region 7 #[{ dst := some 33, op := Go.Op.load 24 (Go.Operand.tmp 3), type := 24, pos := "theorems.go:61", after := #[], guard := none }, { dst := some 34, op := Go.Op.call { callee := Go.Callee.value (Go.Operand.func 9), args := #[Go.Operand.tmp 33], argTypes := #[24] }, type := 24, pos := "theorems.go:61", after := #[{ on := 0, ground := Go.Ground.data }], guard := none }, { dst := some 35, op := Go.Op.move (Go.Operand.tmp 1), type := 9, pos := "theorems.go:61", after := #[], guard := none }, { dst := some 36, op := Go.Op.load 26 (Go.Operand.tmp 5), type := 26, pos := "theorems.go:61", after := #[], guard := none }, { dst := some 37, op := Go.Op.call { callee := Go.Callee.value (Go.Operand.func 8), args := #[Go.Operand.tmp 34, Go.Operand.tmp 35, Go.Operand.tmp 36], argTypes := #[24, 9, 26] }, type := 34, pos := "theorems.go:61", after := #[{ on := 1, ground := Go.Ground.data }, { on := 2, ground := Go.Ground.data }, { on := 3, ground := Go.Ground.data }, { on := 1, ground := Go.Ground.chain }], guard := none }, { dst := some 32, op := Go.Op.move (Go.Operand.tmp 37), type := 34, pos := "theorems.go:61", after := #[{ on := 4, ground := Go.Ground.data }], guard := none }, { dst := some 38, op := Go.Op.extract (Go.Operand.tmp 32) 0, type := 31, pos := "theorems.go:61", after := #[{ on := 5, ground := Go.Ground.data }], guard := none }, { dst := some 39, op := Go.Op.extract (Go.Operand.tmp 32) 1, type := 32, pos := "theorems.go:61", after := #[{ on := 5, ground := Go.Ground.data }, { on := 11, ground := Go.Ground.gcOnly Go.Departure.lateStores }], guard := none }, { dst := some 40, op := Go.Op.extract (Go.Operand.tmp 32) 2, type := 33, pos := "theorems.go:61", after := #[{ on := 5, ground := Go.Ground.data }, { on := 12, ground := Go.Ground.gcOnly Go.Departure.lateStores }], guard := none }, { dst := some 11, op := Go.Op.alloc 31, type := 0, pos := "theorems.go:61", after := #[], guard := none }, { dst := some 12, op := Go.Op.alloc 32, type := 0, pos := "theorems.go:61", after := #[], guard := none }, { dst := none, op := Go.Op.store 31 (Go.Operand.tmp 11) (Go.Operand.tmp 38), type := 0, pos := "theorems.go:61", after := #[{ on := 9, ground := Go.Ground.data }, { on := 6, ground := Go.Ground.data }, { on := 4, ground := Go.Ground.chain }, { on := 0, ground := Go.Ground.phase }, { on := 1, ground := Go.Ground.phase }, { on := 2, ground := Go.Ground.phase }, { on := 3, ground := Go.Ground.phase }, { on := 4, ground := Go.Ground.phase }, { on := 5, ground := Go.Ground.phase }, { on := 6, ground := Go.Ground.phase }, { on := 7, ground := Go.Ground.textOnly Go.Departure.lateStores }, { on := 8, ground := Go.Ground.textOnly Go.Departure.lateStores }, { on := 9, ground := Go.Ground.phase }, { on := 10, ground := Go.Ground.phase }], guard := none }, { dst := none, op := Go.Op.store 32 (Go.Operand.tmp 12) (Go.Operand.tmp 39), type := 0, pos := "theorems.go:61", after := #[{ on := 10, ground := Go.Ground.data }, { on := 7, ground := Go.Ground.data }, { on := 11, ground := Go.Ground.chain }, { on := 0, ground := Go.Ground.phase }, { on := 1, ground := Go.Ground.phase }, { on := 2, ground := Go.Ground.phase }, { on := 3, ground := Go.Ground.phase }, { on := 4, ground := Go.Ground.phase }, { on := 5, ground := Go.Ground.phase }, { on := 6, ground := Go.Ground.phase }, { on := 7, ground := Go.Ground.phase }, { on := 8, ground := Go.Ground.textOnly Go.Departure.lateStores }, { on := 9, ground := Go.Ground.phase }, { on := 10, ground := Go.Ground.phase }, { on := 11, ground := Go.Ground.phase }], guard := none }, { dst := some 13, op := Go.Op.assign (Go.Operand.tmp 40), type := 33, pos := "theorems.go:61", after := #[{ on := 8, ground := Go.Ground.data }, { on := 12, ground := Go.Ground.chain }, { on := 0, ground := Go.Ground.phase }, { on := 1, ground := Go.Ground.phase }, { on := 2, ground := Go.Ground.phase }, { on := 3, ground := Go.Ground.phase }, { on := 4, ground := Go.Ground.phase }, { on := 5, ground := Go.Ground.phase }, { on := 6, ground := Go.Ground.phase }, { on := 7, ground := Go.Ground.phase }, { on := 8, ground := Go.Ground.phase }, { on := 9, ground := Go.Ground.phase }, { on := 10, ground := Go.Ground.phase }, { on := 11, ground := Go.Ground.phase }, { on := 12, ground := Go.Ground.phase }], guard := none }] true).wp Tryd.prog Q a wb := by
  refine wp_region_slots (fun b f w => R7 w0 wb Ar c start rs inp D S X b3 bl q1 q2 b f w) 14 [0, 1, 2, 3, 4, 5, 6, 7, 8, 9, 10, 11, 12, 13] [33, 34, 35, 36, 37, 32, 38, 39, 40, 11, 12, 13] 173 (by kernel_rfl) rfl rfl rfl (by kernel_rfl) (by kernel_rfl) hz (by kernel_rfl) ?_ ?_ ?_
  · exact { bel := Below.drew (Below.refl _ _), g3 := s3, g1 := s1, gl := sl, p0 := nofun, p1 := nofun, p2 := nofun, p3 := nofun, p4 := nofun, p5 := nofun, p6 := nofun, p7 := nofun, p8 := nofun, p9 := nofun, p10 := nofun, p13 := nofun }
  · refine SSteps.cons (i := 0) (ds := []) (js := [1, 4, 5, 6, 7, 8, 11, 12, 13]) rfl (by kernel_rfl) (by kernel_rfl) (fun b f w hb0 hd hj h => ?_) ?_
    · exact Does.loadBlk (h.g3) (x3.below h.bel x3.lt) Tryd.underlying24 rfl (by kernel_rfl) { h with p0 := fun _ => rfl }
    refine SSteps.cons (i := 1) (ds := [0]) (js := [4, 5, 6, 7, 8, 11, 12, 13]) rfl (by kernel_rfl) (by kernel_rfl) (fun b f w hb0 hd hj h => ?_) ?_
    · have d0 : b 0 = true := hd 0 (by decide)
      have e0 := h.p0 d0
      refine Does.call (args := #[.agg #[.slice Ar rs.length c, .int .i64 start]]) (by simp [Slots.eval, e0]) rfl (by kernel_rfl) ?_
      refine (lendRun.calls Ar c start rs w (Kd.C_below hr (bw.trans (h.bel.mono bw.size))) mr mb).mono ?_
      rintro e w' ⟨br, rfl, hc, hbl⟩
      exact ⟨_, rfl, { (h.below hbl) with p1 := fun _ => ⟨br, rfl, fun _ => hc⟩ }⟩
    refine SSteps.cons (i := 2) (ds := []) (js := [4, 5, 6, 7, 8, 11, 12, 13]) rfl (by kernel_rfl) (by kernel_rfl) (fun b f w hb0 hd hj h => ?_) ?_
    · exact Does.move { h with p2 := fun _ => h.g1 }
    refine SSteps.cons (i := 3) (ds := []) (js := [4, 5, 6, 7, 8, 11, 12, 13]) rfl (by kernel_rfl) (by kernel_rfl) (fun b f w hb0 hd hj h => ?_) ?_
    · exact Does.loadBlk (h.gl) (xl.below h.bel xl.lt) Tryd.underlying26 rfl (by kernel_rfl) { h with p3 := fun _ => rfl }
    refine SSteps.cons (i := 4) (ds := [1, 2, 3, 0]) (js := [5, 6, 7, 8, 11, 12, 13]) rfl (by kernel_rfl) (by kernel_rfl) (fun b f w hb0 hd hj h => ?_) ?_
    · have d1 : b 1 = true := hd 1 (by decide); have d2 : b 2 = true := hd 2 (by decide); have d3 : b 3 = true := hd 3 (by decide)
      obtain ⟨br, e1, hc⟩ := h.p1 d1
      have e2 := h.p2 d2
      have e3 := h.p3 d3
      refine Does.call (args := #[.agg #[.slice (some ⟨br, 0, none⟩) rs.length (rs.length + 1), .int .i64 start], .string inp, .agg #[.int .i64 D, .int .i64 S]]) (by simp [Slots.eval, e1, e2, e3]) rfl (by kernel_rfl) ?_
      refine (mrun.calls (some ⟨br, 0, none⟩) (rs.length + 1) start rs inp D S w (hc hb0) (by omega) hb).mono ?_
      rintro e w' hans
      rw [hX] at hans
      obtain ⟨A, c', rfl, hbl, hown⟩ := RunAns.any hans
      exact ⟨_, rfl, { (h.below hbl) with p1 := fun hx => ((h.below hbl).p1 hx).imp fun _ ⟨e, _⟩ => ⟨e, fun hr => by cases hr⟩, p4 := fun _ => ⟨A, c', rfl, hown.low h.bel.size⟩, p5 := (fun hx => no (hj 5 (by decide)) hx), p6 := (fun hx => no (hj 6 (by decide)) hx), p7 := (fun hx => no (hj 7 (by decide)) hx), p8 := (fun hx => no (hj 8 (by decide)) hx), p13 := (fun hx => no (hj 13 (by decide)) hx), p9 := fun hx => ((h.below hbl).p9 hx).imp fun _ ⟨cs, k1, k2, k3, k4, _⟩ => ⟨cs, k1, k2, k3, k4, (fun hx => no (hj 11 (by decide)) hx)⟩, p10 := fun hx => ((h.below hbl).p10 hx).imp fun _ ⟨cs, k1, k2, k3, k4, _⟩ => ⟨cs, k1, k2, k3, k4, (fun hx => no (hj 12 (by decide)) hx)⟩ }⟩
    refine SSteps.cons (i := 5) (ds := [4, 1, 2, 3, 0]) (js := [6, 7, 8, 11, 12, 13]) rfl (by kernel_rfl) (by kernel_rfl) (fun b f w hb0 hd hj h => ?_) ?_
    · exact Does.move { h with p5 := fun _ => rfl }
    refine SSteps.cons (i := 6) (ds := [5, 4, 1, 2, 3, 0]) (js := [11, 12, 13]) rfl (by kernel_rfl) (by kernel_rfl) (fun b f w hb0 hd hj h => ?_) ?_
    · have d4 : b 4 = true := hd 4 (by decide); have d5 : b 5 = true := hd 5 (by decide)
      obtain ⟨A, c', e1, _⟩ := h.p4 d4
      have e2 := (h.p5 d5).trans e1
      refine Does.ext e2 (by simp) ?_
      exact { h with p6 := fun _ => (congrArg (fun v => tup v 0) e1).symm }
    refine SSteps.cons (i := 7) (ds := [5, 4, 1, 2, 3, 0]) (js := [12, 13]) rfl (by kernel_rfl) (by kernel_rfl) (fun b f w hb0 hd hj h => ?_) ?_
    · have d4 : b 4 = true := hd 4 (by decide); have d5 : b 5 = true := hd 5 (by decide)
      obtain ⟨A, c', e1, _⟩ := h.p4 d4
      have e2 := (h.p5 d5).trans e1
      refine Does.ext e2 (by simp) ?_
      exact { h with p7 := fun _ => (congrArg (fun v => tup v 1) e1).symm }
    refine SSteps.cons (i := 8) (ds := [5, 4, 1, 2, 3, 0]) (js := [13]) rfl (by kernel_rfl) (by kernel_rfl) (fun b f w hb0 hd hj h => ?_) ?_
    · have d4 : b 4 = true := hd 4 (by decide); have d5 : b 5 = true := hd 5 (by decide)
      obtain ⟨A, c', e1, _⟩ := h.p4 d4
      have e2 := (h.p5 d5).trans e1
      refine Does.ext e2 (by simp) ?_
      exact { h with p8 := fun _ => (congrArg (fun v => tup v 2) e1).symm, p13 := (fun hx => no (hj 13 (by decide)) hx) }
    refine SSteps.cons (i := 9) (ds := []) (js := [11, 12, 13]) rfl (by kernel_rfl) (by kernel_rfl) (fun b f w hb0 hd hj h => ?_) ?_
    · refine Does.alloc (P := Tryd.prog) zero31 ?_
      intro w' hb' hbl
      exact { (h.below hbl) with p9 := fun _ => ⟨w.heap.size, _, rfl, h.bel.size, hb', rfl, (fun hx => no (hj 11 (by decide)) hx)⟩ }
    refine SSteps.cons (i := 10) (ds := []) (js := [11, 12, 13]) rfl (by kernel_rfl) (by kernel_rfl) (fun b f w hb0 hd hj h => ?_) ?_
    · refine Does.alloc (P := Tryd.prog) zero32 ?_
      intro w' hb' hbl
      exact { (h.below hbl) with p10 := fun _ => ⟨w.heap.size, _, rfl, h.bel.size, hb', rfl, (fun hx => no (hj 12 (by decide)) hx)⟩ }
    refine SSteps.cons (i := 11) (ds := [9, 6, 4, 0, 1, 2, 3, 5, 10]) (js := [12, 13]) rfl (by kernel_rfl) (by kernel_rfl) (fun b f w hb0 hd hj h => ?_) ?_
    · have d4 : b 4 = true := hd 4 (by decide); have d9 : b 9 = true := hd 9 (by decide); have d6 : b 6 = true := hd 6 (by decide)
      obtain ⟨A, c', e1, _⟩ := h.p4 d4
      obtain ⟨q, cs, e2, hle, hbq, hcl, _⟩ := h.p9 d9
      have e3 := h.p6 d6
      rw [e1] at e3
      refine Does.store e2 e3 hbq (by kernel_rfl) (by rw [hcl]; exact Nat.le_refl _) (by simp [tup, Value.cells, Value.oneCell']) ?_
      intro w' hb' g
      rw [splice_all _ _ (by rw [hcl]; rfl)] at hb'
      exact h.st31 d4 e2 hbq hle rfl (by rw [e1]; rfl) hb' g
    refine SSteps.cons (i := 12) (ds := [10, 7, 11, 0, 1, 2, 3, 4, 5, 6, 9]) (js := [13]) rfl (by kernel_rfl) (by kernel_rfl) (fun b f w hb0 hd hj h => ?_) ?_
    · have d4 : b 4 = true := hd 4 (by decide); have d10 : b 10 = true := hd 10 (by decide); have d7 : b 7 = true := hd 7 (by decide)
      obtain ⟨A, c', e1, _⟩ := h.p4 d4
      obtain ⟨q, cs, e2, hle, hbq, hcl, _⟩ := h.p10 d10
      have e3 := h.p7 d7
      rw [e1] at e3
      refine Does.store e2 e3 hbq (by kernel_rfl) (by rw [hcl]; exact Nat.le_refl _) (by simp [tup, Value.cells, Value.oneCell']) ?_
      intro w' hb' g
      rw [splice_all _ _ (by rw [hcl]; rfl)] at hb'
      exact h.st32 d4 e2 hbq hle rfl (by rw [e1]; rfl) hb' g
    refine SSteps.cons (i := 13) (ds := [8, 12, 0, 1, 2, 3, 4, 5, 6, 7, 9, 10, 11]) (js := []) rfl (by kernel_rfl) (by kernel_rfl) (fun b f w hb0 hd hj h => ?_) ?_
    · have d8 : b 8 = true := hd 8 (by decide)
      exact Does.assign { h with p13 := fun _ => h.p8 d8 }
    exact SSteps.nil
  · intro b f w' hall h _
    obtain ⟨A, c', e1, hown⟩ := h.p4 (hall 4 (by decide))
    have e4 := h.p13 (hall 13 (by decide))
    obtain ⟨q1, cs1, k1, l1, y1, m1, n1⟩ := h.p9 (hall 9 (by decide))
    obtain ⟨q2, cs2, k2, l2, y2, m2, n2⟩ := h.p10 (hall 10 (by decide))
    have e2 := n1 (hall 11 (by decide))
    have e3 := n2 (hall 12 (by decide))
    rw [e1] at e2 e3 e4
    have t1 : cs1 = oC X (.slice A (ansRes X).forest.length c') := by have := congrArg (fun v => match v with | Value.agg a => a.toList | _ => []) e2; simpa [tup] using this
    have t2 : cs2 = uC X := by have := congrArg (fun v => match v with | Value.agg a => a.toList | _ => []) e3; simpa [tup] using this
    exact hQ f w' q1 q2 A c' k1 k2 (by rw [e4]; rfl) l1 l2 h.bel (t1 ▸ y1) (t2 ▸ y2) hown
end Go.Proofs.YtmpkkphohilkoaaDoor.B
/- A region of the law MatchLimits, by its invariant (printed by wip/gen/genreg6.py). -/
namespace Go.Proofs.YtmpkkphohilkoaaDoor.B
open Go Go.RowKit Go.X Go.Ma Go.Proofs.YtmpkkphohilkoaaDoorW.PrintWords Go.Proofs.YtmpkkphohilkoaaDoor.F
structure R17 (w0 wb : World) (Ar : Option Addr) (c : Nat) (start : Int) (rs : List S42) (inp : ByteArray) (D S : Int) (X : Res × St) (b3 bl q1 q2 : Nat) (b : Bits) (f : Slots) (w : World) : Prop where
  bel : But (fun k => k = q1 ∨ k = q2) wb w
  g3 : f 3 = .pointer (some ⟨b3, 0, none⟩)
  g1 : f 1 = .string inp
  gl : f 9 = .pointer (some ⟨bl, 0, none⟩)
  p0 : b 0 = true → f 114 = .agg #[.slice Ar rs.length c, .int .i64 start]
  p1 : b 1 = true → ∃ br, f 115 = .agg #[.slice (some ⟨br, 0, none⟩) rs.length (rs.length + 1), .int .i64 start] ∧ (b 8 = false → Kd.C k42 w (some ⟨br, 0, none⟩) rs.length rs)
  p2 : b 2 = true → f 116 = .string inp
  p3 : b 3 = true → f 117 = .pointer (some ⟨bl, 0, none⟩)
  p4 : b 4 = true → f 118 = .int .i64 D
  p5 : b 5 = true → f 119 = .pointer (some ⟨bl, 1, none⟩)
  p6 : b 6 = true → f 120 = .int .i64 S
  p7 : b 7 = true → f 121 = .agg #[.int .i64 D, .int .i64 S]
  p8 : b 8 = true → ∃ A c', f 122 = ansV X A c' ∧ OwnF w wb.heap.size (.slice A (ansRes X).forest.length c') (ansRes X).forest
  p9 : b 9 = true → f 113 = f 122
  p10 : b 10 = true → f 123 = tup (f 122) 0
  p11 : b 11 = true → f 124 = tup (f 122) 1
  p12 : b 12 = true → f 125 = tup (f 122) 2
  z31 : f 11 = .pointer (some ⟨q1, 0, none⟩)
  y31 : ∃ cs, Blk w q1 31 cs ∧ cs.length = 4 ∧ (b 13 = true → .agg cs.toArray = tup (f 122) 0)
  z32 : f 12 = .pointer (some ⟨q2, 0, none⟩)
  y32 : ∃ cs, Blk w q2 32 cs ∧ cs.length = 2 ∧ (b 14 = true → .agg cs.toArray = tup (f 122) 1)
  p15 : b 15 = true → f 13 = tup (f 122) 2
theorem R17.below {w0 wb : World} {Ar : Option Addr} {c : Nat} {start : Int} {rs : List S42} {inp : ByteArray} {D S : Int} {X : Res × St} {b3 bl q1 q2 : Nat} {b : Bits} {f : Slots} {w w' : World} (h : R17 w0 wb Ar c start rs inp D S X b3 bl q1 q2 b f w) (g : Below w.heap.size w w') : R17 w0 wb Ar c start rs inp D S X b3 bl q1 q2 b f w' :=
  { h with
    bel := h.bel.grown (Go.X.grown_of_below g none) (fun _ e => nomatch e)
    p1 := fun hb => (h.p1 hb).imp fun _ ⟨e, k⟩ => ⟨e, fun hr => Kd.C_below (k hr) g⟩
    p8 := fun hb => (h.p8 hb).imp fun _ ⟨c', e, k⟩ => ⟨c', e, k.more (Go.X.grown_of_below g none)⟩
    y31 := h.y31.imp fun _ ⟨k, e⟩ => ⟨k.below g k.lt, e⟩
    y32 := h.y32.imp fun _ ⟨k, e⟩ => ⟨k.below g k.lt, e⟩ }
theorem R17.st31 {w0 wb : World} {Ar : Option Addr} {c : Nat} {start : Int} {rs : List S42} {inp : ByteArray} {D S : Int} {X : Res × St} {b3 bl q1 q2 : Nat} {b : Bits} {f : Slots} {w w' : World} {cs : List Value} (h : R17 w0 wb Ar c start rs inp D S X b3 bl q1 q2 b f w) (hrun : b 8 = true) (hbq : Blk w q1 31 cs) {cs' : List Value} (hl : cs'.length = 4) (hv : .agg cs'.toArray = tup (f 122) 0) (hb' : Blk w' q1 31 cs') (g : w.grownBy w' (some q1)) : R17 w0 wb Ar c start rs inp D S X b3 bl q1 q2 (b.put 13) f w' :=
  { h with
    bel := h.bel.grown g (fun _ e => by cases e; exact .inl (.inl rfl))
    p1 := fun hb => (h.p1 hb).imp fun _ ⟨e, _⟩ => ⟨e, fun hr => no hr hrun⟩
    p8 := fun hb => (h.p8 hb).imp fun _ ⟨c', e, k⟩ => ⟨c', e, k.kept g hbq (by decide)⟩
    y31 := ⟨cs', hb', hl, fun _ => hv⟩
    y32 := h.y32.imp fun _ ⟨k, e⟩ => ⟨k.grown g (by intro e'; injection e' with e'; exact k.ne hbq (by decide) e'), e⟩ }
theorem R17.st32 {w0 wb : World} {Ar : Option Addr} {c : Nat} {start : Int} {rs : List S42} {inp : ByteArray} {D S : Int} {X : Res × St} {b3 bl q1 q2 : Nat} {b : Bits} {f : Slots} {w w' : World} {cs : List Value} (h : R17 w0 wb Ar c start rs inp D S X b3 bl q1 q2 b f w) (hrun : b 8 = true) (hbq : Blk w q2 32 cs) {cs' : List Value} (hl : cs'.length = 2) (hv : .agg cs'.toArray = tup (f 122) 1) (hb' : Blk w' q2 32 cs') (g : w.grownBy w' (some q2)) : R17 w0 wb Ar c start rs inp D S X b3 bl q1 q2 (b.put 14) f w' :=
  { h with
    bel := h.bel.grown g (fun _ e => by cases e; exact .inl (.inr rfl))
    p1 := fun hb => (h.p1 hb).imp fun _ ⟨e, _⟩ => ⟨e, fun hr => no hr hrun⟩
    p8 := fun hb => (h.p8 hb).imp fun _ ⟨c', e, k⟩ => ⟨c', e, k.kept g hbq (by decide)⟩
    y32 := ⟨cs', hb', hl, fun _ => hv⟩
    y31 := h.y31.imp fun _ ⟨k, e⟩ => ⟨k.grown g (by intro e'; injection e' with e'; exact k.ne hbq (by decide) e'), e⟩ }
set_option maxRecDepth 100000 in
theorem R17.wp (w0 wb : World) (Ar : Option Addr) (c : Nat) (start : Int) (rs : List S42) (inp : ByteArray) (D S : Int) (X : Res × St) (b3 bl q1 q2 : Nat) (hX : atAns rs start start inp 0 D S = X)
    (hr : Kd.C k42 w0 Ar rs.length rs) (bw : Below w0.heap.size w0 wb) (mr : rs.length ≤ 1048576) (mb : ∀ x ∈ rs, x.f1.length ≤ 1048576) (hb : ∀ x ∈ rs, x.f1.length ≤ 140737488355328 ∧ x.f0.size ≤ 140737488355328)
    (x3 : Blk wb b3 24 [.slice Ar rs.length c, .int .i64 start]) (xl : Blk wb bl 32 [.int .i64 D, .int .i64 S]) (a : Act) (Q : Exit → Act → World → Prop) (hz : a.tmps.size = 173)
    (s3 : Slots.of a 3 = .pointer (some ⟨b3, 0, none⟩)) (s1 : Slots.of a 1 = .string inp) (sl : Slots.of a 9 = .pointer (some ⟨bl, 0, none⟩))
    (o1 : Slots.of a 11 = .pointer (some ⟨q1, 0, none⟩)) (o2 : Slots.of a 12 = .pointer (some ⟨q2, 0, none⟩)) (y1 : ∃ cs, Blk wb q1 31 cs ∧ cs.length = 4) (y2 : ∃ cs, Blk wb q2 32 cs ∧ cs.length = 2) (le1 : w0.heap.size ≤ q1) (le2 : w0.heap.size ≤ q2) (n31 : b3 ≠ q1 ∧ b3 ≠ q2) (nl : bl ≠ q1 ∧ bl ≠ q2)
    (hQ : ∀ (f : Slots) (w' : World) (A : Option Addr) (c' : Nat), f 13 = .int .i64 (ansSt X).err → But (fun k => k = q1 ∨ k = q2) wb w' → Blk w' q1 31 (oC X (.slice A (ansRes X).forest.length c')) → Blk w' q2 32 (uC X) → OwnF w' wb.heap.size (.slice A (ansRes X).forest.length c') (ansRes X).forest → Q .normal (Act.puts a f [114, 115, 116, 117, 118, 119, 120, 121, 122, 113, 123, 124, 125, 13]) w') :
    (Code.region 17 #[{ dst := some 114, op := Go.Op.load 24 (Go.Operand.tmp 3), type := 24, pos := "theorems.go:75", after := #[], guard := none }, { dst := some 115, op := Go.Op.call { callee := Go.Callee.value (Go.Operand.func 9), args := #[Go.Operand.tmp 114], argTypes := #[24] }, type := 24, pos := "theorems.go:75", after := #[{ on := 0, ground := Go.Ground.data }], guard := none }, { dst := some 116, op := Go.Op.move (Go.Operand.tmp 1), type := 9, pos := "theorems.go:75", after := #[], guard := none }, { dst := some 117, op := Go.Op.fieldAddr 32 (Go.Operand.tmp 9) 0, type := 0, pos := "theorems.go:75", after := #[], guard := none }, { dst := some 118, op := Go.Op.load 3 (Go.Operand.tmp 117), type := 3, pos := "theorems.go:75", after := #[{ on := 3, ground := Go.Ground.data }], guard := none }, { dst := some 119, op := Go.Op.fieldAddr 32 (Go.Operand.tmp 9) 1, type := 0, pos := "theorems.go:75", after := #[], guard := none }, { dst := some 120, op := Go.Op.load 3 (Go.Operand.tmp 119), type := 3, pos := "theorems.go:75", after := #[{ on := 5, ground := Go.Ground.data }], guard := none }, { dst := some 121, op := Go.Op.build 26 #[(0, Go.Operand.tmp 118), (1, Go.Operand.tmp 120)], type := 26, pos := "theorems.go:75", after := #[{ on := 4, ground := Go.Ground.data }, { on := 6, ground := Go.Ground.data }], guard := none }, { dst := some 122, op := Go.Op.call { callee := Go.Callee.value (Go.Operand.func 8), args := #[Go.Operand.tmp 115, Go.Operand.tmp 116, Go.Operand.tmp 121], argTypes := #[24, 9, 26] }, type := 34, pos := "theorems.go:75", after := #[{ on := 1, ground := Go.Ground.data }, { on := 2, ground := Go.Ground.data }, { on := 7, ground := Go.Ground.data }, { on := 1, ground := Go.Ground.chain }], guard := none }, { dst := some 113, op := Go.Op.move (Go.Operand.tmp 122), type := 34, pos := "theorems.go:75", after := #[{ on := 8, ground := Go.Ground.data }], guard := none }, { dst := some 123, op := Go.Op.extract (Go.Operand.tmp 113) 0, type := 31, pos := "theorems.go:75", after := #[{ on := 9, ground := Go.Ground.data }], guard := none }, { dst := some 124, op := Go.Op.extract (Go.Operand.tmp 113) 1, type := 32, pos := "theorems.go:75", after := #[{ on := 9, ground := Go.Ground.data }, { on := 13, ground := Go.Ground.gcOnly Go.Departure.lateStores }], guard := none }, { dst := some 125, op := Go.Op.extract (Go.Operand.tmp 113) 2, type := 33, pos := "theorems.go:75", after := #[{ on := 9, ground := Go.Ground.data }, { on := 14, ground := Go.Ground.gcOnly Go.Departure.lateStores }], guard := none }, { dst := none, op := Go.Op.store 31 (Go.Operand.tmp 11) (Go.Operand.tmp 123), type := 0, pos := "theorems.go:75", after := #[{ on := 10, ground := Go.Ground.data }, { on := 8, ground := Go.Ground.chain }, { on := 0, ground := Go.Ground.phase }, { on := 1, ground := Go.Ground.phase }, { on := 2, ground := Go.Ground.phase }, { on := 3, ground := Go.Ground.phase }, { on := 4, ground := Go.Ground.phase }, { on := 5, ground := Go.Ground.phase }, { on := 6, ground := Go.Ground.phase }, { on := 7, ground := Go.Ground.phase }, { on := 8, ground := Go.Ground.phase }, { on := 9, ground := Go.Ground.phase }, { on := 10, ground := Go.Ground.phase }, { on := 11, ground := Go.Ground.textOnly Go.Departure.lateStores }, { on := 12, ground := Go.Ground.textOnly Go.Departure.lateStores }], guard := none }, { dst := none, op := Go.Op.store 32 (Go.Operand.tmp 12) (Go.Operand.tmp 124), type := 0, pos := "theorems.go:75", after := #[{ on := 11, ground := Go.Ground.data }, { on := 13, ground := Go.Ground.chain }, { on := 0, ground := Go.Ground.phase }, { on := 1, ground := Go.Ground.phase }, { on := 2, ground := Go.Ground.phase }, { on := 3, ground := Go.Ground.phase }, { on := 4, ground := Go.Ground.phase }, { on := 5, ground := Go.Ground.phase }, { on := 6, ground := Go.Ground.phase }, { on := 7, ground := Go.Ground.phase }, { on := 8, ground := Go.Ground.phase }, { on := 9, ground := Go.Ground.phase }, { on := 10, ground := Go.Ground.phase }, { on := 11, ground := Go.Ground.phase }, { on := 12, ground := Go.Ground.textOnly Go.Departure.lateStores }, { on := 13, ground := Go.Ground.phase }], guard := none }, { dst := some 13, op := Go.Op.assign (Go.Operand.tmp 125), type := 33, pos := "theorems.go:75", after := #[{ on := 12, ground := Go.Ground.data }, { on := 14, ground := Go.Ground.chain }, { on := 0, ground := Go.Ground.phase }, { on := 1, ground := Go.Ground.phase }, { on := 2, ground := Go.Ground.phase }, { on := 3, ground := Go.Ground.phase }, { on := 4, ground := Go.Ground.phase }, { on := 5, ground := Go.Ground.phase }, { on := 6, ground := Go.Ground.phase }, { on := 7, ground := Go.Ground.phase }, { on := 8, ground := Go.Ground.phase }, { on := 9, ground := Go.Ground.phase }, { on := 10, ground := Go.Ground.phase }, { on := 11, ground := Go.Ground.phase }, { on := 12, ground := Go.Ground.phase }, { on := 13, ground := Go.Ground.phase }, { on := 14, ground := Go.Ground.phase }], guard := none }] true).wp Tryd.prog Q a wb := by
  have hlow : ∀ w, But (fun k => k = q1 ∨ k = q2) wb w → Below w0.heap.size w0 w := fun w hB => bw.trans (hB.below (B := w0.heap.size) (fun k hk => hk.elim (fun e => e ▸ le1) (fun e => e ▸ le2)) bw.size)
  refine wp_region_slots (fun b f w => R17 w0 wb Ar c start rs inp D S X b3 bl q1 q2 b f w) 16 [0, 1, 2, 3, 4, 5, 6, 7, 8, 9, 10, 11, 12, 13, 14, 15] [114, 115, 116, 117, 118, 119, 120, 121, 122, 113, 123, 124, 125, 13] 173 (by kernel_rfl) rfl rfl rfl (by kernel_rfl) (by kernel_rfl) hz (by kernel_rfl) ?_ ?_ ?_
  · exact { bel := ⟨rfl, rfl, rfl, Nat.le_refl _, fun _ _ _ => rfl⟩, g3 := s3, g1 := s1, gl := sl, p0 := nofun, p1 := nofun, p2 := nofun, p3 := nofun, p4 := nofun, p5 := nofun, p6 := nofun, p7 := nofun, p8 := nofun, p9 := nofun, p10 := nofun, p11 := nofun, p12 := nofun, p15 := nofun, z31 := o1, z32 := o2, y31 := y1.imp fun _ ⟨k, e⟩ => ⟨k, e, nofun⟩, y32 := y2.imp fun _ ⟨k, e⟩ => ⟨k, e, nofun⟩ }
  · refine SSteps.cons (i := 0) (ds := []) (js := [1, 8, 9, 10, 11, 12, 13, 14, 15]) rfl (by kernel_rfl) (by kernel_rfl) (fun b f w hb0 hd hj h => ?_) ?_
    · exact Does.loadBlk (h.g3) (x3.but h.bel (fun e => e.elim n31.1 n31.2)) Tryd.underlying24 rfl (by kernel_rfl) { h with p0 := fun _ => rfl }
    refine SSteps.cons (i := 1) (ds := [0]) (js := [8, 9, 10, 11, 12, 13, 14, 15]) rfl (by kernel_rfl) (by kernel_rfl) (fun b f w hb0 hd hj h => ?_) ?_
    · have d0 : b 0 = true := hd 0 (by decide)
      have e0 := h.p0 d0
      refine Does.call (args := #[.agg #[.slice Ar rs.length c, .int .i64 start]]) (by simp [Slots.eval, e0]) rfl (by kernel_rfl) ?_
      refine (lendRun.calls Ar c start rs w (Kd.C_below hr (hlow w h.bel)) mr mb).mono ?_
      rintro e w' ⟨br, rfl, hc, hbl⟩
      exact ⟨_, rfl, { (h.below hbl) with p1 := fun _ => ⟨br, rfl, fun _ => hc⟩ }⟩
    refine SSteps.cons (i := 2) (ds := []) (js := [8, 9, 10, 11, 12, 13, 14, 15]) rfl (by kernel_rfl) (by kernel_rfl) (fun b f w hb0 hd hj h => ?_) ?_
    · exact Does.move { h with p2 := fun _ => h.g1 }
    refine SSteps.cons (i := 3) (ds := []) (js := [4, 7, 8, 9, 10, 11, 12, 13, 14, 15]) rfl (by kernel_rfl) (by kernel_rfl) (fun b f w hb0 hd hj h => ?_) ?_
    · exact Does.fieldAddr (v := .pointer (some ⟨bl, 0, none⟩)) (by rw [show f.eval (.tmp 9) = _ from h.gl]; go_simp) { h with p3 := fun _ => rfl }
    refine SSteps.cons (i := 4) (ds := [3]) (js := [7, 8, 9, 10, 11, 12, 13, 14, 15]) rfl (by kernel_rfl) (by kernel_rfl) (fun b f w hb0 hd hj h => ?_) ?_
    · have d3 : b 3 = true := hd 3 (by decide)
      have e0 := h.p3 d3
      have hc : w.cell? ⟨bl, 0, none⟩ = some (.int .i64 D) := (xl.but h.bel (fun e => e.elim nl.1 nl.2)).cell 0
      exact Does.load (v := .int .i64 D) (by rw [show f.eval (.tmp 117) = _ from e0]; go_simp) { h with p4 := fun _ => rfl }
    refine SSteps.cons (i := 5) (ds := []) (js := [6, 7, 8, 9, 10, 11, 12, 13, 14, 15]) rfl (by kernel_rfl) (by kernel_rfl) (fun b f w hb0 hd hj h => ?_) ?_
    · exact Does.fieldAddr (v := .pointer (some ⟨bl, 1, none⟩)) (by rw [show f.eval (.tmp 9) = _ from h.gl]; go_simp) { h with p5 := fun _ => rfl }
    refine SSteps.cons (i := 6) (ds := [5]) (js := [7, 8, 9, 10, 11, 12, 13, 14, 15]) rfl (by kernel_rfl) (by kernel_rfl) (fun b f w hb0 hd hj h => ?_) ?_
    · have d5 : b 5 = true := hd 5 (by decide)
      have e0 := h.p5 d5
      have hc : w.cell? ⟨bl, 1, none⟩ = some (.int .i64 S) := (xl.but h.bel (fun e => e.elim nl.1 nl.2)).cell 1
      exact Does.load (v := .int .i64 S) (by rw [show f.eval (.tmp 119) = _ from e0]; go_simp) { h with p6 := fun _ => rfl }
    refine SSteps.cons (i := 7) (ds := [4, 6, 3, 5]) (js := [8, 9, 10, 11, 12, 13, 14, 15]) rfl (by kernel_rfl) (by kernel_rfl) (fun b f w hb0 hd hj h => ?_) ?_
    · have d4 : b 4 = true := hd 4 (by decide); have d6 : b 6 = true := hd 6 (by decide)
      have e0 := h.p4 d4
      have e1 := h.p6 d6
      exact Does.build (cells := #[.int .i64 D, .int .i64 S]) (by simp only [List.map_cons, List.map_nil]; rw [show f.eval (.tmp 118) = _ from e0, show f.eval (.tmp 120) = _ from e1]; kernel_rfl) { h with p7 := fun _ => rfl }
    refine SSteps.cons (i := 8) (ds := [1, 2, 7, 0, 4, 6, 3, 5]) (js := [9, 10, 11, 12, 13, 14, 15]) rfl (by kernel_rfl) (by kernel_rfl) (fun b f w hb0 hd hj h => ?_) ?_
    · have d1 : b 1 = true := hd 1 (by decide); have d2 : b 2 = true := hd 2 (by decide); have d7 : b 7 = true := hd 7 (by decide)
      obtain ⟨br, e1, hc⟩ := h.p1 d1
      have e2 := h.p2 d2
      have e3 := h.p7 d7
      refine Does.call (args := #[.agg #[.slice (some ⟨br, 0, none⟩) rs.length (rs.length + 1), .int .i64 start], .string inp, .agg #[.int .i64 D, .int .i64 S]]) (by simp [Slots.eval, e1, e2, e3]) rfl (by kernel_rfl) ?_
      refine (mrun.calls (some ⟨br, 0, none⟩) (rs.length + 1) start rs inp D S w (hc hb0) (by omega) hb).mono ?_
      rintro e w' hans
      rw [hX] at hans
      obtain ⟨A, c', rfl, hbl, hown⟩ := RunAns.any hans
      exact ⟨_, rfl, { (h.below hbl) with p1 := fun hx => ((h.below hbl).p1 hx).imp fun _ ⟨e, _⟩ => ⟨e, fun hr => by cases hr⟩, p8 := fun _ => ⟨A, c', rfl, hown.low h.bel.size⟩, p9 := (fun hx => no (hj 9 (by decide)) hx), p10 := (fun hx => no (hj 10 (by decide)) hx), p11 := (fun hx => no (hj 11 (by decide)) hx), p12 := (fun hx => no (hj 12 (by decide)) hx), p15 := (fun hx => no (hj 15 (by decide)) hx), y31 := (h.below hbl).y31.imp fun _ ⟨k1, k2, _⟩ => ⟨k1, k2, (fun hx => no (hj 13 (by decide)) hx)⟩, y32 := (h.below hbl).y32.imp fun _ ⟨k1, k2, _⟩ => ⟨k1, k2, (fun hx => no (hj 14 (by decide)) hx)⟩ }⟩
    refine SSteps.cons (i := 9) (ds := [8, 1, 2, 7, 0, 4, 6, 3, 5]) (js := [10, 11, 12, 13, 14, 15]) rfl (by kernel_rfl) (by kernel_rfl) (fun b f w hb0 hd hj h => ?_) ?_
    · exact Does.move { h with p9 := fun _ => rfl }
    refine SSteps.cons (i := 10) (ds := [9, 8, 1, 2, 7, 0, 4, 6, 3, 5]) (js := [13, 14, 15]) rfl (by kernel_rfl) (by kernel_rfl) (fun b f w hb0 hd hj h => ?_) ?_
    · have d8 : b 8 = true := hd 8 (by decide); have d9 : b 9 = true := hd 9 (by decide)
      obtain ⟨A, c', e1, _⟩ := h.p8 d8
      have e2 := (h.p9 d9).trans e1
      refine Does.ext e2 (by simp) ?_
      exact { h with p10 := fun _ => (congrArg (fun v => tup v 0) e1).symm }
    refine SSteps.cons (i := 11) (ds := [9, 8, 1, 2, 7, 0, 4, 6, 3, 5]) (js := [14, 15]) rfl (by kernel_rfl) (by kernel_rfl) (fun b f w hb0 hd hj h => ?_) ?_
    · have d8 : b 8 = true := hd 8 (by decide); have d9 : b 9 = true := hd 9 (by decide)
      obtain ⟨A, c', e1, _⟩ := h.p8 d8
      have e2 := (h.p9 d9).trans e1
      refine Does.ext e2 (by simp) ?_
      exact { h with p11 := fun _ => (congrArg (fun v => tup v 1) e1).symm }
    refine SSteps.cons (i := 12) (ds := [9, 8, 1, 2, 7, 0, 4, 6, 3, 5]) (js := [15]) rfl (by kernel_rfl) (by kernel_rfl) (fun b f w hb0 hd hj h => ?_) ?_
    · have d8 : b 8 = true := hd 8 (by decide); have d9 : b 9 = true := hd 9 (by decide)
      obtain ⟨A, c', e1, _⟩ := h.p8 d8
      have e2 := (h.p9 d9).trans e1
      refine Does.ext e2 (by simp) ?_
      exact { h with p12 := fun _ => (congrArg (fun v => tup v 2) e1).symm, p15 := (fun hx => no (hj 15 (by decide)) hx) }
    refine SSteps.cons (i := 13) (ds := [10, 8, 0, 1, 2, 3, 4, 5, 6, 7, 9]) (js := [14, 15]) rfl (by kernel_rfl) (by kernel_rfl) (fun b f w hb0 hd hj h => ?_) ?_
    · have d8 : b 8 = true := hd 8 (by decide); have d10 : b 10 = true := hd 10 (by decide)
      obtain ⟨A, c', e1, _⟩ := h.p8 d8
      obtain ⟨cs, hbq, hcl, _⟩ := h.y31
      have e3 := h.p10 d10
      rw [e1] at e3
      refine Does.store h.z31 e3 hbq (by kernel_rfl) (by rw [hcl]; exact Nat.le_refl _) (by simp [tup, Value.cells, Value.oneCell']) ?_
      intro w' hb' g
      rw [splice_all _ _ (by rw [hcl]; rfl)] at hb'
      exact h.st31 d8 hbq rfl (by rw [e1]; rfl) hb' g
    refine SSteps.cons (i := 14) (ds := [11, 13, 0, 1, 2, 3, 4, 5, 6, 7, 8, 9, 10]) (js := [15]) rfl (by kernel_rfl) (by kernel_rfl) (fun b f w hb0 hd hj h => ?_) ?_
    · have d8 : b 8 = true := hd 8 (by decide); have d11 : b 11 = true := hd 11 (by decide)
      obtain ⟨A, c', e1, _⟩ := h.p8 d8
      obtain ⟨cs, hbq, hcl, _⟩ := h.y32
      have e3 := h.p11 d11
      rw [e1] at e3
      refine Does.store h.z32 e3 hbq (by kernel_rfl) (by rw [hcl]; exact Nat.le_refl _) (by simp [tup, Value.cells, Value.oneCell']) ?_
      intro w' hb' g
      rw [splice_all _ _ (by rw [hcl]; rfl)] at hb'
      exact h.st32 d8 hbq rfl (by rw [e1]; rfl) hb' g
    refine SSteps.cons (i := 15) (ds := [12, 14, 0, 1, 2, 3, 4, 5, 6, 7, 8, 9, 10, 11, 13]) (js := []) rfl (by kernel_rfl) (by kernel_rfl) (fun b f w hb0 hd hj h => ?_) ?_
    · have d12 : b 12 = true := hd 12 (by decide)
      exact Does.assign { h with p15 := fun _ => h.p12 d12 }
    exact SSteps.nil
  · intro b f w' hall h _
    obtain ⟨A, c', e1, hown⟩ := h.p8 (hall 8 (by decide))
    have e4 := h.p15 (hall 15 (by decide))
    obtain ⟨cs1, y1, m1, n1⟩ := h.y31
    obtain ⟨cs2, y2, m2, n2⟩ := h.y32
    have e2 := n1 (hall 13 (by decide))
    have e3 := n2 (hall 14 (by decide))
    rw [e1] at e2 e3 e4
    have t1 : cs1 = oC X (.slice A (ansRes X).forest.length c') := by have := congrArg (fun v => match v with | Value.agg a => a.toList | _ => []) e2; simpa [tup] using this
    have t2 : cs2 = uC X := by have := congrArg (fun v => match v with | Value.agg a => a.toList | _ => []) e3; simpa [tup] using this
    exact hQ f w' A c' (by rw [e4]; rfl) h.bel (t1 ▸ y1) (t2 ▸ y2) hown
end Go.Proofs.YtmpkkphohilkoaaDoor.B
/- A region of the law MatchLimits, by its invariant (printed by wip/gen/genreg6.py). -/
namespace Go.Proofs.YtmpkkphohilkoaaDoor.B
open Go Go.RowKit Go.X Go.Ma Go.Proofs.YtmpkkphohilkoaaDoorW.PrintWords Go.Proofs.YtmpkkphohilkoaaDoor.F
structure R20 (w0 wb : World) (Ar : Option Addr) (c : Nat) (start : Int) (rs : List S42) (inp : ByteArray) (D S : Int) (X : Res × St) (b3 bl q1 q2 : Nat) (b : Bits) (f : Slots) (w : World) : Prop where
  bel : Below wb.heap.size wb w
  g3 : f 3 = .pointer (some ⟨b3, 0, none⟩)
  g1 : f 1 = .string inp
  gl : f 9 = .pointer (some ⟨bl, 0, none⟩)
  p0 : b 0 = true → f 140 = .agg #[.slice Ar rs.length c, .int .i64 start]
  p1 : b 1 = true → ∃ br, f 141 = .agg #[.slice (some ⟨br, 0, none⟩) rs.length (rs.length + 1), .int .i64 start] ∧ (b 9 = false → Kd.C k42 w (some ⟨br, 0, none⟩) rs.length rs)
  p2 : b 2 = true → f 142 = .string inp
  p3 : b 3 = true → f 143 = .pointer (some ⟨bl, 0, none⟩)
  p4 : b 4 = true → f 144 = .int .i64 D
  p5 : b 5 = true → f 145 = .int .i64 (D - 1)
  p6 : b 6 = true → f 146 = .pointer (some ⟨bl, 1, none⟩)
  p7 : b 7 = true → f 147 = .int .i64 S
  p8 : b 8 = true → f 148 = .agg #[.int .i64 (D - 1), .int .i64 S]
  p9 : b 9 = true → ∃ A c', f 149 = ansV X A c' ∧ OwnF w wb.heap.size (.slice A (ansRes X).forest.length c') (ansRes X).forest
  p10 : b 10 = true → f 139 = f 149
  p11 : b 11 = true → f 150 = tup (f 149) 0
  p12 : b 12 = true → f 151 = tup (f 149) 1
  p13 : b 13 = true → f 152 = tup (f 149) 2
  p14 : b 14 = true → f 13 = tup (f 149) 2
theorem R20.below {w0 wb : World} {Ar : Option Addr} {c : Nat} {start : Int} {rs : List S42} {inp : ByteArray} {D S : Int} {X : Res × St} {b3 bl q1 q2 : Nat} {b : Bits} {f : Slots} {w w' : World} (h : R20 w0 wb Ar c start rs inp D S X b3 bl q1 q2 b f w) (g : Below w.heap.size w w') : R20 w0 wb Ar c start rs inp D S X b3 bl q1 q2 b f w' :=
  { h with
    bel := h.bel.trans (g.mono h.bel.size)
    p1 := fun hb => (h.p1 hb).imp fun _ ⟨e, k⟩ => ⟨e, fun hr => Kd.C_below (k hr) g⟩
    p9 := fun hb => (h.p9 hb).imp fun _ ⟨c', e, k⟩ => ⟨c', e, k.more (Go.X.grown_of_below g none)⟩ }
set_option maxRecDepth 100000 in
theorem R20.wp (w0 wb : World) (Ar : Option Addr) (c : Nat) (start : Int) (rs : List S42) (inp : ByteArray) (D S : Int) (X : Res × St) (b3 bl q1 q2 : Nat) (hX : atAns rs start start inp 0 (D - 1) S = X)
    (hr : Kd.C k42 w0 Ar rs.length rs) (bw : Below w0.heap.size w0 wb) (mr : rs.length ≤ 1048576) (mb : ∀ x ∈ rs, x.f1.length ≤ 1048576) (hb : ∀ x ∈ rs, x.f1.length ≤ 140737488355328 ∧ x.f0.size ≤ 140737488355328)
    (x3 : Blk wb b3 24 [.slice Ar rs.length c, .int .i64 start]) (xl : Blk wb bl 32 [.int .i64 D, .int .i64 S]) (a : Act) (Q : Exit → Act → World → Prop) (hz : a.tmps.size = 173)
    (s3 : Slots.of a 3 = .pointer (some ⟨b3, 0, none⟩)) (s1 : Slots.of a 1 = .string inp) (sl : Slots.of a 9 = .pointer (some ⟨bl, 0, none⟩)) (hw : IntKind.i64.wrap (D - 1) = D - 1)
    (hQ : ∀ (f : Slots) (w' : World), f 13 = .int .i64 (ansSt X).err → Below wb.heap.size wb w' → Q .normal (Act.puts a f [140, 141, 142, 143, 144, 145, 146, 147, 148, 149, 139, 150, 151, 152, 13]) w') :
    (Code.region 20 #[{ dst := some 140, op := Go.Op.load 24 (Go.Operand.tmp 3), type := 24, pos := "theorems.go:79", after := #[], guard := none }, { dst := some 141, op := Go.Op.call { callee := Go.Callee.value (Go.Operand.func 9), args := #[Go.Operand.tmp 140], argTypes := #[24] }, type := 24, pos := "theorems.go:79", after := #[{ on := 0, ground := Go.Ground.data }], guard := none }, { dst := some 142, op := Go.Op.move (Go.Operand.tmp 1), type := 9, pos := "theorems.go:79", after := #[], guard := none }, { dst := some 143, op := Go.Op.fieldAddr 32 (Go.Operand.tmp 9) 0, type := 0, pos := "theorems.go:79", after := #[], guard := none }, { dst := some 144, op := Go.Op.load 3 (Go.Operand.tmp 143), type := 3, pos := "theorems.go:79", after := #[{ on := 3, ground := Go.Ground.data }], guard := none }, { dst := some 145, op := Go.Op.binOp Go.BinOp.sub 3 (Go.Operand.tmp 144) (Go.Operand.const (Go.Value.int Go.IntKind.i64 1)) 3, type := 3, pos := "theorems.go:79", after := #[{ on := 4, ground := Go.Ground.data }], guard := none }, { dst := some 146, op := Go.Op.fieldAddr 32 (Go.Operand.tmp 9) 1, type := 0, pos := "theorems.go:79", after := #[], guard := none }, { dst := some 147, op := Go.Op.load 3 (Go.Operand.tmp 146), type := 3, pos := "theorems.go:79", after := #[{ on := 6, ground := Go.Ground.data }], guard := none }, { dst := some 148, op := Go.Op.build 26 #[(0, Go.Operand.tmp 145), (1, Go.Operand.tmp 147)], type := 26, pos := "theorems.go:79", after := #[{ on := 5, ground := Go.Ground.data }, { on := 7, ground := Go.Ground.data }], guard := none }, { dst := some 149, op := Go.Op.call { callee := Go.Callee.value (Go.Operand.func 8), args := #[Go.Operand.tmp 141, Go.Operand.tmp 142, Go.Operand.tmp 148], argTypes := #[24, 9, 26] }, type := 34, pos := "theorems.go:79", after := #[{ on := 1, ground := Go.Ground.data }, { on := 2, ground := Go.Ground.data }, { on := 8, ground := Go.Ground.data }, { on := 1, ground := Go.Ground.chain }], guard := none }, { dst := some 139, op := Go.Op.move (Go.Operand.tmp 149), type := 34, pos := "theorems.go:79", after := #[{ on := 9, ground := Go.Ground.data }], guard := none }, { dst := some 150, op := Go.Op.extract (Go.Operand.tmp 139) 0, type := 31, pos := "theorems.go:79", after := #[{ on := 10, ground := Go.Ground.data }], guard := none }, { dst := some 151, op := Go.Op.extract (Go.Operand.tmp 139) 1, type := 32, pos := "theorems.go:79", after := #[{ on := 10, ground := Go.Ground.data }], guard := none }, { dst := some 152, op := Go.Op.extract (Go.Operand.tmp 139) 2, type := 33, pos := "theorems.go:79", after := #[{ on := 10, ground := Go.Ground.data }], guard := none }, { dst := some 13, op := Go.Op.assign (Go.Operand.tmp 152), type := 33, pos := "theorems.go:79", after := #[{ on := 13, ground := Go.Ground.data }, { on := 9, ground := Go.Ground.chain }, { on := 0, ground := Go.Ground.phase }, { on := 1, ground := Go.Ground.phase }, { on := 2, ground := Go.Ground.phase }, { on := 3, ground := Go.Ground.phase }, { on := 4, ground := Go.Ground.phase }, { on := 5, ground := Go.Ground.phase }, { on := 6, ground := Go.Ground.phase }, { on := 7, ground := Go.Ground.phase }, { on := 8, ground := Go.Ground.phase }, { on := 9, ground := Go.Ground.phase }, { on := 10, ground := Go.Ground.phase }, { on := 11, ground := Go.Ground.phase }, { on := 12, ground := Go.Ground.phase }, { on := 13, ground := Go.Ground.phase }], guard := none }] true).wp Tryd.prog Q a wb := by
  refine wp_region_slots (fun b f w => R20 w0 wb Ar c start rs inp D S X b3 bl q1 q2 b f w) 15 [0, 1, 2, 3, 4, 5, 6, 7, 8, 9, 10, 11, 12, 13, 14] [140, 141, 142, 143, 144, 145, 146, 147, 148, 149, 139, 150, 151, 152, 13] 173 (by kernel_rfl) rfl rfl rfl (by kernel_rfl) (by kernel_rfl) hz (by kernel_rfl) ?_ ?_ ?_
  · exact { bel := Below.drew (Below.refl _ _), g3 := s3, g1 := s1, gl := sl, p0 := nofun, p1 := nofun, p2 := nofun, p3 := nofun, p4 := nofun, p5 := nofun, p6 := nofun, p7 := nofun, p8 := nofun, p9 := nofun, p10 := nofun, p11 := nofun, p12 := nofun, p13 := nofun, p14 := nofun }
  · refine SSteps.cons (i := 0) (ds := []) (js := [1, 9, 10, 11, 12, 13, 14]) rfl (by kernel_rfl) (by kernel_rfl) (fun b f w hb0 hd hj h => ?_) ?_
    · exact Does.loadBlk (h.g3) (x3.below h.bel x3.lt) Tryd.underlying24 rfl (by kernel_rfl) { h with p0 := fun _ => rfl }
    refine SSteps.cons (i := 1) (ds := [0]) (js := [9, 10, 11, 12, 13, 14]) rfl (by kernel_rfl) (by kernel_rfl) (fun b f w hb0 hd hj h => ?_) ?_
    · have d0 : b 0 = true := hd 0 (by decide)
      have e0 := h.p0 d0
      refine Does.call (args := #[.agg #[.slice Ar rs.length c, .int .i64 start]]) (by simp [Slots.eval, e0]) rfl (by kernel_rfl) ?_
      refine (lendRun.calls Ar c start rs w (Kd.C_below hr (bw.trans (h.bel.mono bw.size))) mr mb).mono ?_
      rintro e w' ⟨br, rfl, hc, hbl⟩
      exact ⟨_, rfl, { (h.below hbl) with p1 := fun _ => ⟨br, rfl, fun _ => hc⟩ }⟩
    refine SSteps.cons (i := 2) (ds := []) (js := [9, 10, 11, 12, 13, 14]) rfl (by kernel_rfl) (by kernel_rfl) (fun b f w hb0 hd hj h => ?_) ?_
    · exact Does.move { h with p2 := fun _ => h.g1 }
    refine SSteps.cons (i := 3) (ds := []) (js := [4, 5, 8, 9, 10, 11, 12, 13, 14]) rfl (by kernel_rfl) (by kernel_rfl) (fun b f w hb0 hd hj h => ?_) ?_
    · exact Does.fieldAddr (v := .pointer (some ⟨bl, 0, none⟩)) (by rw [show f.eval (.tmp 9) = _ from h.gl]; go_simp) { h with p3 := fun _ => rfl }
    refine SSteps.cons (i := 4) (ds := [3]) (js := [5, 8, 9, 10, 11, 12, 13, 14]) rfl (by kernel_rfl) (by kernel_rfl) (fun b f w hb0 hd hj h => ?_) ?_
    · have d3 : b 3 = true := hd 3 (by decide)
      have e0 := h.p3 d3
      have hc : w.cell? ⟨bl, 0, none⟩ = some (.int .i64 D) := (xl.below h.bel xl.lt).cell 0
      exact Does.load (v := .int .i64 D) (by rw [show f.eval (.tmp 143) = _ from e0]; go_simp) { h with p4 := fun _ => rfl }
    refine SSteps.cons (i := 5) (ds := [4, 3]) (js := [8, 9, 10, 11, 12, 13, 14]) rfl (by kernel_rfl) (by kernel_rfl) (fun b f w hb0 hd hj h => ?_) ?_
    · have d4 : b 4 = true := hd 4 (by decide)
      have e0 := h.p4 d4
      exact Does.binOp (v := .int .i64 (D - 1)) (by rw [show f.eval (.tmp 144) = _ from e0]; rfl) (by rw [show f.eval (.tmp 144) = _ from e0]; exact sub1 hw) { h with p5 := fun _ => rfl }
    refine SSteps.cons (i := 6) (ds := []) (js := [7, 8, 9, 10, 11, 12, 13, 14]) rfl (by kernel_rfl) (by kernel_rfl) (fun b f w hb0 hd hj h => ?_) ?_
    · exact Does.fieldAddr (v := .pointer (some ⟨bl, 1, none⟩)) (by rw [show f.eval (.tmp 9) = _ from h.gl]; go_simp) { h with p6 := fun _ => rfl }
    refine SSteps.cons (i := 7) (ds := [6]) (js := [8, 9, 10, 11, 12, 13, 14]) rfl (by kernel_rfl) (by kernel_rfl) (fun b f w hb0 hd hj h => ?_) ?_
    · have d6 : b 6 = true := hd 6 (by decide)
      have e0 := h.p6 d6
      have hc : w.cell? ⟨bl, 1, none⟩ = some (.int .i64 S) := (xl.below h.bel xl.lt).cell 1
      exact Does.load (v := .int .i64 S) (by rw [show f.eval (.tmp 146) = _ from e0]; go_simp) { h with p7 := fun _ => rfl }
    refine SSteps.cons (i := 8) (ds := [5, 7, 4, 3, 6]) (js := [9, 10, 11, 12, 13, 14]) rfl (by kernel_rfl) (by kernel_rfl) (fun b f w hb0 hd hj h => ?_) ?_
    · have d5 : b 5 = true := hd 5 (by decide); have d7 : b 7 = true := hd 7 (by decide)
      have e0 := h.p5 d5
      have e1 := h.p7 d7
      exact Does.build (cells := #[.int .i64 (D - 1), .int .i64 S]) (by simp only [List.map_cons, List.map_nil]; rw [show f.eval (.tmp 145) = _ from e0, show f.eval (.tmp 147) = _ from e1]; kernel_rfl) { h with p8 := fun _ => rfl }
    refine SSteps.cons (i := 9) (ds := [1, 2, 8, 0, 5, 7, 4, 3, 6]) (js := [10, 11, 12, 13, 14]) rfl (by kernel_rfl) (by kernel_rfl) (fun b f w hb0 hd hj h => ?_) ?_
    · have d1 : b 1 = true := hd 1 (by decide); have d2 : b 2 = true := hd 2 (by decide); have d8 : b 8 = true := hd 8 (by decide)
      obtain ⟨br, e1, hc⟩ := h.p1 d1
      have e2 := h.p2 d2
      have e3 := h.p8 d8
      refine Does.call (args := #[.agg #[.slice (some ⟨br, 0, none⟩) rs.length (rs.length + 1), .int .i64 start], .string inp, .agg #[.int .i64 (D - 1), .int .i64 S]]) (by simp [Slots.eval, e1, e2, e3]) rfl (by kernel_rfl) ?_
      refine (mrun.calls (some ⟨br, 0, none⟩) (rs.length + 1) start rs inp (D - 1) S w (hc hb0) (by omega) hb).mono ?_
      rintro e w' hans
      rw [hX] at hans
      obtain ⟨A, c', rfl, hbl, hown⟩ := RunAns.any hans
      exact ⟨_, rfl, { (h.below hbl) with p1 := fun hx => ((h.below hbl).p1 hx).imp fun _ ⟨e, _⟩ => ⟨e, fun hr => by cases hr⟩, p9 := fun _ => ⟨A, c', rfl, hown.low h.bel.size⟩, p10 := (fun hx => no (hj 10 (by decide)) hx), p11 := (fun hx => no (hj 11 (by decide)) hx), p12 := (fun hx => no (hj 12 (by decide)) hx), p13 := (fun hx => no (hj 13 (by decide)) hx), p14 := (fun hx => no (hj 14 (by decide)) hx) }⟩
    refine SSteps.cons (i := 10) (ds := [9, 1, 2, 8, 0, 5, 7, 4, 3, 6]) (js := [11, 12, 13, 14]) rfl (by kernel_rfl) (by kernel_rfl) (fun b f w hb0 hd hj h => ?_) ?_
    · exact Does.move { h with p10 := fun _ => rfl }
    refine SSteps.cons (i := 11) (ds := [10, 9, 1, 2, 8, 0, 5, 7, 4, 3, 6]) (js := [14]) rfl (by kernel_rfl) (by kernel_rfl) (fun b f w hb0 hd hj h => ?_) ?_
    · have d9 : b 9 = true := hd 9 (by decide); have d10 : b 10 = true := hd 10 (by decide)
      obtain ⟨A, c', e1, _⟩ := h.p9 d9
      have e2 := (h.p10 d10).trans e1
      refine Does.ext e2 (by simp) ?_
      exact { h with p11 := fun _ => (congrArg (fun v => tup v 0) e1).symm }
    refine SSteps.cons (i := 12) (ds := [10, 9, 1, 2, 8, 0, 5, 7, 4, 3, 6]) (js := [14]) rfl (by kernel_rfl) (by kernel_rfl) (fun b f w hb0 hd hj h => ?_) ?_
    · have d9 : b 9 = true := hd 9 (by decide); have d10 : b 10 = true := hd 10 (by decide)
      obtain ⟨A, c', e1, _⟩ := h.p9 d9
      have e2 := (h.p10 d10).trans e1
      refine Does.ext e2 (by simp) ?_
      exact { h with p12 := fun _ => (congrArg (fun v => tup v 1) e1).symm }
    refine SSteps.cons (i := 13) (ds := [10, 9, 1, 2, 8, 0, 5, 7, 4, 3, 6]) (js := [14]) rfl (by kernel_rfl) (by kernel_rfl) (fun b f w hb0 hd hj h => ?_) ?_
    · have d9 : b 9 = true := hd 9 (by decide); have d10 : b 10 = true := hd 10 (by decide)
      obtain ⟨A, c', e1, _⟩ := h.p9 d9
      have e2 := (h.p10 d10).trans e1
      refine Does.ext e2 (by simp) ?_
      exact { h with p13 := fun _ => (congrArg (fun v => tup v 2) e1).symm, p14 := (fun hx => no (hj 14 (by decide)) hx) }
    refine SSteps.cons (i := 14) (ds := [13, 9, 0, 1, 2, 3, 4, 5, 6, 7, 8, 10, 11, 12]) (js := []) rfl (by kernel_rfl) (by kernel_rfl) (fun b f w hb0 hd hj h => ?_) ?_
    · have d13 : b 13 = true := hd 13 (by decide)
      exact Does.assign { h with p14 := fun _ => h.p13 d13 }
    exact SSteps.nil
  · intro b f w' hall h _
    obtain ⟨A, c', e1, hown⟩ := h.p9 (hall 9 (by decide))
    have e4 := h.p14 (hall 14 (by decide))
    rw [e1] at e4
    exact hQ f w' (by rw [e4]; rfl) h.bel
end Go.Proofs.YtmpkkphohilkoaaDoor.B
/- A region of the law MatchLimits, by its invariant (printed by wip/gen/genreg6.py). -/
namespace Go.Proofs.YtmpkkphohilkoaaDoor.B
open Go Go.RowKit Go.X Go.Ma Go.Proofs.YtmpkkphohilkoaaDoorW.PrintWords Go.Proofs.YtmpkkphohilkoaaDoor.F
structure R21 (w0 wb : World) (Ar : Option Addr) (c : Nat) (start : Int) (rs : List S42) (inp : ByteArray) (D S : Int) (X : Res × St) (b3 bl q1 q2 : Nat) (b : Bits) (f : Slots) (w : World) : Prop where
  bel : Below wb.heap.size wb w
  g3 : f 3 = .pointer (some ⟨b3, 0, none⟩)
  g1 : f 1 = .string inp
  gl : f 9 = .pointer (some ⟨bl, 0, none⟩)
  p0 : b 0 = true → f 154 = .agg #[.slice Ar rs.length c, .int .i64 start]
  p1 : b 1 = true → ∃ br, f 155 = .agg #[.slice (some ⟨br, 0, none⟩) rs.length (rs.length + 1), .int .i64 start] ∧ (b 9 = false → Kd.C k42 w (some ⟨br, 0, none⟩) rs.length rs)
  p2 : b 2 = true → f 156 = .string inp
  p3 : b 3 = true → f 157 = .pointer (some ⟨bl, 0, none⟩)
  p4 : b 4 = true → f 158 = .int .i64 D
  p5 : b 5 = true → f 159 = .pointer (some ⟨bl, 1, none⟩)
  p6 : b 6 = true → f 160 = .int .i64 S
  p7 : b 7 = true → f 161 = .int .i64 (S - 1)
  p8 : b 8 = true → f 162 = .agg #[.int .i64 D, .int .i64 (S - 1)]
  p9 : b 9 = true → ∃ A c', f 163 = ansV X A c' ∧ OwnF w wb.heap.size (.slice A (ansRes X).forest.length c') (ansRes X).forest
  p10 : b 10 = true → f 153 = f 163
  p11 : b 11 = true → f 164 = tup (f 163) 0
  p12 : b 12 = true → f 165 = tup (f 163) 1
  p13 : b 13 = true → f 166 = tup (f 163) 2
  p14 : b 14 = true → ∃ q cs, f 15 = .pointer (some ⟨q, 0, none⟩) ∧ wb.heap.size ≤ q ∧ Blk w q 31 cs ∧ cs.length = 4 ∧ (b 16 = true → .agg cs.toArray = tup (f 163) 0)
  p15 : b 15 = true → ∃ q cs, f 16 = .pointer (some ⟨q, 0, none⟩) ∧ wb.heap.size ≤ q ∧ Blk w q 32 cs ∧ cs.length = 2 ∧ (b 17 = true → .agg cs.toArray = tup (f 163) 1)
  p18 : b 18 = true → f 17 = tup (f 163) 2
theorem R21.below {w0 wb : World} {Ar : Option Addr} {c : Nat} {start : Int} {rs : List S42} {inp : ByteArray} {D S : Int} {X : Res × St} {b3 bl q1 q2 : Nat} {b : Bits} {f : Slots} {w w' : World} (h : R21 w0 wb Ar c start rs inp D S X b3 bl q1 q2 b f w) (g : Below w.heap.size w w') : R21 w0 wb Ar c start rs inp D S X b3 bl q1 q2 b f w' :=
  { h with
    bel := h.bel.trans (g.mono h.bel.size)
    p1 := fun hb => (h.p1 hb).imp fun _ ⟨e, k⟩ => ⟨e, fun hr => Kd.C_below (k hr) g⟩
    p9 := fun hb => (h.p9 hb).imp fun _ ⟨c', e, k⟩ => ⟨c', e, k.more (Go.X.grown_of_below g none)⟩
    p14 := fun hb => (h.p14 hb).imp fun _ ⟨cs, e, e1, k, e2⟩ => ⟨cs, e, e1, k.below g k.lt, e2⟩
    p15 := fun hb => (h.p15 hb).imp fun _ ⟨cs, e, e1, k, e2⟩ => ⟨cs, e, e1, k.below g k.lt, e2⟩ }
theorem R21.st31 {w0 wb : World} {Ar : Option Addr} {c : Nat} {start : Int} {rs : List S42} {inp : ByteArray} {D S : Int} {X : Res × St} {b3 bl q1 q2 : Nat} {b : Bits} {f : Slots} {w w' : World} {q : Nat} {cs : List Value} (h : R21 w0 wb Ar c start rs inp D S X b3 bl q1 q2 b f w) (hrun : b 9 = true) (hq : f 15 = .pointer (some ⟨q, 0, none⟩)) (hbq : Blk w q 31 cs) (hle : wb.heap.size ≤ q) {cs' : List Value} (hl : cs'.length = 4) (hv : .agg cs'.toArray = tup (f 163) 0) (hb' : Blk w' q 31 cs') (g : w.grownBy w' (some q)) : R21 w0 wb Ar c start rs inp D S X b3 bl q1 q2 (b.put 16) f w' :=
  { h with
    bel := Go.X.below_grown h.bel g (fun k e => by cases e; exact hle) (Nat.le_refl _)
    p1 := fun hb => (h.p1 hb).imp fun _ ⟨e, _⟩ => ⟨e, fun hr => no hr hrun⟩
    p9 := fun hb => (h.p9 hb).imp fun _ ⟨c', e, k⟩ => ⟨c', e, k.kept g hbq (by decide)⟩
    p14 := fun _ => ⟨q, cs', hq, hle, hb', hl, fun _ => hv⟩
    p15 := fun hb => (h.p15 hb).imp fun _ ⟨cs2, e, e1, k, e2⟩ => ⟨cs2, e, e1, k.grown g (by intro e'; injection e' with e'; exact k.ne hbq (by decide) e'), e2⟩ }
theorem R21.st32 {w0 wb : World} {Ar : Option Addr} {c : Nat} {start : Int} {rs : List S42} {inp : ByteArray} {D S : Int} {X : Res × St} {b3 bl q1 q2 : Nat} {b : Bits} {f : Slots} {w w' : World} {q : Nat} {cs : List Value} (h : R21 w0 wb Ar c start rs inp D S X b3 bl q1 q2 b f w) (hrun : b 9 = true) (hq : f 16 = .pointer (some ⟨q, 0, none⟩)) (hbq : Blk w q 32 cs) (hle : wb.heap.size ≤ q) {cs' : List Value} (hl : cs'.length = 2) (hv : .agg cs'.toArray = tup (f 163) 1) (hb' : Blk w' q 32 cs') (g : w.grownBy w' (some q)) : R21 w0 wb Ar c start rs inp D S X b3 bl q1 q2 (b.put 17) f w' :=
  { h with
    bel := Go.X.below_grown h.bel g (fun k e => by cases e; exact hle) (Nat.le_refl _)
    p1 := fun hb => (h.p1 hb).imp fun _ ⟨e, _⟩ => ⟨e, fun hr => no hr hrun⟩
    p9 := fun hb => (h.p9 hb).imp fun _ ⟨c', e, k⟩ => ⟨c', e, k.kept g hbq (by decide)⟩
    p15 := fun _ => ⟨q, cs', hq, hle, hb', hl, fun _ => hv⟩
    p14 := fun hb => (h.p14 hb).imp fun _ ⟨cs2, e, e1, k, e2⟩ => ⟨cs2, e, e1, k.grown g (by intro e'; injection e' with e'; exact k.ne hbq (by decide) e'), e2⟩ }
set_option maxRecDepth 100000 in
theorem R21.wp (w0 wb : World) (Ar : Option Addr) (c : Nat) (start : Int) (rs : List S42) (inp : ByteArray) (D S : Int) (X : Res × St) (b3 bl q1 q2 : Nat) (hX : atAns rs start start inp 0 D (S - 1) = X)
    (hr : Kd.C k42 w0 Ar rs.length rs) (bw : Below w0.heap.size w0 wb) (mr : rs.length ≤ 1048576) (mb : ∀ x ∈ rs, x.f1.length ≤ 1048576) (hb : ∀ x ∈ rs, x.f1.length ≤ 140737488355328 ∧ x.f0.size ≤ 140737488355328)
    (x3 : Blk wb b3 24 [.slice Ar rs.length c, .int .i64 start]) (xl : Blk wb bl 32 [.int .i64 D, .int .i64 S]) (a : Act) (Q : Exit → Act → World → Prop) (hz : a.tmps.size = 173)
    (s3 : Slots.of a 3 = .pointer (some ⟨b3, 0, none⟩)) (s1 : Slots.of a 1 = .string inp) (sl : Slots.of a 9 = .pointer (some ⟨bl, 0, none⟩)) (hw : IntKind.i64.wrap (S - 1) = S - 1)
    (hQ : ∀ (f : Slots) (w' : World) (q1 q2 : Nat) (A : Option Addr) (c' : Nat), f 15 = .pointer (some ⟨q1, 0, none⟩) → f 16 = .pointer (some ⟨q2, 0, none⟩) → f 17 = .int .i64 (ansSt X).err → wb.heap.size ≤ q1 → wb.heap.size ≤ q2 → Below wb.heap.size wb w' → Blk w' q1 31 (oC X (.slice A (ansRes X).forest.length c')) → Blk w' q2 32 (uC X) → OwnF w' wb.heap.size (.slice A (ansRes X).forest.length c') (ansRes X).forest → Q .normal (Act.puts a f [154, 155, 156, 157, 158, 159, 160, 161, 162, 163, 153, 164, 165, 166, 15, 16, 17]) w') :
    (Code.region 21 #[{ dst := some 154, op := Go.Op.load 24 (Go.Operand.tmp 3), type := 24, pos := "theorems.go:80", after := #[], guard := none }, { dst := some 155, op := Go.Op.call { callee := Go.Callee.value (Go.Operand.func 9), args := #[Go.Operand.tmp 154], argTypes := #[24] }, type := 24, pos := "theorems.go:80", after := #[{ on := 0, ground := Go.Ground.data }], guard := none }, { dst := some 156, op := Go.Op.move (Go.Operand.tmp 1), type := 9, pos := "theorems.go:80", after := #[], guard := none }, { dst := some 157, op := Go.Op.fieldAddr 32 (Go.Operand.tmp 9) 0, type := 0, pos := "theorems.go:80", after := #[], guard := none }, { dst := some 158, op := Go.Op.load 3 (Go.Operand.tmp 157), type := 3, pos := "theorems.go:80", after := #[{ on := 3, ground := Go.Ground.data }], guard := none }, { dst := some 159, op := Go.Op.fieldAddr 32 (Go.Operand.tmp 9) 1, type := 0, pos := "theorems.go:80", after := #[], guard := none }, { dst := some 160, op := Go.Op.load 3 (Go.Operand.tmp 159), type := 3, pos := "theorems.go:80", after := #[{ on := 5, ground := Go.Ground.data }], guard := none }, { dst := some 161, op := Go.Op.binOp Go.BinOp.sub 3 (Go.Operand.tmp 160) (Go.Operand.const (Go.Value.int Go.IntKind.i64 1)) 3, type := 3, pos := "theorems.go:80", after := #[{ on := 6, ground := Go.Ground.data }], guard := none }, { dst := some 162, op := Go.Op.build 26 #[(0, Go.Operand.tmp 158), (1, Go.Operand.tmp 161)], type := 26, pos := "theorems.go:80", after := #[{ on := 4, ground := Go.Ground.data }, { on := 7, ground := Go.Ground.data }], guard := none }, { dst := some 163, op := Go.Op.call { callee := Go.Callee.value (Go.Operand.func 8), args := #[Go.Operand.tmp 155, Go.Operand.tmp 156, Go.Operand.tmp 162], argTypes := #[24, 9, 26] }, type := 34, pos := "theorems.go:80", after := #[{ on := 1, ground := Go.Ground.data }, { on := 2, ground := Go.Ground.data }, { on := 8, ground := Go.Ground.data }, { on := 1, ground := Go.Ground.chain }], guard := none }, { dst := some 153, op := Go.Op.move (Go.Operand.tmp 163), type := 34, pos := "theorems.go:80", after := #[{ on := 9, ground := Go.Ground.data }], guard := none }, { dst := some 164, op := Go.Op.extract (Go.Operand.tmp 153) 0, type := 31, pos := "theorems.go:80", after := #[{ on := 10, ground := Go.Ground.data }], guard := none }, { dst := some 165, op := Go.Op.extract (Go.Operand.tmp 153) 1, type := 32, pos := "theorems.go:80", after := #[{ on := 10, ground := Go.Ground.data }, { on := 16, ground := Go.Ground.gcOnly Go.Departure.lateStores }], guard := none }, { dst := some 166, op := Go.Op.extract (Go.Operand.tmp 153) 2, type := 33, pos := "theorems.go:80", after := #[{ on := 10, ground := Go.Ground.data }, { on := 17, ground := Go.Ground.gcOnly Go.Departure.lateStores }], guard := none }, { dst := some 15, op := Go.Op.alloc 31, type := 0, pos := "theorems.go:80", after := #[], guard := none }, { dst := some 16, op := Go.Op.alloc 32, type := 0, pos := "theorems.go:80", after := #[], guard := none }, { dst := none, op := Go.Op.store 31 (Go.Operand.tmp 15) (Go.Operand.tmp 164), type := 0, pos := "theorems.go:80", after := #[{ on := 14, ground := Go.Ground.data }, { on := 11, ground := Go.Ground.data }, { on := 9, ground := Go.Ground.chain }, { on := 0, ground := Go.Ground.phase }, { on := 1, ground := Go.Ground.phase }, { on := 2, ground := Go.Ground.phase }, { on := 3, ground := Go.Ground.phase }, { on := 4, ground := Go.Ground.phase }, { on := 5, ground := Go.Ground.phase }, { on := 6, ground := Go.Ground.phase }, { on := 7, ground := Go.Ground.phase }, { on := 8, ground := Go.Ground.phase }, { on := 9, ground := Go.Ground.phase }, { on := 10, ground := Go.Ground.phase }, { on := 11, ground := Go.Ground.phase }, { on := 12, ground := Go.Ground.textOnly Go.Departure.lateStores }, { on := 13, ground := Go.Ground.textOnly Go.Departure.lateStores }, { on := 14, ground := Go.Ground.phase }, { on := 15, ground := Go.Ground.phase }], guard := none }, { dst := none, op := Go.Op.store 32 (Go.Operand.tmp 16) (Go.Operand.tmp 165), type := 0, pos := "theorems.go:80", after := #[{ on := 15, ground := Go.Ground.data }, { on := 12, ground := Go.Ground.data }, { on := 16, ground := Go.Ground.chain }, { on := 0, ground := Go.Ground.phase }, { on := 1, ground := Go.Ground.phase }, { on := 2, ground := Go.Ground.phase }, { on := 3, ground := Go.Ground.phase }, { on := 4, ground := Go.Ground.phase }, { on := 5, ground := Go.Ground.phase }, { on := 6, ground := Go.Ground.phase }, { on := 7, ground := Go.Ground.phase }, { on := 8, ground := Go.Ground.phase }, { on := 9, ground := Go.Ground.phase }, { on := 10, ground := Go.Ground.phase }, { on := 11, ground := Go.Ground.phase }, { on := 12, ground := Go.Ground.phase }, { on := 13, ground := Go.Ground.textOnly Go.Departure.lateStores }, { on := 14, ground := Go.Ground.phase }, { on := 15, ground := Go.Ground.phase }, { on := 16, ground := Go.Ground.phase }], guard := none }, { dst := some 17, op := Go.Op.assign (Go.Operand.tmp 166), type := 33, pos := "theorems.go:80", after := #[{ on := 13, ground := Go.Ground.data }, { on := 17, ground := Go.Ground.chain }, { on := 0, ground := Go.Ground.phase }, { on := 1, ground := Go.Ground.phase }, { on := 2, ground := Go.Ground.phase }, { on := 3, ground := Go.Ground.phase }, { on := 4, ground := Go.Ground.phase }, { on := 5, ground := Go.Ground.phase }, { on := 6, ground := Go.Ground.phase }, { on := 7, ground := Go.Ground.phase }, { on := 8, ground := Go.Ground.phase }, { on := 9, ground := Go.Ground.phase }, { on := 10, ground := Go.Ground.phase }, { on := 11, ground := Go.Ground.phase }, { on := 12, ground := Go.Ground.phase }, { on := 13, ground := Go.Ground.phase }, { on := 14, ground := Go.Ground.phase }, { on := 15, ground := Go.Ground.phase }, { on := 16, ground := Go.Ground.phase }, { on := 17, ground := Go.Ground.phase }], guard := none }] true).wp Tryd.prog Q a wb := by
  refine wp_region_slots (fun b f w => R21 w0 wb Ar c start rs inp D S X b3 bl q1 q2 b f w) 19 [0, 1, 2, 3, 4, 5, 6, 7, 8, 9, 10, 11, 12, 13, 14, 15, 16, 17, 18] [154, 155, 156, 157, 158, 159, 160, 161, 162, 163, 153, 164, 165, 166, 15, 16, 17] 173 (by kernel_rfl) rfl rfl rfl (by kernel_rfl) (by kernel_rfl) hz (by kernel_rfl) ?_ ?_ ?_
  · exact { bel := Below.drew (Below.refl _ _), g3 := s3, g1 := s1, gl := sl, p0 := nofun, p1 := nofun, p2 := nofun, p3 := nofun, p4 := nofun, p5 := nofun, p6 := nofun, p7 := nofun, p8 := nofun, p9 := nofun, p10 := nofun, p11 := nofun, p12 := nofun, p13 := nofun, p14 := nofun, p15 := nofun, p18 := nofun }
  · refine SSteps.cons (i := 0) (ds := []) (js := [1, 9, 10, 11, 12, 13, 16, 17, 18]) rfl (by kernel_rfl) (by kernel_rfl) (fun b f w hb0 hd hj h => ?_) ?_
    · exact Does.loadBlk (h.g3) (x3.below h.bel x3.lt) Tryd.underlying24 rfl (by kernel_rfl) { h with p0 := fun _ => rfl }
    refine SSteps.cons (i := 1) (ds := [0]) (js := [9, 10, 11, 12, 13, 16, 17, 18]) rfl (by kernel_rfl) (by kernel_rfl) (fun b f w hb0 hd hj h => ?_) ?_
    · have d0 : b 0 = true := hd 0 (by decide)
      have e0 := h.p0 d0
      refine Does.call (args := #[.agg #[.slice Ar rs.length c, .int .i64 start]]) (by simp [Slots.eval, e0]) rfl (by kernel_rfl) ?_
      refine (lendRun.calls Ar c start rs w (Kd.C_below hr (bw.trans (h.bel.mono bw.size))) mr mb).mono ?_
      rintro e w' ⟨br, rfl, hc, hbl⟩
      exact ⟨_, rfl, { (h.below hbl) with p1 := fun _ => ⟨br, rfl, fun _ => hc⟩ }⟩
    refine SSteps.cons (i := 2) (ds := []) (js := [9, 10, 11, 12, 13, 16, 17, 18]) rfl (by kernel_rfl) (by kernel_rfl) (fun b f w hb0 hd hj h => ?_) ?_
    · exact Does.move { h with p2 := fun _ => h.g1 }
    refine SSteps.cons (i := 3) (ds := []) (js := [4, 8, 9, 10, 11, 12, 13, 16, 17, 18]) rfl (by kernel_rfl) (by kernel_rfl) (fun b f w hb0 hd hj h => ?_) ?_
    · exact Does.fieldAddr (v := .pointer (some ⟨bl, 0, none⟩)) (by rw [show f.eval (.tmp 9) = _ from h.gl]; go_simp) { h with p3 := fun _ => rfl }
    refine SSteps.cons (i := 4) (ds := [3]) (js := [8, 9, 10, 11, 12, 13, 16, 17, 18]) rfl (by kernel_rfl) (by kernel_rfl) (fun b f w hb0 hd hj h => ?_) ?_
    · have d3 : b 3 = true := hd 3 (by decide)
      have e0 := h.p3 d3
      have hc : w.cell? ⟨bl, 0, none⟩ = some (.int .i64 D) := (xl.below h.bel xl.lt).cell 0
      exact Does.load (v := .int .i64 D) (by rw [show f.eval (.tmp 157) = _ from e0]; go_simp) { h with p4 := fun _ => rfl }
    refine SSteps.cons (i := 5) (ds := []) (js := [6, 7, 8, 9, 10, 11, 12, 13, 16, 17, 18]) rfl (by kernel_rfl) (by kernel_rfl) (fun b f w hb0 hd hj h => ?_) ?_
    · exact Does.fieldAddr (v := .pointer (some ⟨bl, 1, none⟩)) (by rw [show f.eval (.tmp 9) = _ from h.gl]; go_simp) { h with p5 := fun _ => rfl }
    refine SSteps.cons (i := 6) (ds := [5]) (js := [7, 8, 9, 10, 11, 12, 13, 16, 17, 18]) rfl (by kernel_rfl) (by kernel_rfl) (fun b f w hb0 hd hj h => ?_) ?_
    · have d5 : b 5 = true := hd 5 (by decide)
      have e0 := h.p5 d5
      have hc : w.cell? ⟨bl, 1, none⟩ = some (.int .i64 S) := (xl.below h.bel xl.lt).cell 1
      exact Does.load (v := .int .i64 S) (by rw [show f.eval (.tmp 159) = _ from e0]; go_simp) { h with p6 := fun _ => rfl }
    refine SSteps.cons (i := 7) (ds := [6, 5]) (js := [8, 9, 10, 11, 12, 13, 16, 17, 18]) rfl (by kernel_rfl) (by kernel_rfl) (fun b f w hb0 hd hj h => ?_) ?_
    · have d6 : b 6 = true := hd 6 (by decide)
      have e0 := h.p6 d6
      exact Does.binOp (v := .int .i64 (S - 1)) (by rw [show f.eval (.tmp 160) = _ from e0]; rfl) (by rw [show f.eval (.tmp 160) = _ from e0]; exact sub1 hw) { h with p7 := fun _ => rfl }
    refine SSteps.cons (i := 8) (ds := [4, 7, 3, 6, 5]) (js := [9, 10, 11, 12, 13, 16, 17, 18]) rfl (by kernel_rfl) (by kernel_rfl) (fun b f w hb0 hd hj h => ?_) ?_
    · have d4 : b 4 = true := hd 4 (by decide); have d7 : b 7 = true := hd 7 (by decide)
      have e0 := h.p4 d4
      have e1 := h.p7 d7
      exact Does.build (cells := #[.int .i64 D, .int .i64 (S - 1)]) (by simp only [List.map_cons, List.map_nil]; rw [show f.eval (.tmp 158) = _ from e0, show f.eval (.tmp 161) = _ from e1]; kernel_rfl) { h with p8 := fun _ => rfl }
    refine SSteps.cons (i := 9) (ds := [1, 2, 8, 0, 4, 7, 3, 6, 5]) (js := [10, 11, 12, 13, 16, 17, 18]) rfl (by kernel_rfl) (by kernel_rfl) (fun b f w hb0 hd hj h => ?_) ?_
    · have d1 : b 1 = true := hd 1 (by decide); have d2 : b 2 = true := hd 2 (by decide); have d8 : b 8 = true := hd 8 (by decide)
      obtain ⟨br, e1, hc⟩ := h.p1 d1
      have e2 := h.p2 d2
      have e3 := h.p8 d8
      refine Does.call (args := #[.agg #[.slice (some ⟨br, 0, none⟩) rs.length (rs.length + 1), .int .i64 start], .string inp, .agg #[.int .i64 D, .int .i64 (S - 1)]]) (by simp [Slots.eval, e1, e2, e3]) rfl (by kernel_rfl) ?_
      refine (mrun.calls (some ⟨br, 0, none⟩) (rs.length + 1) start rs inp D (S - 1) w (hc hb0) (by omega) hb).mono ?_
      rintro e w' hans
      rw [hX] at hans
      obtain ⟨A, c', rfl, hbl, hown⟩ := RunAns.any hans
      exact ⟨_, rfl, { (h.below hbl) with p1 := fun hx => ((h.below hbl).p1 hx).imp fun _ ⟨e, _⟩ => ⟨e, fun hr => by cases hr⟩, p9 := fun _ => ⟨A, c', rfl, hown.low h.bel.size⟩, p10 := (fun hx => no (hj 10 (by decide)) hx), p11 := (fun hx => no (hj 11 (by decide)) hx), p12 := (fun hx => no (hj 12 (by decide)) hx), p13 := (fun hx => no (hj 13 (by decide)) hx), p18 := (fun hx => no (hj 18 (by decide)) hx), p14 := fun hx => ((h.below hbl).p14 hx).imp fun _ ⟨cs, k1, k2, k3, k4, _⟩ => ⟨cs, k1, k2, k3, k4, (fun hx => no (hj 16 (by decide)) hx)⟩, p15 := fun hx => ((h.below hbl).p15 hx).imp fun _ ⟨cs, k1, k2, k3, k4, _⟩ => ⟨cs, k1, k2, k3, k4, (fun hx => no (hj 17 (by decide)) hx)⟩ }⟩
    refine SSteps.cons (i := 10) (ds := [9, 1, 2, 8, 0, 4, 7, 3, 6, 5]) (js := [11, 12, 13, 16, 17, 18]) rfl (by kernel_rfl) (by kernel_rfl) (fun b f w hb0 hd hj h => ?_) ?_
    · exact Does.move { h with p10 := fun _ => rfl }
    refine SSteps.cons (i := 11) (ds := [10, 9, 1, 2, 8, 0, 4, 7, 3, 6, 5]) (js := [16, 17, 18]) rfl (by kernel_rfl) (by kernel_rfl) (fun b f w hb0 hd hj h => ?_) ?_
    · have d9 : b 9 = true := hd 9 (by decide); have d10 : b 10 = true := hd 10 (by decide)
      obtain ⟨A, c', e1, _⟩ := h.p9 d9
      have e2 := (h.p10 d10).trans e1
      refine Does.ext e2 (by simp) ?_
      exact { h with p11 := fun _ => (congrArg (fun v => tup v 0) e1).symm }
    refine SSteps.cons (i := 12) (ds := [10, 9, 1, 2, 8, 0, 4, 7, 3, 6, 5]) (js := [17, 18]) rfl (by kernel_rfl) (by kernel_rfl) (fun b f w hb0 hd hj h => ?_) ?_
    · have d9 : b 9 = true := hd 9 (by decide); have d10 : b 10 = true := hd 10 (by decide)
      obtain ⟨A, c', e1, _⟩ := h.p9 d9
      have e2 := (h.p10 d10).trans e1
      refine Does.ext e2 (by simp) ?_
      exact { h with p12 := fun _ => (congrArg (fun v => tup v 1) e1).symm }
    refine SSteps.cons (i := 13) (ds := [10, 9, 1, 2, 8, 0, 4, 7, 3, 6, 5]) (js := [18]) rfl (by kernel_rfl) (by kernel_rfl) (fun b f w hb0 hd hj h => ?_) ?_
    · have d9 : b 9 = true := hd 9 (by decide); have d10 : b 10 = true := hd 10 (by decide)
      obtain ⟨A, c', e1, _⟩ := h.p9 d9
      have e2 := (h.p10 d10).trans e1
      refine Does.ext e2 (by simp) ?_
      exact { h with p13 := fun _ => (congrArg (fun v => tup v 2) e1).symm, p18 := (fun hx => no (hj 18 (by decide)) hx) }
    refine SSteps.cons (i := 14) (ds := []) (js := [16, 17, 18]) rfl (by kernel_rfl) (by kernel_rfl) (fun b f w hb0 hd hj h => ?_) ?_
    · refine Does.alloc (P := Tryd.prog) zero31 ?_
      intro w' hb' hbl
      exact { (h.below hbl) with p14 := fun _ => ⟨w.heap.size, _, rfl, h.bel.size, hb', rfl, (fun hx => no (hj 16 (by decide)) hx)⟩ }
    refine SSteps.cons (i := 15) (ds := []) (js := [16, 17, 18]) rfl (by kernel_rfl) (by kernel_rfl) (fun b f w hb0 hd hj h => ?_) ?_
    · refine Does.alloc (P := Tryd.prog) zero32 ?_
      intro w' hb' hbl
      exact { (h.below hbl) with p15 := fun _ => ⟨w.heap.size, _, rfl, h.bel.size, hb', rfl, (fun hx => no (hj 17 (by decide)) hx)⟩ }
    refine SSteps.cons (i := 16) (ds := [14, 11, 9, 0, 1, 2, 3, 4, 5, 6, 7, 8, 10, 15]) (js := [17, 18]) rfl (by kernel_rfl) (by kernel_rfl) (fun b f w hb0 hd hj h => ?_) ?_
    · have d9 : b 9 = true := hd 9 (by decide); have d14 : b 14 = true := hd 14 (by decide); have d11 : b 11 = true := hd 11 (by decide)
      obtain ⟨A, c', e1, _⟩ := h.p9 d9
      obtain ⟨q, cs, e2, hle, hbq, hcl, _⟩ := h.p14 d14
      have e3 := h.p11 d11
      rw [e1] at e3
      refine Does.store e2 e3 hbq (by kernel_rfl) (by rw [hcl]; exact Nat.le_refl _) (by simp [tup, Value.cells, Value.oneCell']) ?_
      intro w' hb' g
      rw [splice_all _ _ (by rw [hcl]; rfl)] at hb'
      exact h.st31 d9 e2 hbq hle rfl (by rw [e1]; rfl) hb' g
    refine SSteps.cons (i := 17) (ds := [15, 12, 16, 0, 1, 2, 3, 4, 5, 6, 7, 8, 9, 10, 11, 14]) (js := [18]) rfl (by kernel_rfl) (by kernel_rfl) (fun b f w hb0 hd hj h => ?_) ?_
    · have d9 : b 9 = true := hd 9 (by decide); have d15 : b 15 = true := hd 15 (by decide); have d12 : b 12 = true := hd 12 (by decide)
      obtain ⟨A, c', e1, _⟩ := h.p9 d9
      obtain ⟨q, cs, e2, hle, hbq, hcl, _⟩ := h.p15 d15
      have e3 := h.p12 d12
      rw [e1] at e3
      refine Does.store e2 e3 hbq (by kernel_rfl) (by rw [hcl]; exact Nat.le_refl _) (by simp [tup, Value.cells, Value.oneCell']) ?_
      intro w' hb' g
      rw [splice_all _ _ (by rw [hcl]; rfl)] at hb'
      exact h.st32 d9 e2 hbq hle rfl (by rw [e1]; rfl) hb' g
    refine SSteps.cons (i := 18) (ds := [13, 17, 0, 1, 2, 3, 4, 5, 6, 7, 8, 9, 10, 11, 12, 14, 15, 16]) (js := []) rfl (by kernel_rfl) (by kernel_rfl) (fun b f w hb0 hd hj h => ?_) ?_
    · have d13 : b 13 = true := hd 13 (by decide)
      exact Does.assign { h with p18 := fun _ => h.p13 d13 }
    exact SSteps.nil
  · intro b f w' hall h _
    obtain ⟨A, c', e1, hown⟩ := h.p9 (hall 9 (by decide))
    have e4 := h.p18 (hall 18 (by decide))
    obtain ⟨q1, cs1, k1, l1, y1, m1, n1⟩ := h.p14 (hall 14 (by decide))
    obtain ⟨q2, cs2, k2, l2, y2, m2, n2⟩ := h.p15 (hall 15 (by decide))
    have e2 := n1 (hall 16 (by decide))
    have e3 := n2 (hall 17 (by decide))
    rw [e1] at e2 e3 e4
    have t1 : cs1 = oC X (.slice A (ansRes X).forest.length c') := by have := congrArg (fun v => match v with | Value.agg a => a.toList | _ => []) e2; simpa [tup] using this
    have t2 : cs2 = uC X := by have := congrArg (fun v => match v with | Value.agg a => a.toList | _ => []) e3; simpa [tup] using this
    exact hQ f w' q1 q2 A c' k1 k2 (by rw [e4]; rfl) l1 l2 h.bel (t1 ▸ y1) (t2 ▸ y2) hown
end Go.Proofs.YtmpkkphohilkoaaDoor.B
