/- Texts joined and shortened (wip/tools/shrink.py): DWReg, DNestReg, DNested, DFCheck, DWReg12, DWithLaw. -/
import Derived.Test.YtmpkkphohilkoaaDoorQw10
import Derived.Test.YtmpkkphohilkoaaDoorQw6
import Derived.WalkSmall
import Derived.Laws.OwnMore
import Derived.Deep.LoopGhost
import Derived.Deep.QuietTactic
import Derived.BigQuiet
import Derived.Outline
import Derived.Deep.DeepCutAuto
import Derived.Deep.CutBlock
import Derived.Test.YtmpkkphohilkoaaDoorQw9
/- Regions of the law MatchWithin, by their invariants (printed by wip/gen/genwithin.py). -/
namespace Go.Proofs.YtmpkkphohilkoaaDoor.B
open Go Go.RowKit Go.X Go.Ma Go.Proofs.YtmpkkphohilkoaaDoorW.PrintWords Go.Proofs.YtmpkkphohilkoaaDoor.F
structure W6 (wb : World) (Ar : Option Addr) (c : Nat) (start : Int) (rs : List S42) (rule : Int) (inp : ByteArray) (bl : Nat) (X : Res × St) (b3 : Nat) (b : Bits) (f : Slots) (w : World) : Prop where
  bel : Below wb.heap.size wb w
  g4 : f 4 = .pointer (some ⟨b3, 0, none⟩)
  g1 : f 1 = .int .i64 rule
  g2 : f 2 = .string inp
  g9 : f 9 = .pointer (some ⟨bl, 0, none⟩)
  p0 : b 0 = true → f 32 = .agg #[.slice Ar rs.length c, .int .i64 start]
  p1 : b 1 = true → ∃ br, f 33 = .agg #[.slice (some ⟨br, 0, none⟩) rs.length (rs.length + 1), .int .i64 start] ∧ (b 5 = false → Kd.C k42 w (some ⟨br, 0, none⟩) rs.length rs)
  p2 : b 2 = true → f 34 = .int .i64 rule
  p3 : b 3 = true → f 35 = .string inp
  p4 : b 4 = true → f 36 = .agg #[.int .i64 3000, .int .i64 50000]
  p5 : b 5 = true → ∃ A c', f 37 = ansV X A c' ∧ OwnF w wb.heap.size (.slice A (ansRes X).forest.length c') (ansRes X).forest
  p6 : b 6 = true → f 31 = f 37
  p7 : b 7 = true → f 38 = tup (f 37) 0
  p8 : b 8 = true → f 39 = tup (f 37) 1
  p9 : b 9 = true → f 40 = tup (f 37) 2
  p10 : b 10 = true → ∃ q cs, f 10 = .pointer (some ⟨q, 0, none⟩) ∧ wb.heap.size ≤ q ∧ Blk w q 31 cs ∧ cs.length = 4 ∧ (b 12 = true → .agg cs.toArray = tup (f 37) 0)
  p11 : b 11 = true → ∃ q cs, f 11 = .pointer (some ⟨q, 0, none⟩) ∧ wb.heap.size ≤ q ∧ Blk w q 32 cs ∧ cs.length = 2 ∧ (b 13 = true → .agg cs.toArray = tup (f 37) 1)
  p14 : b 14 = true → f 12 = tup (f 37) 2
theorem W6.below {wb : World} {Ar : Option Addr} {c : Nat} {start : Int} {rs : List S42} {rule : Int} {inp : ByteArray} {bl : Nat} {X : Res × St} {b3 : Nat} {b : Bits} {f : Slots} {w w' : World} (h : W6 wb Ar c start rs rule inp bl X b3 b f w) (g : Below w.heap.size w w') : W6 wb Ar c start rs rule inp bl X b3 b f w' :=
  { h with
    bel := h.bel.trans (g.mono h.bel.size)
    p1 := fun hb => (h.p1 hb).imp fun _ ⟨e, k⟩ => ⟨e, fun hr => Kd.C_below (k hr) g⟩
    p5 := fun hb => (h.p5 hb).imp fun _ ⟨c', e, k⟩ => ⟨c', e, k.more (Go.X.grown_of_below g none)⟩
    p10 := fun hb => (h.p10 hb).imp fun _ ⟨cs, e, e1, k, e2⟩ => ⟨cs, e, e1, k.below g k.lt, e2⟩
    p11 := fun hb => (h.p11 hb).imp fun _ ⟨cs, e, e1, k, e2⟩ => ⟨cs, e, e1, k.below g k.lt, e2⟩ }
theorem W6.st31 {wb : World} {Ar : Option Addr} {c : Nat} {start : Int} {rs : List S42} {rule : Int} {inp : ByteArray} {bl : Nat} {X : Res × St} {b3 : Nat} {b : Bits} {f : Slots} {w w' : World} {q : Nat} {cs : List Value} (h : W6 wb Ar c start rs rule inp bl X b3 b f w) (hrun : b 5 = true) (hq : f 10 = .pointer (some ⟨q, 0, none⟩)) (hbq : Blk w q 31 cs) (hle : wb.heap.size ≤ q) {cs' : List Value} (hl : cs'.length = 4) (hv : .agg cs'.toArray = tup (f 37) 0) (hb' : Blk w' q 31 cs') (g : w.grownBy w' (some q)) : W6 wb Ar c start rs rule inp bl X b3 (b.put 12) f w' :=
  { h with
    bel := Go.X.below_grown h.bel g (fun k e => by cases e; exact hle) (Nat.le_refl _)
    p1 := fun hb => (h.p1 hb).imp fun _ ⟨e, _⟩ => ⟨e, fun hr => no hr hrun⟩
    p5 := fun hb => (h.p5 hb).imp fun _ ⟨c', e, k⟩ => ⟨c', e, k.kept g hbq (by decide)⟩
    p10 := fun _ => ⟨q, cs', hq, hle, hb', hl, fun _ => hv⟩
    p11 := fun hb => (h.p11 hb).imp fun _ ⟨cs2, e, e1, k, e2⟩ => ⟨cs2, e, e1, k.grown g (by intro e'; injection e' with e'; exact k.ne hbq (by decide) e'), e2⟩ }
theorem W6.st32 {wb : World} {Ar : Option Addr} {c : Nat} {start : Int} {rs : List S42} {rule : Int} {inp : ByteArray} {bl : Nat} {X : Res × St} {b3 : Nat} {b : Bits} {f : Slots} {w w' : World} {q : Nat} {cs : List Value} (h : W6 wb Ar c start rs rule inp bl X b3 b f w) (hrun : b 5 = true) (hq : f 11 = .pointer (some ⟨q, 0, none⟩)) (hbq : Blk w q 32 cs) (hle : wb.heap.size ≤ q) {cs' : List Value} (hl : cs'.length = 2) (hv : .agg cs'.toArray = tup (f 37) 1) (hb' : Blk w' q 32 cs') (g : w.grownBy w' (some q)) : W6 wb Ar c start rs rule inp bl X b3 (b.put 13) f w' :=
  { h with
    bel := Go.X.below_grown h.bel g (fun k e => by cases e; exact hle) (Nat.le_refl _)
    p1 := fun hb => (h.p1 hb).imp fun _ ⟨e, _⟩ => ⟨e, fun hr => no hr hrun⟩
    p5 := fun hb => (h.p5 hb).imp fun _ ⟨c', e, k⟩ => ⟨c', e, k.kept g hbq (by decide)⟩
    p11 := fun _ => ⟨q, cs', hq, hle, hb', hl, fun _ => hv⟩
    p10 := fun hb => (h.p10 hb).imp fun _ ⟨cs2, e, e1, k, e2⟩ => ⟨cs2, e, e1, k.grown g (by intro e'; injection e' with e'; exact k.ne hbq (by decide) e'), e2⟩ }
set_option maxRecDepth 100000 in
theorem W6.wp (w0 : World) (wb : World) (Ar : Option Addr) (c : Nat) (start : Int) (rs : List S42) (rule : Int) (inp : ByteArray) (bl : Nat) (X : Res × St) (b3 : Nat) (hX : atAns rs start rule inp 0 3000 50000 = X)
    (hr : Kd.C k42 w0 Ar rs.length rs) (bw : Below w0.heap.size w0 wb) (mr : rs.length ≤ 1048576) (mb : ∀ x ∈ rs, x.f1.length ≤ 1048576) (hb : ∀ x ∈ rs, x.f1.length ≤ 140737488355328 ∧ x.f0.size ≤ 140737488355328)
    (x3 : Blk wb b3 24 [.slice Ar rs.length c, .int .i64 start]) (xl : Blk wb bl 26 [.int .i64 3000, .int .i64 50000]) (a : Act) (Q : Exit → Act → World → Prop) (hz : a.tmps.size = 141)
    (s4 : Slots.of a 4 = .pointer (some ⟨b3, 0, none⟩)) (s1 : Slots.of a 1 = .int .i64 rule) (s2 : Slots.of a 2 = .string inp) (s9 : Slots.of a 9 = .pointer (some ⟨bl, 0, none⟩))
    (hQ : ∀ (f : Slots) (w' : World) (q1 q2 : Nat) (A : Option Addr) (c' : Nat), f 10 = .pointer (some ⟨q1, 0, none⟩) → f 11 = .pointer (some ⟨q2, 0, none⟩) → f 12 = .int .i64 (ansSt X).err → wb.heap.size ≤ q1 → wb.heap.size ≤ q2 → Below wb.heap.size wb w' → Blk w' q1 31 (oC X (.slice A (ansRes X).forest.length c')) → Blk w' q2 32 (uC X) → OwnF w' wb.heap.size (.slice A (ansRes X).forest.length c') (ansRes X).forest → Q .normal (Act.puts a f [32, 33, 34, 35, 36, 37, 31, 38, 39, 40, 10, 11, 12]) w') :
    (Code.region 6 #[{ dst := some 32, op := Go.Op.load 24 (Go.Operand.tmp 4), type := 24, pos := "theorems.go:129", after := #[], guard := none }, { dst := some 33, op := Go.Op.call { callee := Go.Callee.value (Go.Operand.func 9), args := #[Go.Operand.tmp 32], argTypes := #[24] }, type := 24, pos := "theorems.go:129", after := #[{ on := 0, ground := Go.Ground.data }], guard := none }, { dst := some 34, op := Go.Op.move (Go.Operand.tmp 1), type := 3, pos := "theorems.go:129", after := #[], guard := none }, { dst := some 35, op := Go.Op.move (Go.Operand.tmp 2), type := 9, pos := "theorems.go:129", after := #[], guard := none }, { dst := some 36, op := Go.Op.load 26 (Go.Operand.tmp 9), type := 26, pos := "theorems.go:129", after := #[], guard := none }, { dst := some 37, op := Go.Op.call { callee := Go.Callee.value (Go.Operand.func 12), args := #[Go.Operand.tmp 33, Go.Operand.tmp 34, Go.Operand.tmp 35, Go.Operand.const (Go.Value.int Go.IntKind.i64 0), Go.Operand.tmp 36], argTypes := #[24, 3, 9, 3, 26] }, type := 34, pos := "theorems.go:129", after := #[{ on := 1, ground := Go.Ground.data }, { on := 2, ground := Go.Ground.data }, { on := 3, ground := Go.Ground.data }, { on := 4, ground := Go.Ground.data }, { on := 1, ground := Go.Ground.chain }], guard := none }, { dst := some 31, op := Go.Op.move (Go.Operand.tmp 37), type := 34, pos := "theorems.go:129", after := #[{ on := 5, ground := Go.Ground.data }], guard := none }, { dst := some 38, op := Go.Op.extract (Go.Operand.tmp 31) 0, type := 31, pos := "theorems.go:129", after := #[{ on := 6, ground := Go.Ground.data }], guard := none }, { dst := some 39, op := Go.Op.extract (Go.Operand.tmp 31) 1, type := 32, pos := "theorems.go:129", after := #[{ on := 6, ground := Go.Ground.data }, { on := 12, ground := Go.Ground.gcOnly Go.Departure.lateStores }], guard := none }, { dst := some 40, op := Go.Op.extract (Go.Operand.tmp 31) 2, type := 33, pos := "theorems.go:129", after := #[{ on := 6, ground := Go.Ground.data }, { on := 13, ground := Go.Ground.gcOnly Go.Departure.lateStores }], guard := none }, { dst := some 10, op := Go.Op.alloc 31, type := 0, pos := "theorems.go:129", after := #[], guard := none }, { dst := some 11, op := Go.Op.alloc 32, type := 0, pos := "theorems.go:129", after := #[], guard := none }, { dst := none, op := Go.Op.store 31 (Go.Operand.tmp 10) (Go.Operand.tmp 38), type := 0, pos := "theorems.go:129", after := #[{ on := 10, ground := Go.Ground.data }, { on := 7, ground := Go.Ground.data }, { on := 5, ground := Go.Ground.chain }, { on := 0, ground := Go.Ground.phase }, { on := 1, ground := Go.Ground.phase }, { on := 2, ground := Go.Ground.phase }, { on := 3, ground := Go.Ground.phase }, { on := 4, ground := Go.Ground.phase }, { on := 5, ground := Go.Ground.phase }, { on := 6, ground := Go.Ground.phase }, { on := 7, ground := Go.Ground.phase }, { on := 8, ground := Go.Ground.textOnly Go.Departure.lateStores }, { on := 9, ground := Go.Ground.textOnly Go.Departure.lateStores }, { on := 10, ground := Go.Ground.phase }, { on := 11, ground := Go.Ground.phase }], guard := none }, { dst := none, op := Go.Op.store 32 (Go.Operand.tmp 11) (Go.Operand.tmp 39), type := 0, pos := "theorems.go:129", after := #[{ on := 11, ground := Go.Ground.data }, { on := 8, ground := Go.Ground.data }, { on := 12, ground := Go.Ground.chain }, { on := 0, ground := Go.Ground.phase }, { on := 1, ground := Go.Ground.phase }, { on := 2, ground := Go.Ground.phase }, { on := 3, ground := Go.Ground.phase }, { on := 4, ground := Go.Ground.phase }, { on := 5, ground := Go.Ground.phase }, { on := 6, ground := Go.Ground.phase }, { on := 7, ground := Go.Ground.phase }, { on := 8, ground := Go.Ground.phase }, { on := 9, ground := Go.Ground.textOnly Go.Departure.lateStores }, { on := 10, ground := Go.Ground.phase }, { on := 11, ground := Go.Ground.phase }, { on := 12, ground := Go.Ground.phase }], guard := none }, { dst := some 12, op := Go.Op.assign (Go.Operand.tmp 40), type := 33, pos := "theorems.go:129", after := #[{ on := 9, ground := Go.Ground.data }, { on := 13, ground := Go.Ground.chain }, { on := 0, ground := Go.Ground.phase }, { on := 1, ground := Go.Ground.phase }, { on := 2, ground := Go.Ground.phase }, { on := 3, ground := Go.Ground.phase }, { on := 4, ground := Go.Ground.phase }, { on := 5, ground := Go.Ground.phase }, { on := 6, ground := Go.Ground.phase }, { on := 7, ground := Go.Ground.phase }, { on := 8, ground := Go.Ground.phase }, { on := 9, ground := Go.Ground.phase }, { on := 10, ground := Go.Ground.phase }, { on := 11, ground := Go.Ground.phase }, { on := 12, ground := Go.Ground.phase }, { on := 13, ground := Go.Ground.phase }], guard := none }] true).wp Tryd.prog Q a wb := by
  refine wp_region_slots (fun b f w => W6 wb Ar c start rs rule inp bl X b3 b f w) 15 [0, 1, 2, 3, 4, 5, 6, 7, 8, 9, 10, 11, 12, 13, 14] [32, 33, 34, 35, 36, 37, 31, 38, 39, 40, 10, 11, 12] 141 (by kernel_rfl) rfl rfl rfl (by kernel_rfl) (by kernel_rfl) hz (by kernel_rfl) ?_ ?_ ?_
  · exact { bel := Below.drew (Below.refl _ _), g4 := s4, g1 := s1, g2 := s2, g9 := s9, p0 := nofun, p1 := nofun, p2 := nofun, p3 := nofun, p4 := nofun, p5 := nofun, p6 := nofun, p7 := nofun, p8 := nofun, p9 := nofun, p10 := nofun, p11 := nofun, p14 := nofun }
  · refine SSteps.cons (i := 0) (ds := []) (js := [1, 5, 6, 7, 8, 9, 12, 13, 14]) rfl (by kernel_rfl) (by kernel_rfl) (fun b f w hb0 hd hj h => ?_) ?_
    · exact Does.loadBlk (h.g4) (x3.below h.bel x3.lt) Tryd.underlying24 rfl (by kernel_rfl) { h with p0 := fun _ => rfl }
    refine SSteps.cons (i := 1) (ds := [0]) (js := [5, 6, 7, 8, 9, 12, 13, 14]) rfl (by kernel_rfl) (by kernel_rfl) (fun b f w hb0 hd hj h => ?_) ?_
    · have d0 : b 0 = true := hd 0 (by decide)
      have e0 := h.p0 d0
      refine Does.call (args := #[.agg #[.slice Ar rs.length c, .int .i64 start]]) (by simp [Slots.eval, e0]) rfl (by kernel_rfl) ?_
      refine (lendRun.calls Ar c start rs w (Kd.C_below hr (bw.trans (h.bel.mono bw.size))) mr mb).mono ?_
      rintro e w' ⟨br, rfl, hc, hbl⟩
      exact ⟨_, rfl, { (h.below hbl) with p1 := fun _ => ⟨br, rfl, fun _ => hc⟩ }⟩
    refine SSteps.cons (i := 2) (ds := []) (js := [5, 6, 7, 8, 9, 12, 13, 14]) rfl (by kernel_rfl) (by kernel_rfl) (fun b f w hb0 hd hj h => ?_) ?_
    · exact Does.move { h with p2 := fun _ => h.g1 }
    refine SSteps.cons (i := 3) (ds := []) (js := [5, 6, 7, 8, 9, 12, 13, 14]) rfl (by kernel_rfl) (by kernel_rfl) (fun b f w hb0 hd hj h => ?_) ?_
    · exact Does.move { h with p3 := fun _ => h.g2 }
    refine SSteps.cons (i := 4) (ds := []) (js := [5, 6, 7, 8, 9, 12, 13, 14]) rfl (by kernel_rfl) (by kernel_rfl) (fun b f w hb0 hd hj h => ?_) ?_
    · exact Does.loadBlk (h.g9) (xl.below h.bel xl.lt) Tryd.underlying26 rfl (by kernel_rfl) { h with p4 := fun _ => rfl }
    refine SSteps.cons (i := 5) (ds := [1, 2, 3, 4, 0]) (js := [6, 7, 8, 9, 12, 13, 14]) rfl (by kernel_rfl) (by kernel_rfl) (fun b f w hb0 hd hj h => ?_) ?_
    · have d1 : b 1 = true := hd 1 (by decide); have d2 : b 2 = true := hd 2 (by decide); have d3 : b 3 = true := hd 3 (by decide); have d4 : b 4 = true := hd 4 (by decide)
      obtain ⟨br, e1, hc⟩ := h.p1 d1
      have q2 := h.p2 d2
      have q3 := h.p3 d3
      have q4 := h.p4 d4
      refine Does.call (args := #[.agg #[.slice (some ⟨br, 0, none⟩) rs.length (rs.length + 1), .int .i64 start], .int .i64 rule, .string inp, .int .i64 0, .agg #[.int .i64 3000, .int .i64 50000]]) (by simp [Slots.eval, e1, q2, q3, q4]) rfl (by kernel_rfl) ?_
      refine (mat.calls (some ⟨br, 0, none⟩) (rs.length + 1) start rule rs inp 0 3000 50000 w (hc hb0) (by omega) hb).mono ?_
      rintro e w' hans
      rw [hX] at hans
      obtain ⟨A, c', rfl, hbl, hown⟩ := RunAns.any hans
      exact ⟨_, rfl, { (h.below hbl) with p1 := fun hx => ((h.below hbl).p1 hx).imp fun _ ⟨e, _⟩ => ⟨e, fun hr => by cases hr⟩, p5 := fun _ => ⟨A, c', rfl, hown.low h.bel.size⟩, p6 := (fun hx => no (hj 6 (by decide)) hx), p7 := (fun hx => no (hj 7 (by decide)) hx), p8 := (fun hx => no (hj 8 (by decide)) hx), p9 := (fun hx => no (hj 9 (by decide)) hx), p14 := (fun hx => no (hj 14 (by decide)) hx), p10 := fun hx => ((h.below hbl).p10 hx).imp fun _ ⟨cs, k1, k2, k3, k4, _⟩ => ⟨cs, k1, k2, k3, k4, (fun hx => no (hj 12 (by decide)) hx)⟩, p11 := fun hx => ((h.below hbl).p11 hx).imp fun _ ⟨cs, k1, k2, k3, k4, _⟩ => ⟨cs, k1, k2, k3, k4, (fun hx => no (hj 13 (by decide)) hx)⟩ }⟩
    refine SSteps.cons (i := 6) (ds := [5, 1, 2, 3, 4, 0]) (js := [7, 8, 9, 12, 13, 14]) rfl (by kernel_rfl) (by kernel_rfl) (fun b f w hb0 hd hj h => ?_) ?_
    · exact Does.move { h with p6 := fun _ => rfl }
    refine SSteps.cons (i := 7) (ds := [6, 5, 1, 2, 3, 4, 0]) (js := [12, 13, 14]) rfl (by kernel_rfl) (by kernel_rfl) (fun b f w hb0 hd hj h => ?_) ?_
    · have d5 : b 5 = true := hd 5 (by decide); have d6 : b 6 = true := hd 6 (by decide)
      obtain ⟨A, c', e1, _⟩ := h.p5 d5
      have e2 := (h.p6 d6).trans e1
      refine Does.ext e2 (by simp) ?_
      exact { h with p7 := fun _ => (congrArg (fun v => tup v 0) e1).symm }
    refine SSteps.cons (i := 8) (ds := [6, 5, 1, 2, 3, 4, 0]) (js := [13, 14]) rfl (by kernel_rfl) (by kernel_rfl) (fun b f w hb0 hd hj h => ?_) ?_
    · have d5 : b 5 = true := hd 5 (by decide); have d6 : b 6 = true := hd 6 (by decide)
      obtain ⟨A, c', e1, _⟩ := h.p5 d5
      have e2 := (h.p6 d6).trans e1
      refine Does.ext e2 (by simp) ?_
      exact { h with p8 := fun _ => (congrArg (fun v => tup v 1) e1).symm }
    refine SSteps.cons (i := 9) (ds := [6, 5, 1, 2, 3, 4, 0]) (js := [14]) rfl (by kernel_rfl) (by kernel_rfl) (fun b f w hb0 hd hj h => ?_) ?_
    · have d5 : b 5 = true := hd 5 (by decide); have d6 : b 6 = true := hd 6 (by decide)
      obtain ⟨A, c', e1, _⟩ := h.p5 d5
      have e2 := (h.p6 d6).trans e1
      refine Does.ext e2 (by simp) ?_
      exact { h with p9 := fun _ => (congrArg (fun v => tup v 2) e1).symm, p14 := (fun hx => no (hj 14 (by decide)) hx) }
    refine SSteps.cons (i := 10) (ds := []) (js := [12, 13, 14]) rfl (by kernel_rfl) (by kernel_rfl) (fun b f w hb0 hd hj h => ?_) ?_
    · refine Does.alloc (P := Tryd.prog) zero31 ?_
      intro w' hb' hbl
      exact { (h.below hbl) with p10 := fun _ => ⟨w.heap.size, _, rfl, h.bel.size, hb', rfl, (fun hx => no (hj 12 (by decide)) hx)⟩ }
    refine SSteps.cons (i := 11) (ds := []) (js := [12, 13, 14]) rfl (by kernel_rfl) (by kernel_rfl) (fun b f w hb0 hd hj h => ?_) ?_
    · refine Does.alloc (P := Tryd.prog) zero32 ?_
      intro w' hb' hbl
      exact { (h.below hbl) with p11 := fun _ => ⟨w.heap.size, _, rfl, h.bel.size, hb', rfl, (fun hx => no (hj 13 (by decide)) hx)⟩ }
    refine SSteps.cons (i := 12) (ds := [10, 7, 5, 0, 1, 2, 3, 4, 6, 11]) (js := [13, 14]) rfl (by kernel_rfl) (by kernel_rfl) (fun b f w hb0 hd hj h => ?_) ?_
    · have d5 : b 5 = true := hd 5 (by decide); have d10 : b 10 = true := hd 10 (by decide); have d7 : b 7 = true := hd 7 (by decide)
      obtain ⟨A, c', e1, _⟩ := h.p5 d5
      obtain ⟨q, cs, e2, hle, hbq, hcl, _⟩ := h.p10 d10
      have e3 := h.p7 d7
      rw [e1] at e3
      refine Does.store e2 e3 hbq (by kernel_rfl) (by rw [hcl]; exact Nat.le_refl _) (by simp [tup, Value.cells, Value.oneCell']) ?_
      intro w' hb' g
      rw [splice_all _ _ (by rw [hcl]; rfl)] at hb'
      exact h.st31 d5 e2 hbq hle rfl (by rw [e1]; rfl) hb' g
    refine SSteps.cons (i := 13) (ds := [11, 8, 12, 0, 1, 2, 3, 4, 5, 6, 7, 10]) (js := [14]) rfl (by kernel_rfl) (by kernel_rfl) (fun b f w hb0 hd hj h => ?_) ?_
    · have d5 : b 5 = true := hd 5 (by decide); have d11 : b 11 = true := hd 11 (by decide); have d8 : b 8 = true := hd 8 (by decide)
      obtain ⟨A, c', e1, _⟩ := h.p5 d5
      obtain ⟨q, cs, e2, hle, hbq, hcl, _⟩ := h.p11 d11
      have e3 := h.p8 d8
      rw [e1] at e3
      refine Does.store e2 e3 hbq (by kernel_rfl) (by rw [hcl]; exact Nat.le_refl _) (by simp [tup, Value.cells, Value.oneCell']) ?_
      intro w' hb' g
      rw [splice_all _ _ (by rw [hcl]; rfl)] at hb'
      exact h.st32 d5 e2 hbq hle rfl (by rw [e1]; rfl) hb' g
    refine SSteps.cons (i := 14) (ds := [9, 13, 0, 1, 2, 3, 4, 5, 6, 7, 8, 10, 11, 12]) (js := []) rfl (by kernel_rfl) (by kernel_rfl) (fun b f w hb0 hd hj h => ?_) ?_
    · have d9 : b 9 = true := hd 9 (by decide)
      exact Does.assign { h with p14 := fun _ => h.p9 d9 }
    exact SSteps.nil
  · intro b f w' hall h _
    obtain ⟨A, c', e1, hown⟩ := h.p5 (hall 5 (by decide))
    have e4 := h.p14 (hall 14 (by decide))
    obtain ⟨q1, cs1, k1, l1, y1, m1, n1⟩ := h.p10 (hall 10 (by decide))
    obtain ⟨q2, cs2, k2, l2, y2, m2, n2⟩ := h.p11 (hall 11 (by decide))
    have e2 := n1 (hall 12 (by decide))
    have e3 := n2 (hall 13 (by decide))
    rw [e1] at e2 e3 e4
    have t1 : cs1 = oC X (.slice A (ansRes X).forest.length c') := by have := congrArg (fun v => match v with | Value.agg a => a.toList | _ => []) e2; simpa [tup] using this
    have t2 : cs2 = uC X := by have := congrArg (fun v => match v with | Value.agg a => a.toList | _ => []) e3; simpa [tup] using this
    exact hQ f w' q1 q2 A c' k1 k2 (by rw [e4]; rfl) l1 l2 h.bel (t1 ▸ y1) (t2 ▸ y2) hown
structure W7 (wb : World) (Ar : Option Addr) (c : Nat) (start : Int) (rs : List S42) (rule : Int) (inp ahead : ByteArray) (bl : Nat) (X : Res × St) (b3 : Nat) (b : Bits) (f : Slots) (w : World) : Prop where
  bel : Below wb.heap.size wb w
  g4 : f 4 = .pointer (some ⟨b3, 0, none⟩)
  g1 : f 1 = .int .i64 rule
  g2 : f 2 = .string inp
  g3 : f 3 = .string ahead
  g9 : f 9 = .pointer (some ⟨bl, 0, none⟩)
  p0 : b 0 = true → f 42 = .agg #[.slice Ar rs.length c, .int .i64 start]
  p1 : b 1 = true → ∃ br, f 43 = .agg #[.slice (some ⟨br, 0, none⟩) rs.length (rs.length + 1), .int .i64 start] ∧ (b 9 = false → Kd.C k42 w (some ⟨br, 0, none⟩) rs.length rs)
  p2 : b 2 = true → f 44 = .int .i64 rule
  p3 : b 3 = true → f 45 = .string ahead
  p4 : b 4 = true → f 46 = .string inp
  p5 : b 5 = true → f 47 = .string (ahead ++ inp)
  p6 : b 6 = true → f 48 = .string ahead
  p7 : b 7 = true → f 49 = .int .i64 ahead.size
  p8 : b 8 = true → f 50 = .agg #[.int .i64 3000, .int .i64 50000]
  p9 : b 9 = true → ∃ A c', f 51 = ansV X A c' ∧ OwnF w wb.heap.size (.slice A (ansRes X).forest.length c') (ansRes X).forest
  p10 : b 10 = true → f 41 = f 51
  p11 : b 11 = true → f 52 = tup (f 51) 0
  p12 : b 12 = true → f 53 = tup (f 51) 1
  p13 : b 13 = true → f 54 = tup (f 51) 2
  p14 : b 14 = true → ∃ q cs, f 13 = .pointer (some ⟨q, 0, none⟩) ∧ wb.heap.size ≤ q ∧ Blk w q 31 cs ∧ cs.length = 4 ∧ (b 16 = true → .agg cs.toArray = tup (f 51) 0)
  p15 : b 15 = true → ∃ q cs, f 14 = .pointer (some ⟨q, 0, none⟩) ∧ wb.heap.size ≤ q ∧ Blk w q 32 cs ∧ cs.length = 2 ∧ (b 17 = true → .agg cs.toArray = tup (f 51) 1)
  p18 : b 18 = true → f 15 = tup (f 51) 2
theorem W7.below {wb : World} {Ar : Option Addr} {c : Nat} {start : Int} {rs : List S42} {rule : Int} {inp ahead : ByteArray} {bl : Nat} {X : Res × St} {b3 : Nat} {b : Bits} {f : Slots} {w w' : World} (h : W7 wb Ar c start rs rule inp ahead bl X b3 b f w) (g : Below w.heap.size w w') : W7 wb Ar c start rs rule inp ahead bl X b3 b f w' :=
  { h with
    bel := h.bel.trans (g.mono h.bel.size)
    p1 := fun hb => (h.p1 hb).imp fun _ ⟨e, k⟩ => ⟨e, fun hr => Kd.C_below (k hr) g⟩
    p9 := fun hb => (h.p9 hb).imp fun _ ⟨c', e, k⟩ => ⟨c', e, k.more (Go.X.grown_of_below g none)⟩
    p14 := fun hb => (h.p14 hb).imp fun _ ⟨cs, e, e1, k, e2⟩ => ⟨cs, e, e1, k.below g k.lt, e2⟩
    p15 := fun hb => (h.p15 hb).imp fun _ ⟨cs, e, e1, k, e2⟩ => ⟨cs, e, e1, k.below g k.lt, e2⟩ }
theorem W7.st31 {wb : World} {Ar : Option Addr} {c : Nat} {start : Int} {rs : List S42} {rule : Int} {inp ahead : ByteArray} {bl : Nat} {X : Res × St} {b3 : Nat} {b : Bits} {f : Slots} {w w' : World} {q : Nat} {cs : List Value} (h : W7 wb Ar c start rs rule inp ahead bl X b3 b f w) (hrun : b 9 = true) (hq : f 13 = .pointer (some ⟨q, 0, none⟩)) (hbq : Blk w q 31 cs) (hle : wb.heap.size ≤ q) {cs' : List Value} (hl : cs'.length = 4) (hv : .agg cs'.toArray = tup (f 51) 0) (hb' : Blk w' q 31 cs') (g : w.grownBy w' (some q)) : W7 wb Ar c start rs rule inp ahead bl X b3 (b.put 16) f w' :=
  { h with
    bel := Go.X.below_grown h.bel g (fun k e => by cases e; exact hle) (Nat.le_refl _)
    p1 := fun hb => (h.p1 hb).imp fun _ ⟨e, _⟩ => ⟨e, fun hr => no hr hrun⟩
    p9 := fun hb => (h.p9 hb).imp fun _ ⟨c', e, k⟩ => ⟨c', e, k.kept g hbq (by decide)⟩
    p14 := fun _ => ⟨q, cs', hq, hle, hb', hl, fun _ => hv⟩
    p15 := fun hb => (h.p15 hb).imp fun _ ⟨cs2, e, e1, k, e2⟩ => ⟨cs2, e, e1, k.grown g (by intro e'; injection e' with e'; exact k.ne hbq (by decide) e'), e2⟩ }
theorem W7.st32 {wb : World} {Ar : Option Addr} {c : Nat} {start : Int} {rs : List S42} {rule : Int} {inp ahead : ByteArray} {bl : Nat} {X : Res × St} {b3 : Nat} {b : Bits} {f : Slots} {w w' : World} {q : Nat} {cs : List Value} (h : W7 wb Ar c start rs rule inp ahead bl X b3 b f w) (hrun : b 9 = true) (hq : f 14 = .pointer (some ⟨q, 0, none⟩)) (hbq : Blk w q 32 cs) (hle : wb.heap.size ≤ q) {cs' : List Value} (hl : cs'.length = 2) (hv : .agg cs'.toArray = tup (f 51) 1) (hb' : Blk w' q 32 cs') (g : w.grownBy w' (some q)) : W7 wb Ar c start rs rule inp ahead bl X b3 (b.put 17) f w' :=
  { h with
    bel := Go.X.below_grown h.bel g (fun k e => by cases e; exact hle) (Nat.le_refl _)
    p1 := fun hb => (h.p1 hb).imp fun _ ⟨e, _⟩ => ⟨e, fun hr => no hr hrun⟩
    p9 := fun hb => (h.p9 hb).imp fun _ ⟨c', e, k⟩ => ⟨c', e, k.kept g hbq (by decide)⟩
    p15 := fun _ => ⟨q, cs', hq, hle, hb', hl, fun _ => hv⟩
    p14 := fun hb => (h.p14 hb).imp fun _ ⟨cs2, e, e1, k, e2⟩ => ⟨cs2, e, e1, k.grown g (by intro e'; injection e' with e'; exact k.ne hbq (by decide) e'), e2⟩ }
set_option maxRecDepth 100000 in
theorem W7.wp (w0 : World) (wb : World) (Ar : Option Addr) (c : Nat) (start : Int) (rs : List S42) (rule : Int) (inp ahead : ByteArray) (bl : Nat) (X : Res × St) (b3 : Nat) (hX : atAns rs start rule (ahead ++ inp) ahead.size 3000 50000 = X)
    (hr : Kd.C k42 w0 Ar rs.length rs) (bw : Below w0.heap.size w0 wb) (mr : rs.length ≤ 1048576) (mb : ∀ x ∈ rs, x.f1.length ≤ 1048576) (hb : ∀ x ∈ rs, x.f1.length ≤ 140737488355328 ∧ x.f0.size ≤ 140737488355328)
    (x3 : Blk wb b3 24 [.slice Ar rs.length c, .int .i64 start]) (xl : Blk wb bl 26 [.int .i64 3000, .int .i64 50000]) (hlen : ahead.size + inp.size ≤ 8388608) (a : Act) (Q : Exit → Act → World → Prop) (hz : a.tmps.size = 141)
    (s4 : Slots.of a 4 = .pointer (some ⟨b3, 0, none⟩)) (s1 : Slots.of a 1 = .int .i64 rule) (s2 : Slots.of a 2 = .string inp) (s3 : Slots.of a 3 = .string ahead) (s9 : Slots.of a 9 = .pointer (some ⟨bl, 0, none⟩))
    (hQ : ∀ (f : Slots) (w' : World) (q1 q2 : Nat) (A : Option Addr) (c' : Nat), f 13 = .pointer (some ⟨q1, 0, none⟩) → f 14 = .pointer (some ⟨q2, 0, none⟩) → f 15 = .int .i64 (ansSt X).err → wb.heap.size ≤ q1 → wb.heap.size ≤ q2 → Below wb.heap.size wb w' → Blk w' q1 31 (oC X (.slice A (ansRes X).forest.length c')) → Blk w' q2 32 (uC X) → OwnF w' wb.heap.size (.slice A (ansRes X).forest.length c') (ansRes X).forest → Q .normal (Act.puts a f [42, 43, 44, 45, 46, 47, 48, 49, 50, 51, 41, 52, 53, 54, 13, 14, 15]) w') :
    (Code.region 7 #[{ dst := some 42, op := Go.Op.load 24 (Go.Operand.tmp 4), type := 24, pos := "theorems.go:130", after := #[], guard := none }, { dst := some 43, op := Go.Op.call { callee := Go.Callee.value (Go.Operand.func 9), args := #[Go.Operand.tmp 42], argTypes := #[24] }, type := 24, pos := "theorems.go:130", after := #[{ on := 0, ground := Go.Ground.data }], guard := none }, { dst := some 44, op := Go.Op.move (Go.Operand.tmp 1), type := 3, pos := "theorems.go:130", after := #[], guard := none }, { dst := some 45, op := Go.Op.move (Go.Operand.tmp 3), type := 9, pos := "theorems.go:130", after := #[], guard := none }, { dst := some 46, op := Go.Op.move (Go.Operand.tmp 2), type := 9, pos := "theorems.go:130", after := #[], guard := none }, { dst := some 47, op := Go.Op.binOp Go.BinOp.add 9 (Go.Operand.tmp 45) (Go.Operand.tmp 46) 9, type := 9, pos := "theorems.go:130", after := #[{ on := 3, ground := Go.Ground.data }, { on := 4, ground := Go.Ground.data }], guard := none }, { dst := some 48, op := Go.Op.move (Go.Operand.tmp 3), type := 9, pos := "theorems.go:130", after := #[], guard := none }, { dst := some 49, op := Go.Op.call { callee := Go.Callee.builtin Go.Builtin.len, args := #[Go.Operand.tmp 48], argTypes := #[9] }, type := 3, pos := "theorems.go:130", after := #[{ on := 6, ground := Go.Ground.data }], guard := none }, { dst := some 50, op := Go.Op.load 26 (Go.Operand.tmp 9), type := 26, pos := "theorems.go:130", after := #[], guard := none }, { dst := some 51, op := Go.Op.call { callee := Go.Callee.value (Go.Operand.func 12), args := #[Go.Operand.tmp 43, Go.Operand.tmp 44, Go.Operand.tmp 47, Go.Operand.tmp 49, Go.Operand.tmp 50], argTypes := #[24, 3, 9, 3, 26] }, type := 34, pos := "theorems.go:130", after := #[{ on := 1, ground := Go.Ground.data }, { on := 2, ground := Go.Ground.data }, { on := 5, ground := Go.Ground.data }, { on := 7, ground := Go.Ground.data }, { on := 8, ground := Go.Ground.data }, { on := 1, ground := Go.Ground.chain }], guard := none }, { dst := some 41, op := Go.Op.move (Go.Operand.tmp 51), type := 34, pos := "theorems.go:130", after := #[{ on := 9, ground := Go.Ground.data }], guard := none }, { dst := some 52, op := Go.Op.extract (Go.Operand.tmp 41) 0, type := 31, pos := "theorems.go:130", after := #[{ on := 10, ground := Go.Ground.data }], guard := none }, { dst := some 53, op := Go.Op.extract (Go.Operand.tmp 41) 1, type := 32, pos := "theorems.go:130", after := #[{ on := 10, ground := Go.Ground.data }, { on := 16, ground := Go.Ground.gcOnly Go.Departure.lateStores }], guard := none }, { dst := some 54, op := Go.Op.extract (Go.Operand.tmp 41) 2, type := 33, pos := "theorems.go:130", after := #[{ on := 10, ground := Go.Ground.data }, { on := 17, ground := Go.Ground.gcOnly Go.Departure.lateStores }], guard := none }, { dst := some 13, op := Go.Op.alloc 31, type := 0, pos := "theorems.go:130", after := #[], guard := none }, { dst := some 14, op := Go.Op.alloc 32, type := 0, pos := "theorems.go:130", after := #[], guard := none }, { dst := none, op := Go.Op.store 31 (Go.Operand.tmp 13) (Go.Operand.tmp 52), type := 0, pos := "theorems.go:130", after := #[{ on := 14, ground := Go.Ground.data }, { on := 11, ground := Go.Ground.data }, { on := 9, ground := Go.Ground.chain }, { on := 0, ground := Go.Ground.phase }, { on := 1, ground := Go.Ground.phase }, { on := 2, ground := Go.Ground.phase }, { on := 3, ground := Go.Ground.phase }, { on := 4, ground := Go.Ground.phase }, { on := 5, ground := Go.Ground.phase }, { on := 6, ground := Go.Ground.phase }, { on := 7, ground := Go.Ground.phase }, { on := 8, ground := Go.Ground.phase }, { on := 9, ground := Go.Ground.phase }, { on := 10, ground := Go.Ground.phase }, { on := 11, ground := Go.Ground.phase }, { on := 12, ground := Go.Ground.textOnly Go.Departure.lateStores }, { on := 13, ground := Go.Ground.textOnly Go.Departure.lateStores }, { on := 14, ground := Go.Ground.phase }, { on := 15, ground := Go.Ground.phase }], guard := none }, { dst := none, op := Go.Op.store 32 (Go.Operand.tmp 14) (Go.Operand.tmp 53), type := 0, pos := "theorems.go:130", after := #[{ on := 15, ground := Go.Ground.data }, { on := 12, ground := Go.Ground.data }, { on := 16, ground := Go.Ground.chain }, { on := 0, ground := Go.Ground.phase }, { on := 1, ground := Go.Ground.phase }, { on := 2, ground := Go.Ground.phase }, { on := 3, ground := Go.Ground.phase }, { on := 4, ground := Go.Ground.phase }, { on := 5, ground := Go.Ground.phase }, { on := 6, ground := Go.Ground.phase }, { on := 7, ground := Go.Ground.phase }, { on := 8, ground := Go.Ground.phase }, { on := 9, ground := Go.Ground.phase }, { on := 10, ground := Go.Ground.phase }, { on := 11, ground := Go.Ground.phase }, { on := 12, ground := Go.Ground.phase }, { on := 13, ground := Go.Ground.textOnly Go.Departure.lateStores }, { on := 14, ground := Go.Ground.phase }, { on := 15, ground := Go.Ground.phase }, { on := 16, ground := Go.Ground.phase }], guard := none }, { dst := some 15, op := Go.Op.assign (Go.Operand.tmp 54), type := 33, pos := "theorems.go:130", after := #[{ on := 13, ground := Go.Ground.data }, { on := 17, ground := Go.Ground.chain }, { on := 0, ground := Go.Ground.phase }, { on := 1, ground := Go.Ground.phase }, { on := 2, ground := Go.Ground.phase }, { on := 3, ground := Go.Ground.phase }, { on := 4, ground := Go.Ground.phase }, { on := 5, ground := Go.Ground.phase }, { on := 6, ground := Go.Ground.phase }, { on := 7, ground := Go.Ground.phase }, { on := 8, ground := Go.Ground.phase }, { on := 9, ground := Go.Ground.phase }, { on := 10, ground := Go.Ground.phase }, { on := 11, ground := Go.Ground.phase }, { on := 12, ground := Go.Ground.phase }, { on := 13, ground := Go.Ground.phase }, { on := 14, ground := Go.Ground.phase }, { on := 15, ground := Go.Ground.phase }, { on := 16, ground := Go.Ground.phase }, { on := 17, ground := Go.Ground.phase }], guard := none }] true).wp Tryd.prog Q a wb := by
  refine wp_region_slots (fun b f w => W7 wb Ar c start rs rule inp ahead bl X b3 b f w) 19 [0, 1, 2, 3, 4, 5, 6, 7, 8, 9, 10, 11, 12, 13, 14, 15, 16, 17, 18] [42, 43, 44, 45, 46, 47, 48, 49, 50, 51, 41, 52, 53, 54, 13, 14, 15] 141 (by kernel_rfl) rfl rfl rfl (by kernel_rfl) (by kernel_rfl) hz (by kernel_rfl) ?_ ?_ ?_
  · exact { bel := Below.drew (Below.refl _ _), g4 := s4, g1 := s1, g2 := s2, g3 := s3, g9 := s9, p0 := nofun, p1 := nofun, p2 := nofun, p3 := nofun, p4 := nofun, p5 := nofun, p6 := nofun, p7 := nofun, p8 := nofun, p9 := nofun, p10 := nofun, p11 := nofun, p12 := nofun, p13 := nofun, p14 := nofun, p15 := nofun, p18 := nofun }
  · refine SSteps.cons (i := 0) (ds := []) (js := [1, 9, 10, 11, 12, 13, 16, 17, 18]) rfl (by kernel_rfl) (by kernel_rfl) (fun b f w hb0 hd hj h => ?_) ?_
    · exact Does.loadBlk (h.g4) (x3.below h.bel x3.lt) Tryd.underlying24 rfl (by kernel_rfl) { h with p0 := fun _ => rfl }
    refine SSteps.cons (i := 1) (ds := [0]) (js := [9, 10, 11, 12, 13, 16, 17, 18]) rfl (by kernel_rfl) (by kernel_rfl) (fun b f w hb0 hd hj h => ?_) ?_
    · have d0 : b 0 = true := hd 0 (by decide)
      have e0 := h.p0 d0
      refine Does.call (args := #[.agg #[.slice Ar rs.length c, .int .i64 start]]) (by simp [Slots.eval, e0]) rfl (by kernel_rfl) ?_
      refine (lendRun.calls Ar c start rs w (Kd.C_below hr (bw.trans (h.bel.mono bw.size))) mr mb).mono ?_
      rintro e w' ⟨br, rfl, hc, hbl⟩
      exact ⟨_, rfl, { (h.below hbl) with p1 := fun _ => ⟨br, rfl, fun _ => hc⟩ }⟩
    refine SSteps.cons (i := 2) (ds := []) (js := [9, 10, 11, 12, 13, 16, 17, 18]) rfl (by kernel_rfl) (by kernel_rfl) (fun b f w hb0 hd hj h => ?_) ?_
    · exact Does.move { h with p2 := fun _ => h.g1 }
    refine SSteps.cons (i := 3) (ds := []) (js := [5, 9, 10, 11, 12, 13, 16, 17, 18]) rfl (by kernel_rfl) (by kernel_rfl) (fun b f w hb0 hd hj h => ?_) ?_
    · exact Does.move { h with p3 := fun _ => h.g3 }
    refine SSteps.cons (i := 4) (ds := []) (js := [5, 9, 10, 11, 12, 13, 16, 17, 18]) rfl (by kernel_rfl) (by kernel_rfl) (fun b f w hb0 hd hj h => ?_) ?_
    · exact Does.move { h with p4 := fun _ => h.g2 }
    refine SSteps.cons (i := 5) (ds := [3, 4]) (js := [9, 10, 11, 12, 13, 16, 17, 18]) rfl (by kernel_rfl) (by kernel_rfl) (fun b f w hb0 hd hj h => ?_) ?_
    · have d3 : b 3 = true := hd 3 (by decide)
      have q3 := h.p3 d3
      have d4 : b 4 = true := hd 4 (by decide)
      have q4 := h.p4 d4
      exact Does.binOp (v := .string (ahead ++ inp)) (by rw [show f.eval (.tmp 45) = _ from q3, show f.eval (.tmp 46) = _ from q4]; rfl) (by rw [show f.eval (.tmp 45) = _ from q3, show f.eval (.tmp 46) = _ from q4]; exact concat9 w hlen) { h with p5 := fun _ => rfl }
    refine SSteps.cons (i := 6) (ds := []) (js := [7, 9, 10, 11, 12, 13, 16, 17, 18]) rfl (by kernel_rfl) (by kernel_rfl) (fun b f w hb0 hd hj h => ?_) ?_
    · exact Does.move { h with p6 := fun _ => h.g3 }
    refine SSteps.cons (i := 7) (ds := [6]) (js := [9, 10, 11, 12, 13, 16, 17, 18]) rfl (by kernel_rfl) (by kernel_rfl) (fun b f w hb0 hd hj h => ?_) ?_
    · have d6 : b 6 = true := hd 6 (by decide)
      have q6 := h.p6 d6
      exact Does.lenString Tryd.underlying9 (s := ahead) q6 { h with p7 := fun _ => rfl }
    refine SSteps.cons (i := 8) (ds := []) (js := [9, 10, 11, 12, 13, 16, 17, 18]) rfl (by kernel_rfl) (by kernel_rfl) (fun b f w hb0 hd hj h => ?_) ?_
    · exact Does.loadBlk (h.g9) (xl.below h.bel xl.lt) Tryd.underlying26 rfl (by kernel_rfl) { h with p8 := fun _ => rfl }
    refine SSteps.cons (i := 9) (ds := [1, 2, 5, 7, 8, 0, 3, 4, 6]) (js := [10, 11, 12, 13, 16, 17, 18]) rfl (by kernel_rfl) (by kernel_rfl) (fun b f w hb0 hd hj h => ?_) ?_
    · have d1 : b 1 = true := hd 1 (by decide); have d2 : b 2 = true := hd 2 (by decide); have d5 : b 5 = true := hd 5 (by decide); have d7 : b 7 = true := hd 7 (by decide); have d8 : b 8 = true := hd 8 (by decide)
      obtain ⟨br, e1, hc⟩ := h.p1 d1
      have q2 := h.p2 d2
      have q5 := h.p5 d5
      have q7 := h.p7 d7
      have q8 := h.p8 d8
      refine Does.call (args := #[.agg #[.slice (some ⟨br, 0, none⟩) rs.length (rs.length + 1), .int .i64 start], .int .i64 rule, .string (ahead ++ inp), .int .i64 ahead.size, .agg #[.int .i64 3000, .int .i64 50000]]) (by simp [Slots.eval, e1, q2, q5, q7, q8]) rfl (by kernel_rfl) ?_
      refine (mat.calls (some ⟨br, 0, none⟩) (rs.length + 1) start rule rs (ahead ++ inp) ahead.size 3000 50000 w (hc hb0) (by omega) hb).mono ?_
      rintro e w' hans
      rw [hX] at hans
      obtain ⟨A, c', rfl, hbl, hown⟩ := RunAns.any hans
      exact ⟨_, rfl, { (h.below hbl) with p1 := fun hx => ((h.below hbl).p1 hx).imp fun _ ⟨e, _⟩ => ⟨e, fun hr => by cases hr⟩, p9 := fun _ => ⟨A, c', rfl, hown.low h.bel.size⟩, p10 := (fun hx => no (hj 10 (by decide)) hx), p11 := (fun hx => no (hj 11 (by decide)) hx), p12 := (fun hx => no (hj 12 (by decide)) hx), p13 := (fun hx => no (hj 13 (by decide)) hx), p18 := (fun hx => no (hj 18 (by decide)) hx), p14 := fun hx => ((h.below hbl).p14 hx).imp fun _ ⟨cs, k1, k2, k3, k4, _⟩ => ⟨cs, k1, k2, k3, k4, (fun hx => no (hj 16 (by decide)) hx)⟩, p15 := fun hx => ((h.below hbl).p15 hx).imp fun _ ⟨cs, k1, k2, k3, k4, _⟩ => ⟨cs, k1, k2, k3, k4, (fun hx => no (hj 17 (by decide)) hx)⟩ }⟩
    refine SSteps.cons (i := 10) (ds := [9, 1, 2, 5, 7, 8, 0, 3, 4, 6]) (js := [11, 12, 13, 16, 17, 18]) rfl (by kernel_rfl) (by kernel_rfl) (fun b f w hb0 hd hj h => ?_) ?_
    · exact Does.move { h with p10 := fun _ => rfl }
    refine SSteps.cons (i := 11) (ds := [10, 9, 1, 2, 5, 7, 8, 0, 3, 4, 6]) (js := [16, 17, 18]) rfl (by kernel_rfl) (by kernel_rfl) (fun b f w hb0 hd hj h => ?_) ?_
    · have d9 : b 9 = true := hd 9 (by decide); have d10 : b 10 = true := hd 10 (by decide)
      obtain ⟨A, c', e1, _⟩ := h.p9 d9
      have e2 := (h.p10 d10).trans e1
      refine Does.ext e2 (by simp) ?_
      exact { h with p11 := fun _ => (congrArg (fun v => tup v 0) e1).symm }
    refine SSteps.cons (i := 12) (ds := [10, 9, 1, 2, 5, 7, 8, 0, 3, 4, 6]) (js := [17, 18]) rfl (by kernel_rfl) (by kernel_rfl) (fun b f w hb0 hd hj h => ?_) ?_
    · have d9 : b 9 = true := hd 9 (by decide); have d10 : b 10 = true := hd 10 (by decide)
      obtain ⟨A, c', e1, _⟩ := h.p9 d9
      have e2 := (h.p10 d10).trans e1
      refine Does.ext e2 (by simp) ?_
      exact { h with p12 := fun _ => (congrArg (fun v => tup v 1) e1).symm }
    refine SSteps.cons (i := 13) (ds := [10, 9, 1, 2, 5, 7, 8, 0, 3, 4, 6]) (js := [18]) rfl (by kernel_rfl) (by kernel_rfl) (fun b f w hb0 hd hj h => ?_) ?_
    · have d9 : b 9 = true := hd 9 (by decide); have d10 : b 10 = true := hd 10 (by decide)
      obtain ⟨A, c', e1, _⟩ := h.p9 d9
      have e2 := (h.p10 d10).trans e1
      refine Does.ext e2 (by simp) ?_
      exact { h with p13 := fun _ => (congrArg (fun v => tup v 2) e1).symm, p18 := (fun hx => no (hj 18 (by decide)) hx) }
    refine SSteps.cons (i := 14) (ds := []) (js := [16, 17, 18]) rfl (by kernel_rfl) (by kernel_rfl) (fun b f w hb0 hd hj h => ?_) ?_
    · refine Does.alloc (P := Tryd.prog) zero31 ?_
      intro w' hb' hbl
      exact { (h.below hbl) with p14 := fun _ => ⟨w.heap.size, _, rfl, h.bel.size, hb', rfl, (fun hx => no (hj 16 (by decide)) hx)⟩ }
    refine SSteps.cons (i := 15) (ds := []) (js := [16, 17, 18]) rfl (by kernel_rfl) (by kernel_rfl) (fun b f w hb0 hd hj h => ?_) ?_
    · refine Does.alloc (P := Tryd.prog) zero32 ?_
      intro w' hb' hbl
      exact { (h.below hbl) with p15 := fun _ => ⟨w.heap.size, _, rfl, h.bel.size, hb', rfl, (fun hx => no (hj 17 (by decide)) hx)⟩ }
    refine SSteps.cons (i := 16) (ds := [14, 11, 9, 0, 1, 2, 3, 4, 5, 6, 7, 8, 10, 15]) (js := [17, 18]) rfl (by kernel_rfl) (by kernel_rfl) (fun b f w hb0 hd hj h => ?_) ?_
    · have d9 : b 9 = true := hd 9 (by decide); have d14 : b 14 = true := hd 14 (by decide); have d11 : b 11 = true := hd 11 (by decide)
      obtain ⟨A, c', e1, _⟩ := h.p9 d9
      obtain ⟨q, cs, e2, hle, hbq, hcl, _⟩ := h.p14 d14
      have e3 := h.p11 d11
      rw [e1] at e3
      refine Does.store e2 e3 hbq (by kernel_rfl) (by rw [hcl]; exact Nat.le_refl _) (by simp [tup, Value.cells, Value.oneCell']) ?_
      intro w' hb' g
      rw [splice_all _ _ (by rw [hcl]; rfl)] at hb'
      exact h.st31 d9 e2 hbq hle rfl (by rw [e1]; rfl) hb' g
    refine SSteps.cons (i := 17) (ds := [15, 12, 16, 0, 1, 2, 3, 4, 5, 6, 7, 8, 9, 10, 11, 14]) (js := [18]) rfl (by kernel_rfl) (by kernel_rfl) (fun b f w hb0 hd hj h => ?_) ?_
    · have d9 : b 9 = true := hd 9 (by decide); have d15 : b 15 = true := hd 15 (by decide); have d12 : b 12 = true := hd 12 (by decide)
      obtain ⟨A, c', e1, _⟩ := h.p9 d9
      obtain ⟨q, cs, e2, hle, hbq, hcl, _⟩ := h.p15 d15
      have e3 := h.p12 d12
      rw [e1] at e3
      refine Does.store e2 e3 hbq (by kernel_rfl) (by rw [hcl]; exact Nat.le_refl _) (by simp [tup, Value.cells, Value.oneCell']) ?_
      intro w' hb' g
      rw [splice_all _ _ (by rw [hcl]; rfl)] at hb'
      exact h.st32 d9 e2 hbq hle rfl (by rw [e1]; rfl) hb' g
    refine SSteps.cons (i := 18) (ds := [13, 17, 0, 1, 2, 3, 4, 5, 6, 7, 8, 9, 10, 11, 12, 14, 15, 16]) (js := []) rfl (by kernel_rfl) (by kernel_rfl) (fun b f w hb0 hd hj h => ?_) ?_
    · have d13 : b 13 = true := hd 13 (by decide)
      exact Does.assign { h with p18 := fun _ => h.p13 d13 }
    exact SSteps.nil
  · intro b f w' hall h _
    obtain ⟨A, c', e1, hown⟩ := h.p9 (hall 9 (by decide))
    have e4 := h.p18 (hall 18 (by decide))
    obtain ⟨q1, cs1, k1, l1, y1, m1, n1⟩ := h.p14 (hall 14 (by decide))
    obtain ⟨q2, cs2, k2, l2, y2, m2, n2⟩ := h.p15 (hall 15 (by decide))
    have e2 := n1 (hall 16 (by decide))
    have e3 := n2 (hall 17 (by decide))
    rw [e1] at e2 e3 e4
    have t1 : cs1 = oC X (.slice A (ansRes X).forest.length c') := by have := congrArg (fun v => match v with | Value.agg a => a.toList | _ => []) e2; simpa [tup] using this
    have t2 : cs2 = uC X := by have := congrArg (fun v => match v with | Value.agg a => a.toList | _ => []) e3; simpa [tup] using this
    exact hQ f w' q1 q2 A c' k1 k2 (by rw [e4]; rfl) l1 l2 h.bel (t1 ▸ y1) (t2 ▸ y2) hown
end Go.Proofs.YtmpkkphohilkoaaDoor.B
/- forest.nested's last region (printed by wip/gen/gennest.py). -/
namespace Go.Proofs.YtmpkkphohilkoaaDoor.B
open Go Go.RowKit Go.X Go.Ma Go.Proofs.YtmpkkphohilkoaaDoorW.PrintWords Go.Proofs.YtmpkkphohilkoaaDoor.F
theorem info81 : (Tryd.prog.info? 81).map (fun i => (i.zero, i.size, i.bytes)) = some (some (.agg #[.int .i64 0, .int .i64 0, .int .i64 0]), 3, 24) := by kernel_rfl
structure N11 (wb : World) (v : Value) (la : Addr) (ln lc i : Nat) (m : Int) (n9 : Nat) (f1 f2 : Int) (base k : Nat) (xs : List Value) (b : Bits) (f : Slots) (w : World) : Prop where
  bel : b 11 = false → Below wb.heap.size wb w
  g7 : b 12 = false → f 7 = v
  g1 : f 1 = .slice (some la) ln lc
  g8 : f 8 = .int .i64 (i : Nat)
  g9 : f 9 = .pointer (some ⟨n9, 0, none⟩)
  p0 : b 0 = true → f 76 = v
  p1 : b 1 = true → f 77 = .slice (some la) ln lc
  p2 : b 2 = true → f 78 = .int .i64 (i : Nat)
  p3 : b 3 = true → f 79 = .pointer (some (la.add i))
  p4 : b 4 = true → f 80 = .int .i64 m
  p5 : b 5 = true → f 81 = .pointer (some ⟨n9, 2, none⟩)
  p6 : b 6 = true → f 82 = .int .i64 f2
  p7 : b 7 = true → f 83 = .pointer (some ⟨n9, 1, none⟩)
  p8 : b 8 = true → f 84 = .int .i64 f1
  p9 : b 9 = true → f 85 = .agg #[.int .i64 m, .int .i64 f2, .int .i64 f1]
  p10 : b 10 = true → ∃ q, f 86 = .slice (some ⟨q, 0, none⟩) 1 1 ∧ (b 11 = false → Blk w q 81 [.int .i64 m, .int .i64 f2, .int .i64 f1])
  p11 : b 11 = true → ∃ wa, Below wb.heap.size wb wa ∧ Appended wa w 81 3 v (f 87) k ∧ w.ownsRow base 81 3 (f 87) (k + 1) (xs ++ [.int .i64 m, .int .i64 f2, .int .i64 f1])
  p12 : b 12 = true → f 7 = f 87
set_option maxRecDepth 100000 in
theorem N11.wp (wb : World) (v : Value) (la : Addr) (ln lc i : Nat) (m : Int) (n9 : Nat) (f1 f2 : Int) (base k : Nat) (xs : List Value) (ho : wb.ownsRow base 81 3 v k xs) (hk : k ≤ 4000000) (hbase : base ≤ wb.heap.size) (hil : i < ln)
    (cl : wb.cell? (la.add i) = some (.int .i64 m)) (c1 : wb.cell? ⟨n9, 1, none⟩ = some (.int .i64 f1)) (c2 : wb.cell? ⟨n9, 2, none⟩ = some (.int .i64 f2)) (a : Act) (Q : Exit → Act → World → Prop) (hz : a.tmps.size = 89)
    (s7 : Slots.of a 7 = v) (s1 : Slots.of a 1 = .slice (some la) ln lc) (s8 : Slots.of a 8 = .int .i64 (i : Nat)) (s9 : Slots.of a 9 = .pointer (some ⟨n9, 0, none⟩))
    (hQ : ∀ (f : Slots) (w' wa : World), Below wb.heap.size wb wa → Appended wa w' 81 3 v (f 7) k → w'.ownsRow base 81 3 (f 7) (k + 1) (xs ++ [.int .i64 m, .int .i64 f2, .int .i64 f1]) → Q .normal (Act.puts a f [76, 77, 78, 79, 80, 81, 82, 83, 84, 85, 86, 87, 7]) w') :
    (Code.region 11 #[{ dst := some 76, op := Go.Op.move (Go.Operand.tmp 7), type := 82, pos := "forest.go:91", after := #[], guard := none }, { dst := some 77, op := Go.Op.move (Go.Operand.tmp 1), type := 59, pos := "forest.go:91", after := #[], guard := none }, { dst := some 78, op := Go.Op.move (Go.Operand.tmp 8), type := 3, pos := "forest.go:91", after := #[], guard := none }, { dst := some 79, op := Go.Op.indexAddr 59 (Go.Operand.tmp 77) (Go.Operand.tmp 78), type := 0, pos := "forest.go:91", after := #[{ on := 1, ground := Go.Ground.data }, { on := 2, ground := Go.Ground.data }], guard := none }, { dst := some 80, op := Go.Op.load 3 (Go.Operand.tmp 79), type := 3, pos := "forest.go:91", after := #[{ on := 3, ground := Go.Ground.data }], guard := none }, { dst := some 81, op := Go.Op.fieldAddr 49 (Go.Operand.tmp 9) 2, type := 0, pos := "forest.go:91", after := #[], guard := none }, { dst := some 82, op := Go.Op.load 3 (Go.Operand.tmp 81), type := 3, pos := "forest.go:91", after := #[{ on := 5, ground := Go.Ground.data }], guard := none }, { dst := some 83, op := Go.Op.fieldAddr 49 (Go.Operand.tmp 9) 1, type := 0, pos := "forest.go:91", after := #[], guard := none }, { dst := some 84, op := Go.Op.load 3 (Go.Operand.tmp 83), type := 3, pos := "forest.go:91", after := #[{ on := 7, ground := Go.Ground.data }], guard := none }, { dst := some 85, op := Go.Op.build 81 #[(0, Go.Operand.tmp 80), (1, Go.Operand.tmp 82), (2, Go.Operand.tmp 84)], type := 81, pos := "forest.go:91", after := #[{ on := 4, ground := Go.Ground.data }, { on := 6, ground := Go.Ground.data }, { on := 8, ground := Go.Ground.data }], guard := none }, { dst := some 86, op := Go.Op.buildSlice 82 1 #[(0, Go.Operand.tmp 85)], type := 82, pos := "forest.go:91", after := #[{ on := 9, ground := Go.Ground.data }], guard := none }, { dst := some 87, op := Go.Op.call { callee := Go.Callee.builtin Go.Builtin.append, args := #[Go.Operand.tmp 76, Go.Operand.tmp 86], argTypes := #[82, 82] }, type := 82, pos := "forest.go:91", after := #[{ on := 0, ground := Go.Ground.data }, { on := 10, ground := Go.Ground.data }], guard := none }, { dst := some 7, op := Go.Op.assign (Go.Operand.tmp 87), type := 82, pos := "forest.go:91", after := #[{ on := 11, ground := Go.Ground.data }, { on := 11, ground := Go.Ground.chain }, { on := 0, ground := Go.Ground.phase }, { on := 1, ground := Go.Ground.phase }, { on := 2, ground := Go.Ground.phase }, { on := 3, ground := Go.Ground.phase }, { on := 4, ground := Go.Ground.phase }, { on := 5, ground := Go.Ground.phase }, { on := 6, ground := Go.Ground.phase }, { on := 7, ground := Go.Ground.phase }, { on := 8, ground := Go.Ground.phase }, { on := 9, ground := Go.Ground.phase }, { on := 10, ground := Go.Ground.phase }, { on := 11, ground := Go.Ground.phase }], guard := none }] true).wp Tryd.prog Q a wb := by
  have i0 : (0 : Int) ≤ (i : Int) := by omega
  have i1 : (i : Int) < (ln : Int) := by omega
  refine wp_region_slots (fun b f w => N11 wb v la ln lc i m n9 f1 f2 base k xs b f w) 13 [0, 1, 2, 3, 4, 5, 6, 7, 8, 9, 10, 11, 12] [76, 77, 78, 79, 80, 81, 82, 83, 84, 85, 86, 87, 7] 89 (by kernel_rfl) rfl rfl rfl (by kernel_rfl) (by kernel_rfl) hz (by kernel_rfl) ?_ ?_ ?_
  · exact { bel := fun _ => Below.drew (Below.refl _ _), g7 := fun _ => s7, g1 := s1, g8 := s8, g9 := s9, p0 := nofun, p1 := nofun, p2 := nofun, p3 := nofun, p4 := nofun, p5 := nofun, p6 := nofun, p7 := nofun, p8 := nofun, p9 := nofun, p10 := nofun, p11 := nofun, p12 := nofun }
  · refine SSteps.cons (i := 0) (ds := []) (js := [11, 12]) rfl (by kernel_rfl) (by kernel_rfl) (fun b f w hb0 hd hj h => ?_) ?_
    · exact Does.move { h with p0 := fun _ => h.g7 (hj 12 (by decide)) }
    refine SSteps.cons (i := 1) (ds := []) (js := [3, 4, 9, 10, 11, 12]) rfl (by kernel_rfl) (by kernel_rfl) (fun b f w hb0 hd hj h => ?_) ?_
    · exact Does.move { h with p1 := fun _ => h.g1 }
    refine SSteps.cons (i := 2) (ds := []) (js := [3, 4, 9, 10, 11, 12]) rfl (by kernel_rfl) (by kernel_rfl) (fun b f w hb0 hd hj h => ?_) ?_
    · exact Does.move { h with p2 := fun _ => h.g8 }
    refine SSteps.cons (i := 3) (ds := [1, 2]) (js := [4, 9, 10, 11, 12]) rfl (by kernel_rfl) (by kernel_rfl) (fun b f w hb0 hd hj h => ?_) ?_
    · have d1 : b 1 = true := hd 1 (by decide); have d2 : b 2 = true := hd 2 (by decide)
      have e0 := h.p1 d1
      have e1 := h.p2 d2
      exact Does.indexAddr (v := .pointer (some (la.add i))) (by rw [show f.eval (.tmp 77) = _ from e0, show f.eval (.tmp 78) = _ from e1]; go_simp) { h with p3 := fun _ => rfl }
    refine SSteps.cons (i := 4) (ds := [3, 1, 2]) (js := [9, 10, 11, 12]) rfl (by kernel_rfl) (by kernel_rfl) (fun b f w hb0 hd hj h => ?_) ?_
    · have d3 : b 3 = true := hd 3 (by decide)
      have e0 := h.p3 d3
      have hc := below_at (h.bel (hj 11 (by decide))) cl
      exact Does.load (v := .int .i64 m) (by rw [show f.eval (.tmp 79) = _ from e0]; go_simp) { h with p4 := fun _ => rfl }
    refine SSteps.cons (i := 5) (ds := []) (js := [6, 9, 10, 11, 12]) rfl (by kernel_rfl) (by kernel_rfl) (fun b f w hb0 hd hj h => ?_) ?_
    · exact Does.fieldAddr (v := .pointer (some ⟨n9, 2, none⟩)) (by rw [show f.eval (.tmp 9) = _ from h.g9]; go_simp) { h with p5 := fun _ => rfl }
    refine SSteps.cons (i := 6) (ds := [5]) (js := [9, 10, 11, 12]) rfl (by kernel_rfl) (by kernel_rfl) (fun b f w hb0 hd hj h => ?_) ?_
    · have d5 : b 5 = true := hd 5 (by decide)
      have e0 := h.p5 d5
      have hc := below_at (h.bel (hj 11 (by decide))) c2
      exact Does.load (v := .int .i64 f2) (by rw [show f.eval (.tmp 81) = _ from e0]; go_simp) { h with p6 := fun _ => rfl }
    refine SSteps.cons (i := 7) (ds := []) (js := [8, 9, 10, 11, 12]) rfl (by kernel_rfl) (by kernel_rfl) (fun b f w hb0 hd hj h => ?_) ?_
    · exact Does.fieldAddr (v := .pointer (some ⟨n9, 1, none⟩)) (by rw [show f.eval (.tmp 9) = _ from h.g9]; go_simp) { h with p7 := fun _ => rfl }
    refine SSteps.cons (i := 8) (ds := [7]) (js := [9, 10, 11, 12]) rfl (by kernel_rfl) (by kernel_rfl) (fun b f w hb0 hd hj h => ?_) ?_
    · have d7 : b 7 = true := hd 7 (by decide)
      have e0 := h.p7 d7
      have hc := below_at (h.bel (hj 11 (by decide))) c1
      exact Does.load (v := .int .i64 f1) (by rw [show f.eval (.tmp 83) = _ from e0]; go_simp) { h with p8 := fun _ => rfl }
    refine SSteps.cons (i := 9) (ds := [4, 6, 8, 3, 1, 2, 5, 7]) (js := [10, 11, 12]) rfl (by kernel_rfl) (by kernel_rfl) (fun b f w hb0 hd hj h => ?_) ?_
    · have d4 : b 4 = true := hd 4 (by decide); have d6 : b 6 = true := hd 6 (by decide); have d8 : b 8 = true := hd 8 (by decide)
      have e0 := h.p4 d4
      have e1 := h.p6 d6
      have e2 := h.p8 d8
      exact Does.build (cells := #[.int .i64 m, .int .i64 f2, .int .i64 f1]) (by simp only [List.map_cons, List.map_nil]; rw [show f.eval (.tmp 80) = _ from e0, show f.eval (.tmp 82) = _ from e1, show f.eval (.tmp 84) = _ from e2]; kernel_rfl) { h with p9 := fun _ => rfl }
    refine SSteps.cons (i := 10) (ds := [9, 4, 6, 8, 3, 1, 2, 5, 7]) (js := [11, 12]) rfl (by kernel_rfl) (by kernel_rfl) (fun b f w hb0 hd hj h => ?_) ?_
    · have d9 : b 9 = true := hd 9 (by decide)
      have e0 := h.p9 d9
      refine Does.buildSlice1 (e := 81) (v := .agg #[.int .i64 m, .int .i64 f2, .int .i64 f1]) (cs := #[.int .i64 m, .int .i64 f2, .int .i64 f1]) e0 (by go_simp) ?_
      intro w' hb' hbl
      exact { h with bel := fun hx => (h.bel hx).trans (hbl.mono (h.bel hx).size), p10 := fun _ => ⟨_, rfl, fun _ => hb'⟩, p11 := fun hx => no (hj 11 (by decide)) hx }
    refine SSteps.cons (i := 11) (ds := [0, 10, 9, 4, 6, 8, 3, 1, 2, 5, 7]) (js := [12]) rfl (by kernel_rfl) (by kernel_rfl) (fun b f w hb0 hd hj h => ?_) ?_
    · have d0 : b 0 = true := hd 0 (by decide); have d10 : b 10 = true := hd 10 (by decide)
      have e0 := h.p0 d0
      obtain ⟨q, e1, hq⟩ := h.p10 d10
      have hb11 := h.bel hb0
      refine Does.append (t := 82) (e := 81) base (.agg #[.int .i64 0, .int .i64 0, .int .i64 0]) 3 24 Tryd.underlying82 info81 rfl e0 (ho.kept (Go.X.grown_of_below hb11 none) (by cases hv : v.ownBlock <;> simp)) e1 (hq hb0) rfl (by simp [Value.oneCell']) (by simp only [maxLen]; omega) (by omega) (Nat.le_trans hbase hb11.size) ?_
      intro v' w' hown hap
      exact { h with bel := fun hx => tf hx, p10 := fun _ => ⟨q, e1, fun hx => tf hx⟩, p11 := fun _ => ⟨w, hb11, hap, hown⟩, p12 := fun hx => no (hj 12 (by decide)) hx }
    refine SSteps.cons (i := 12) (ds := [11, 0, 1, 2, 3, 4, 5, 6, 7, 8, 9, 10]) (js := []) rfl (by kernel_rfl) (by kernel_rfl) (fun b f w hb0 hd hj h => ?_) ?_
    · have d11 : b 11 = true := hd 11 (by decide)
      exact Does.assign { h with g7 := fun hx => tf hx, p12 := fun _ => rfl }
    exact SSteps.nil
  · intro b f w' hall h _
    obtain ⟨wa, h1, h2, h3⟩ := h.p11 (hall 11 (by decide))
    have e := h.p12 (hall 12 (by decide))
    rw [← e] at h2 h3
    exact hQ f w' wa h1 h2 h3
end Go.Proofs.YtmpkkphohilkoaaDoor.B
/- forest.nested, walked, of a forest that is right. -/
namespace Go.Proofs.YtmpkkphohilkoaaDoor.B
open Go Go.RowKit Go.X Go.Ma Go.Proofs.YtmpkkphohilkoaaDoorW.PrintWords Go.Proofs.YtmpkkphohilkoaaDoor.F

/-- The cells of the rooms that are open, the innermost one last. -/
def rooms : List (Nat × Int × Int) → List Value
  | [] => []
  | p :: r => rooms r ++ [.int .i64 (p.1 : Int), .int .i64 p.2.1, .int .i64 p.2.2]
theorem rooms_length : ∀ s : List (Nat × Int × Int), (rooms s).length = s.length * 3
  | [] => rfl
  | p :: r => by rw [rooms, List.length_append, rooms_length r, List.length_cons]; simp; omega
structure NW (w wr : World) (xs : List S49) (i : Nat) (v : Value) (s : List (Nat × Int × Int)) : Prop where
  bel : Below w.heap.size w wr
  own : wr.ownsRow w.heap.size 81 3 v s.length (rooms s)
  opn : Open xs i s
  few : s.length ≤ i + 1
theorem NW.more {w wr w' : World} {xs : List S49} {i : Nat} {v : Value} {s : List (Nat × Int × Int)} (h : NW w wr xs i v s) (g : Below wr.heap.size wr w') : NW w w' xs i v s :=
  ⟨h.bel.trans (g.mono h.bel.size), h.own.kept (Go.X.grown_of_below g none) (by cases hv : v.ownBlock <;> simp), h.opn, h.few⟩
theorem NW.slice {w wr : World} {xs : List S49} {i : Nat} {v : Value} {s : List (Nat × Int × Int)} (h : NW w wr xs i v s) : ∃ g cap e hi lo r, s = (e, hi, lo) :: r ∧ v = .slice (some ⟨g, 0, none⟩) (r.length + 1) cap ∧ w.heap.size ≤ g ∧ r.length + 1 ≤ cap := by
  match s, h with
  | [], h => exact h.opn.elim
  | (e, hi, lo) :: r, h =>
    rcases h.own.2 with ⟨_, h0⟩ | ⟨g, cap, cur, h1, h2, _, h3, _⟩
    · simp at h0
    · exact ⟨g, cap, e, hi, lo, r, rfl, h1, h2, h3⟩
theorem NW.cells {w wr : World} {xs : List S49} {i g cap e : Nat} {hi lo : Int} {r : List (Nat × Int × Int)} (h : NW w wr xs i (.slice (some ⟨g, 0, none⟩) (r.length + 1) cap) ((e, hi, lo) :: r)) :
    wr.cell? ⟨g, r.length * 3, none⟩ = some (.int .i64 (e : Int)) ∧ wr.cell? ⟨g, r.length * 3 + 1, none⟩ = some (.int .i64 hi) ∧ wr.cell? ⟨g, r.length * 3 + 2, none⟩ = some (.int .i64 lo) ∧ wr.frozen? ⟨g, r.length * 3 + 2, none⟩ = false := by
  refine ⟨?_, ?_, ?_, h.own.frozenAt _⟩
  · have := h.own.cellAt (r.length * 3) (by show _ < (r.length + 1) * 3; omega)
    rw [this, rooms, List.getElem?_append_right (by rw [rooms_length]; omega), rooms_length, Nat.sub_self]; rfl
  · have := h.own.cellAt (r.length * 3 + 1) (by show _ < (r.length + 1) * 3; omega)
    rw [this, rooms, List.getElem?_append_right (by rw [rooms_length]; omega), rooms_length, Nat.add_sub_cancel_left]; rfl
  · have := h.own.cellAt (r.length * 3 + 2) (by show _ < (r.length + 1) * 3; omega)
    rw [this, rooms, List.getElem?_append_right (by rw [rooms_length]; omega), rooms_length, Nat.add_sub_cancel_left]; rfl
theorem NW.pop {w wr : World} {xs : List S49} {i g cap : Nat} {hi lo : Int} {r : List (Nat × Int × Int)} (h : NW w wr xs i (.slice (some ⟨g, 0, none⟩) (r.length + 1) cap) ((i, hi, lo) :: r)) (hi' : i < xs.length) : NW w wr xs i (.slice (some ⟨g, 0, none⟩) r.length cap) r :=
  ⟨h.bel, ownsRow_pop (n := r.length) (xs := rooms r) (last := [.int .i64 (i : Int), .int .i64 hi, .int .i64 lo]) (rooms_length r) h.own, h.opn.pop hi', by have := h.few; simp at this; omega⟩
theorem rooms_set (r : List (Nat × Int × Int)) (e : Nat) (hi lo u : Int) : (rooms ((e, hi, lo) :: r)).set (r.length * 3 + 2) (.int .i64 u) = rooms ((e, hi, u) :: r) := by
  rw [rooms, List.set_append_right _ _ (by rw [rooms_length]; omega), rooms_length, Nat.add_sub_cancel_left]
  rfl
set_option maxRecDepth 100000 in
set_option maxHeartbeats 4000000 in
theorem nested.calls (A A2 : Option Addr) (c c2 : Nat) (xs : List S49) (L : List Int) (size : Int) (t : Nat) (w : World) (hr : Kd.C k49 w A xs.length xs) (hl : Kd.C (Kd.int .i64) w A2 L.length L) (hT : Tells xs L 0) (hs : Sp xs t 0 xs.length 0 size) (hn : xs.length ≤ 4000000) :
    Calls Tryd.prog 23 #[.slice A xs.length c, .slice A2 L.length c2, .int .i64 size] w fun e w' => e = .returned (.bool true) ∧ Below w.heap.size w w' := by
  have HR := Lib.hid hr; clear hr
  have HL := Lib.hid hl; clear hl
  have HT := Lib.hid hT; clear hT
  have HS := Lib.hid hs; clear hs
  have HLN : Hid (L.length = xs.length) := HT.out.1
  go_enter Tryd.func23, Tryd.ntmps23
  go_wp2
  have H0 : Hid (NW w (w.alloc (.cells #[.int .i64 (xs.length : Int), .int .i64 size, .int .i64 0] 81)) xs 0 (.slice (some ⟨w.heap.size, 0, none⟩) 1 1) [(xs.length, size, 0)]) :=
    ⟨(Below.refl _ w).alloc (Nat.le_refl _) _, World.ownsRow_lit w _ 1 (Nat.le_refl _) (by simp only [maxLen]; omega) rfl, Open.first HS.out, Nat.le_refl _⟩
  go_loopg [7, 18] xs.length (fun q v i wi => ∃ (k : Nat) (s : List (Nat × Int × Int)), q + k = xs.length ∧ i = .int .i64 k ∧ Hid (NW w wi xs k v s))
  case atStart => exact ⟨0, _, by simp, rfl, H0.out⟩
  case round =>
    clear H0
    rename World => wi
    obtain ⟨k, s, hk, rfl, HI⟩ := hrel
    by_cases hlt : k < xs.length
    · obtain ⟨ad, eA, y0, y1, y2, y3⟩ := at_T49 (Kd.C_below HR.out HI.out.bel) (k : Int) (by omega) (by omega)
      subst eA
      rw [Int.toNat_natCast] at y0 y1 y2 y3
      obtain ⟨x, hx⟩ : ∃ x, xs[k]? = some x := ⟨_, List.getElem?_eq_getElem hlt⟩
      rw [rdT hx] at y0 y1 y2 y3
      have HXK := Lib.hid hx; clear hx
      go_wp2
      have HB : Hid (NW w (wi.alloc (.cells #[.string x.f0, .int .i64 x.f1, .int .i64 x.f2, .int .i64 x.f3] 49)) xs k u7 s ∧ Blk (wi.alloc (.cells #[.string x.f0, .int .i64 x.f1, .int .i64 x.f2, .int .i64 x.f3] 49)) wi.heap.size 49 [.string x.f0, .int .i64 x.f1, .int .i64 x.f2, .int .i64 x.f3]) :=
        ⟨HI.out.more ((Below.refl _ _).alloc (Nat.le_refl _) _), Blk.alloc wi _ _⟩
      clear HI y0 y1 y2 y3
      generalize (wi.alloc (.cells #[.string x.f0, .int .i64 x.f1, .int .i64 x.f2, .int .i64 x.f3] 49)) = wb at *
      generalize wi.heap.size = n9 at *
      go_loopg [7] s.length (fun q v wz => ∃ (s' : List (Nat × Int × Int)), q = s'.length ∧ Hid (NW w wz xs k v s' ∧ Blk wz n9 49 [.string x.f0, .int .i64 x.f1, .int .i64 x.f2, .int .i64 x.f3]))
      case atStart => exact ⟨s, rfl, HB.out⟩
      case round =>
        clear HB
        rename World => wz
        obtain ⟨s', rfl, HZ⟩ := hrel
        obtain ⟨g, cap, e, hi, lo, r, rfl, rfl, hg, hcap⟩ := HZ.out.1.slice
        obtain ⟨d0, d1, d2, f2⟩ := HZ.out.1.cells
        have hge : k ≤ e := HZ.out.1.opn.ge
        have hfw : r.length ≤ k := by have := HZ.out.1.few; simp at this; omega
        have hcap' : (r.length : Int) ≤ (cap : Int) := by omega
        by_cases he : e = k
        · subst he
          have HZ2 := Lib.hid (And.intro (HZ.out.1.pop hlt) HZ.out.2)
          clear HZ d1 d2 f2 hge
          go_wp2
          go_roundg r.length
          case measure => simp
          case rel => exact ⟨r, rfl, HZ2.out⟩
        · have hlt2 : k < e := by omega
          have hlt2' : ¬ ((e : Int) ≤ (k : Int)) := by omega
          obtain ⟨x', m, kk, hx', hEn, hOwn, h1, h2, h3, h4, hOpen⟩ := HZ.out.1.opn.node hlt2
          obtain rfl : x = x' := Option.some.inj (HXK.out.symm.trans hx')
          have z0 : wz.cell? ⟨n9, 0, none⟩ = some (.string x.f0) := HZ.out.2.cell 0
          have z1 : wz.cell? ⟨n9, 1, none⟩ = some (.int .i64 x.f1) := HZ.out.2.cell 1
          have z2 : wz.cell? ⟨n9, 2, none⟩ = some (.int .i64 x.f2) := HZ.out.2.cell 2
          have HM : Hid (L.getD k 0 = (m : Int)) := HT.out.2 k m (Nat.zero_le _) hlt hEn
          have HO := Lib.hid hOpen
          have hlk : k < L.length := by rw [HLN.out]; exact hlt
          have HOW := Lib.hid hOwn
          clear hx' hEn hOpen hOwn h4
          have t1 : ¬ (x.f1 < lo) := by omega
          have t2 : ¬ (x.f2 < x.f1) := by omega
          have t3 : ¬ (hi < x.f2) := by omega
          have t1' : decide (x.f1 < lo) = false := decide_eq_false t1
          have t2' : decide (x.f2 < x.f1) = false := decide_eq_false t2
          have t3' : decide (hi < x.f2) = false := decide_eq_false t3
          clear t1 t2 t3 h1 h2 h3
          go_upto_region 8 with fail
          go_quiet ((go_at_call 33; exact (Calls.quiet_of ((forest_own.calls 70 x.f0 true _ (ownF_f x.f0 HOW.out)).mono fun _ _ ⟨he, hd⟩ => ⟨he, hd.out⟩))))
          go_wp2
          have HE : ∀ wy : World, wy = (wz.drewN nq).setCell ⟨g, r.length * 3 + 2, none⟩ (.int .i64 x.f2) → Hid (Below w.heap.size w wy ∧ wy.ownsRow w.heap.size 81 3 (.slice (some ⟨g, 0, none⟩) (r.length + 1) cap) (r.length + 1) (rooms ((e, hi, x.f2) :: r)) ∧ Blk wy n9 49 [.string x.f0, .int .i64 x.f1, .int .i64 x.f2, .int .i64 x.f3]) := by
            rintro wy rfl
            have hown : (wz.drewN nq).ownsRow w.heap.size 81 3 (.slice (some ⟨g, 0, none⟩) (r.length + 1) cap) (r.length + 1) (rooms ((e, hi, lo) :: r)) := HZ.out.1.own
            have hst := hown.stored (r.length * 3 + 2) (.int .i64 x.f2)
            rw [rooms_set] at hst
            have hb : Blk (wz.drewN nq) n9 49 [.string x.f0, .int .i64 x.f1, .int .i64 x.f2, .int .i64 x.f3] := HZ.out.2
            have hne : (Value.slice (some ⟨g, 0, none⟩) (r.length + 1) cap).ownBlock ≠ some n9 := own_other hown hb (by decide)
            exact ⟨Below.setCell (show Below w.heap.size w (wz.drewN nq) from below_drewN HZ.out.1.bel _) hg _, hst.1, hb.grown hst.2 (by intro q; exact hne q.symm)⟩
          obtain ⟨wy, hwy⟩ : ∃ wy, wy = (wz.drewN nq).setCell ⟨g, r.length * 3 + 2, none⟩ (.int .i64 x.f2) := ⟨_, rfl⟩
          have HY := HE _ hwy
          rw [← hwy]
          clear hwy HE
          obtain ⟨la, eL, cl⟩ := Kd.at_int (Kd.C_below HL.out HY.out.1) (k : Int) (by omega) (by omega)
          subst eL
          rw [Int.toNat_natCast, rd_at, HM.out] at cl
          have CL := Lib.hid cl
          clear cl d0 d1 d2 f2 z0 z1 z2 t1' t2' t3'
          refine N11.wp wy _ la L.length c2 k (m : Int) n9 x.f1 x.f2 w.heap.size (r.length + 1) (rooms ((e, hi, x.f2) :: r)) HY.out.2.1 (by omega) HY.out.1.size hlk CL.out (HY.out.2.2.cell 1) (HY.out.2.2.cell 2) _ _ rfl rfl rfl rfl rfl ?_
          intro f w5 wa hba hap hown
          have HZ5 : Hid (NW w w5 xs (k + 1) (f 7) ((m, x.f2, x.f1) :: (e, hi, x.f2) :: r)) := by
            have hbw := HY.out.1.trans (hba.mono HY.out.1.size)
            refine ⟨hbw.grown hap.grown hbw.size (fun q hq => ?_), hown, HO.out, ?_⟩
            · simp only [Value.ownBlock, Option.some.injEq] at hq
              omega
            · have := HZ.out.1.few
              simp at this ⊢
              omega
          clear hap hown hba HY HZ CL
          simp only [Act.puts, Act.put, List.setIfInBounds_toArray, List.set_cons_zero, List.set_cons_succ]
          generalize f 7 = v7 at *
          have hkw : wrap64 ((k : Int) + 1) = ((k + 1 : Nat) : Int) := by rw [IntWalk.wrap64_in _ (by omega)]; rfl
          go_wp2
          go_roundg (xs.length - (k + 1))
          case measure => omega
          case rel => exact ⟨k + 1, _, by omega, by first | rfl | rw [hkw], HZ5.out⟩
    · go_wp2
      go_ret
      exact ⟨rfl, HI.out.bel⟩
end Go.Proofs.YtmpkkphohilkoaaDoor.B
/- forest.Check, walked, of a forest that is right; moved. -/
namespace Go.Proofs.YtmpkkphohilkoaaDoor.B
open Go Go.RowKit Go.X Go.Ma Go.Proofs.YtmpkkphohilkoaaDoorW.PrintWords Go.Proofs.YtmpkkphohilkoaaDoor.F

set_option maxRecDepth 100000 in
set_option maxHeartbeats 4000000 in
theorem fcheck.calls (A : Option Addr) (c : Nat) (xs : List S49) (size : Int) (t : Nat) (w : World) (hr : Kd.C k49 w A xs.length xs) (hc : xs.length ≤ c) (hs : Sp xs t 0 xs.length 0 size) (hn : xs.length ≤ 1048576) (hz : 0 ≤ size ∧ size ≤ 65536) :
    Calls Tryd.prog 14 #[.slice A xs.length c, .int .i64 size] w fun e w' => e = .returned (.int .i64 0) ∧ Below w.heap.size w w' := by
  have HR := Lib.hid hr; clear hr
  have HC := Lib.hid hc; clear hc
  have HS := Lib.hid hs; clear hs
  obtain ⟨z0, z1⟩ := hz
  obtain ⟨K1, L, e1, hT⟩ := ends_f HS.out (by omega)
  obtain ⟨K2, R, e2⟩ := roots_f hT (by omega) HS.out
  have E1 := Lib.hid e1; have E2 := Lib.hid e2; have HT := Lib.hid hT
  clear e1 e2 hT
  go_enter Tryd.func14, Tryd.ntmps14
  go_wp2_with (fail)
  refine (forest_ends.calls K1 A c xs L w HR.out HC.out E1.out).mono ?_
  rintro e w1 ⟨v, rfl, hv, hb1⟩
  obtain ⟨A2, c2, rfl, hc2, hL⟩ := Kd.R_reads hv
  have HL := Lib.hid hL
  have HC2 := Lib.hid hc2
  have HB1 := Lib.hid hb1
  clear hv hL hc2 hb1
  dsimp only
  go_wp2_with (fail)
  refine (forest_roots.calls K2 A2 c2 L R true w1 HL.out HC2.out E2.out).mono ?_
  rintro e w2 ⟨v, rfl, hv, hb2⟩
  obtain ⟨A3, c3, rfl, hc3, _⟩ := Kd.R_reads hv
  have HB2 := Lib.hid hb2
  clear hv hb2 hc3
  dsimp only
  go_wp2_with (fail)
  refine (nested.calls A A2 c c2 xs L size t w2 (Kd.C_below HR.out (HB1.out.trans (HB2.out.mono HB1.out.size))) (Kd.C_below HL.out HB2.out) HT.out HS.out (by omega)).mono ?_
  rintro e w3 ⟨rfl, hb3⟩
  have HB3 := Lib.hid (HB1.out.trans (HB2.out.mono HB1.out.size) |>.trans (hb3.mono (Nat.le_trans HB1.out.size HB2.out.size)))
  clear hb3
  dsimp only
  go_wp2
  go_ret
  exact ⟨rfl, HB3.out⟩

structure MV (w wr : World) (n : Nat) (F : List Cap) (b2 b4 b5 : Nat) (k : Int) (en en' : Nat) (lb : ByteArray) (A : Option Addr) (c : Nat) (v : Value) (i : Nat) : Prop where
  bel : Below w.heap.size w wr
  l4 : w.heap.size ≤ b4
  l5 : w.heap.size ≤ b5
  x2 : Blk wr b2 31 [.int .i64 k, .int .i64 (en : Nat), .string lb, .slice A F.length c]
  x4 : Blk wr b4 31 [.int .i64 0, .int .i64 0, .string ⟨#[]⟩, .slice none 0 0]
  x5 : Blk wr b5 31 [.int .i64 k, .int .i64 (en' : Nat), .string lb, v]
  n25 : b5 ≠ b2 ∧ b5 ≠ b4
  own : OwnF wr w.heap.size v ((F.map (shC n)).take i)
theorem info49 : (Tryd.prog.info? 49).map (fun i => (i.zero, i.size, i.bytes)) = some (some (.agg #[.string ⟨#[]⟩, .int .i64 0, .int .i64 0, .int .i64 0]), 4, 40) := by kernel_rfl
theorem MV.step {w wr wa w' : World} {n : Nat} {F : List Cap} {b2 b4 b5 : Nat} {k : Int} {en en' : Nat} {lb : ByteArray} {A : Option Addr} {c : Nat} {v v' : Value} {i : Nat} (h : MV w wr n F b2 b4 b5 k en en' lb A c v i) (hi : i < F.length)
    (hb : Below wr.heap.size wr wa) (ho : w'.ownsRow w.heap.size 49 4 v' (i + 1) (capsOf ((F.map (shC n)).take i) ++ capCells (shC n F[i]))) (ha : Appended wa w' 49 4 v v' i) :
    Blk w' b5 31 [.int .i64 k, .int .i64 (en' : Nat), .string lb, v] ∧ MV w (w'.setCell ⟨b5, 3, none⟩ v') n F b2 b4 b5 k en en' lb A c v' (i + 1) := by
  have hva : OwnF wa w.heap.size v ((F.map (shC n)).take i) := h.own.more (Go.X.grown_of_below hb none)
  have keep : ∀ {b cs}, Blk wr b 31 cs → Blk w' b 31 cs := fun hx => by
    have h1 := hx.below hb hx.lt
    exact h1.grown ha.grown (fun e => own_other hva h1 (by decide) e.symm)
  have x5 := keep h.x5
  have hbw : Below w.heap.size w wa := h.bel.trans (hb.mono h.bel.size)
  have hbw' : Below w.heap.size w w' := hbw.grown ha.grown hbw.size (fun q hq => (World.ownsRow.lt hva q hq).1)
  have ho' : OwnF w' w.heap.size v' ((F.map (shC n)).take (i + 1)) := by
    have e : (F.map (shC n)).take (i + 1) = (F.map (shC n)).take i ++ [shC n F[i]] := by rw [List.take_succ_eq_append_getElem (by simpa using hi), List.getElem_map]
    have hl : ((F.map (shC n)).take i).length = i := by simp; omega
    unfold OwnF
    rw [e, caps_app, List.length_append, hl]
    simpa [capsOf] using ho
  refine ⟨x5, hbw'.setCell h.l5 _, h.l4, h.l5, (keep h.x2).grown (grown_setCell _ _ _) (by intro e; injection e with e; exact h.n25.1 e.symm), (keep h.x4).grown (grown_setCell _ _ _) (by intro e; injection e with e; exact h.n25.2 e.symm), x5.setCell 3 v', h.n25, ho'.kept (grown_setCell _ _ _) x5 (by decide)⟩
set_option maxRecDepth 100000 in
set_option maxHeartbeats 4000000 in
theorem moved.calls (A : Option Addr) (c : Nat) (k : Int) (en : Nat) (lb : ByteArray) (F : List Cap) (n : Nat) (b0 : Nat) (w : World) (hF : OwnF w b0 (.slice A F.length c) F) (hm : F.length ≤ 1048576) (hen : en ≤ 1048576) (hn : n ≤ 1048576) (hpl : ∀ c ∈ F, 0 ≤ c.fr ∧ c.fr ≤ 1048576 ∧ 0 ≤ c.to ∧ c.to ≤ 1048576) :
    Calls Tryd.prog 13 #[.agg #[.int .i64 k, .int .i64 (en : Nat), .string lb, .slice A F.length c], .int .i64 (n : Nat)] w fun e w' => ∃ v, e = .returned (.agg #[.int .i64 k, .int .i64 ((if k = 0 then en else en + n : Nat) : Int), .string lb, v]) ∧ OwnF w' w.heap.size v (F.map (shC n)) ∧ Below w.heap.size w w' := by
  have HF := Lib.hid hF; clear hF
  have HP := Lib.hid hpl; clear hpl
  obtain ⟨en', hen'⟩ : ∃ en', en' = if k = 0 then en else en + n := ⟨_, rfl⟩
  rw [← hen']
  have HEN := Lib.hid hen'; clear hen'
  have H0 : Hid (∀ en', MV w (((w.alloc (.cells #[.int .i64 k, .int .i64 (en : Nat), .string lb, .slice A F.length c] 31)).alloc (.cells #[.int .i64 0, .int .i64 0, .string ⟨#[]⟩, .slice none 0 0] 31)).alloc (.cells #[.int .i64 k, .int .i64 ((en' : Nat) : Int), .string lb, .slice none 0 0] 31)) n F w.heap.size (w.heap.size + 1) (w.heap.size + 1 + 1) k en en' lb A c (.slice none 0 0) 0) := by
    intro en'
    have a1 := Blk.alloc w #[.int .i64 k, .int .i64 (en : Nat), .string lb, .slice A F.length c] 31
    have a2 := Blk.alloc (w.alloc (.cells #[.int .i64 k, .int .i64 (en : Nat), .string lb, .slice A F.length c] 31)) #[.int .i64 0, .int .i64 0, .string ⟨#[]⟩, .slice none 0 0] 31
    have a3 := Blk.alloc ((w.alloc (.cells #[.int .i64 k, .int .i64 (en : Nat), .string lb, .slice A F.length c] 31)).alloc (.cells #[.int .i64 0, .int .i64 0, .string ⟨#[]⟩, .slice none 0 0] 31)) #[.int .i64 k, .int .i64 ((en' : Nat) : Int), .string lb, .slice none 0 0] 31
    simp only [World.size_alloc] at a2 a3
    refine ⟨(((Below.refl _ _).alloc (Nat.le_refl _) _).alloc (by simp) _).alloc (by simp; omega) _, by omega, by omega, (a1.grown (World.grownBy_alloc _ _ none) (by simp)).grown (World.grownBy_alloc _ _ none) (by simp), a2.grown (World.grownBy_alloc _ _ none) (by simp), a3, ⟨by omega, by omega⟩, OwnF.nil _ _⟩
  have H1 : Hid (MV w (((w.alloc (.cells #[.int .i64 k, .int .i64 (en : Nat), .string lb, .slice A F.length c] 31)).alloc (.cells #[.int .i64 0, .int .i64 0, .string ⟨#[]⟩, .slice none 0 0] 31)).alloc (.cells #[.int .i64 k, .int .i64 ((en : Int) + (n : Int)), .string lb, .slice none 0 0] 31)) n F w.heap.size (w.heap.size + 1) (w.heap.size + 1 + 1) k en (en + n) lb A c (.slice none 0 0) 0) := by
    have := H0.out (en + n)
    rwa [show ((en + n : Nat) : Int) = (en : Int) + (n : Int) by omega] at this
  go_enter Tryd.func13, Tryd.ntmps13
  by_cases hk : k = 0
  · have hk2 : (k != 0) = false := by simp [hk]
    obtain rfl : en' = en := by rw [HEN.out, if_pos hk]
    have HM0 := Lib.hid (H0.out en')
    clear H0 H1 HEN hk
    go_wp2
    generalize World.alloc _ (Obj.cells #[_, _, _, Value.slice none 0 0] 31) = w3 at *
    generalize w.heap.size + 1 + 1 = b5 at *
    generalize w.heap.size + 1 = b4 at *
    go_loopg [6] F.length (fun q iv wi => ∃ (v : Value) (i : Nat), q + i = F.length ∧ iv = .int .i64 (i : Nat) ∧ Hid (MV w wi n F w.heap.size b4 b5 k en' en' lb A c v i))
    case atStart => exact ⟨_, 0, by simp, rfl, HM0.out⟩
    case round =>
      clear HM0
      rename World => wi
      obtain ⟨v, i, hi, rfl, HI⟩ := hrel
      have y3 : wi.cell? ⟨w.heap.size, 3, none⟩ = some (.slice A F.length c) := HI.out.x2.cell 3
      by_cases hlt : i < F.length
      · obtain ⟨ad, eA, z0, z1, z2, z3⟩ := at_T49 (Kd.C_below (caps_C HF.out (by omega)) HI.out.bel) (i : Int) (by omega) (by simp; omega)
        subst eA
        have er : rd_T49 (F.map toS) (i : Int) = toS F[i] := rdT (by simp [hlt])
        rw [er, Int.toNat_natCast] at z0 z1 z2 z3
        clear er
        have hp := HP.out F[i] (List.getElem_mem hlt)
        obtain ⟨hp1, hp2, hp3, hp4⟩ := hp
        obtain ⟨x, hx⟩ : ∃ x, F[i] = x := ⟨_, rfl⟩
        rw [hx] at z0 z1 z2 z3 hp1 hp2 hp3 hp4
        have HX := Lib.hid hx; clear hx
        simp only [toS] at z0 z1 z2 z3
        have x53 : wi.cell? ⟨b5, 3, none⟩ = some v := HI.out.x5.cell 3
        have HWB : ∀ wa : World, wa = wi.alloc (.cells #[.string x.nm, .int .i64 (x.fr + (n : Int)), .int .i64 (x.to + (n : Int)), .int .i64 x.kids] 49) → Hid (Below wi.heap.size wi wa ∧ OwnF wa w.heap.size v ((F.map (shC n)).take i) ∧ wa.heap.size = wi.heap.size + 1 ∧ w.heap.size ≤ wa.heap.size) := by
          rintro wa rfl
          exact ⟨(Below.refl _ _).alloc (Nat.le_refl _) _, HI.out.own.more (World.grownBy_alloc _ _ none), World.size_alloc _ _, by simp; exact Nat.le_succ_of_le HI.out.bel.size⟩
        go_upto_region 11 with fail
        obtain ⟨wa, hwa⟩ : ∃ wa : World, wa = wi.alloc (.cells #[.string x.nm, .int .i64 (x.fr + (n : Int)), .int .i64 (x.to + (n : Int)), .int .i64 x.kids] 49) := ⟨_, rfl⟩
        have HA := HWB _ hwa
        have q0 : wa.cell? ⟨wi.heap.size, 0, none⟩ = some (.string x.nm) := by rw [hwa]; exact (Blk.alloc wi _ _).cell 0
        have q1 : wa.cell? ⟨wi.heap.size, 1, none⟩ = some (.int .i64 (x.fr + (n : Int))) := by rw [hwa]; exact (Blk.alloc wi _ _).cell 1
        have q2 : wa.cell? ⟨wi.heap.size, 2, none⟩ = some (.int .i64 (x.to + (n : Int))) := by rw [hwa]; exact (Blk.alloc wi _ _).cell 2
        have q3 : wa.cell? ⟨wi.heap.size, 3, none⟩ = some (.int .i64 x.kids) := by rw [hwa]; exact (Blk.alloc wi _ _).cell 3
        have p53 : wa.cell? ⟨b5, 3, none⟩ = some v := below_at HA.out.1 x53
        rw [← hwa]
        clear hwa HWB x53 z0 z1 z2 z3 y3
        have HLEN : Hid (((F.map (shC n)).take i).length = i) := by show _ = _; simp; omega
        have HOWN : Hid (wa.ownsRow w.heap.size 49 4 v i (capsOf ((F.map (shC n)).take i))) := by
          have := HA.out.2.1
          unfold OwnF at this
          rwa [HLEN.out] at this
        have HN : Hid (wa.heap.size = wa.heap.size) := rfl
        go_wp2_with (first
          | (at_builtin; refine X.append1 rfl (.tmp 41) (.tmp 43) 29 49 rfl w.heap.size _ 4 40 Tryd.underlying29 info49 rfl _ i (capsOf ((F.map (shC n)).take i)) rfl HOWN.out [.string x.nm, .int .i64 (x.fr + (n : Int)), .int .i64 (x.to + (n : Int)), .int .i64 x.kids] rfl rfl ?_ ?_ ?_ ?_ ?_)
          | fail)
        · first | exact ⟨rfl, rfl, rfl, rfl⟩ | (intro u hu; simp at hu; rcases hu with rfl | rfl | rfl | rfl <;> rfl)
        · simp only [maxLen]; omega
        · omega
        · exact HA.out.2.2.2
        · intro v' w5 hown hap
          obtain ⟨A', c', rfl⟩ := Go.X.own_slice hown
          have hs := HI.out.step hlt (HA.out.1.trans (((Below.refl _ wa).alloc (Nat.le_refl _) _).mono HA.out.1.size)) (by rw [HX.out]; exact hown) hap
          have x5 := hs.1
          have HS := Lib.hid hs.2
          have c53 : w5.cell? ⟨b5, 3, none⟩ = some v := x5.cell 3
          have f53 : w5.frozen? ⟨b5, 3, none⟩ = false := x5.frozen 3
          have HX5 := Lib.hid x5
          clear hs hown hap x5 q0 q1 q2 q3 p53
          have hkw : wrap64 ((i : Int) + 1) = ((i + 1 : Nat) : Int) := by rw [IntWalk.wrap64_in _ (by omega)]; rfl
          go_wp2
          go_roundg (F.length - (i + 1))
          case measure => omega
          case rel => exact ⟨_, i + 1, by omega, by first | rfl | rw [hkw], HS.out⟩
      · have hfin : i = F.length := by omega
        obtain ⟨A', c', rfl⟩ := Go.X.own_slice HI.out.own
        have HO : Hid (OwnF wi w.heap.size (.slice A' (((F.map (shC n)).take i).length) c') (F.map (shC n))) := by
          have := HI.out.own
          have hto : (F.map (shC n)).take i = F.map (shC n) := List.take_of_length_le (by simp; omega)
          rw [hto] at this ⊢
          exact this
        generalize ((F.map (shC n)).take i).length = nn at *
        have c50 : wi.cell? ⟨b5, 0, none⟩ = some (.int .i64 k) := HI.out.x5.cell 0
        have c51 : wi.cell? ⟨b5, 1, none⟩ = some (.int .i64 ((en' : Nat) : Int)) := HI.out.x5.cell 1
        have c52 : wi.cell? ⟨b5, 2, none⟩ = some (.string lb) := HI.out.x5.cell 2
        have c53 : wi.cell? ⟨b5, 3, none⟩ = some (.slice A' nn c') := HI.out.x5.cell 3
        have c40 : wi.cell? ⟨b4, 0, none⟩ = some (.int .i64 0) := HI.out.x4.cell 0
        have c41 : wi.cell? ⟨b4, 1, none⟩ = some (.int .i64 0) := HI.out.x4.cell 1
        have c42 : wi.cell? ⟨b4, 2, none⟩ = some (.string ⟨#[]⟩) := HI.out.x4.cell 2
        have c43 : wi.cell? ⟨b4, 3, none⟩ = some (.slice none 0 0) := HI.out.x4.cell 3
        have g40 : wi.frozen? ⟨b4, 0, none⟩ = false := HI.out.x4.frozen 0
        have g41 : wi.frozen? ⟨b4, 1, none⟩ = false := HI.out.x4.frozen 1
        have g42 : wi.frozen? ⟨b4, 2, none⟩ = false := HI.out.x4.frozen 2
        have g43 : wi.frozen? ⟨b4, 3, none⟩ = false := HI.out.x4.frozen 3
        have hd : decide (i < F.length) = false := decide_eq_false hlt
        clear hfin hi
        go_wp2
        have HB4 : Blk ((((wi.setCell ⟨b4, 0, none⟩ (.int .i64 k)).setCell ⟨b4, 1, none⟩ (.int .i64 ((en' : Nat) : Int))).setCell ⟨b4, 2, none⟩ (.string lb)).setCell ⟨b4, 3, none⟩ (.slice A' nn c')) b4 31 [.int .i64 k, .int .i64 ((en' : Nat) : Int), .string lb, (.slice A' nn c')] := (((HI.out.x4.setCell 0 _).setCell 1 _).setCell 2 _).setCell 3 _
        have r0 := HB4.cell 0
        have r1 := HB4.cell 1
        have r2 := HB4.cell 2
        have r3 := HB4.cell 3
        refine bodyPost_ret (v := .agg #[.int .i64 k, .int .i64 ((en' : Nat) : Int), .string lb, (.slice A' nn c')]) (by simp [results, Tryd.results13, go_sem, r0, r1, r2, r3]) rfl ?_
        refine ⟨_, rfl, ?_, ?_⟩
        · exact (((HO.out.kept (grown_setCell _ _ _) HI.out.x4 (by decide)).kept (grown_setCell _ _ _) (HI.out.x4.setCell 0 _) (by decide)).kept (grown_setCell _ _ _) ((HI.out.x4.setCell 0 _).setCell 1 _) (by decide)).kept (grown_setCell _ _ _) (((HI.out.x4.setCell 0 _).setCell 1 _).setCell 2 _) (by decide)
        · exact (((HI.out.bel.setCell HI.out.l4 _).setCell HI.out.l4 _).setCell HI.out.l4 _).setCell HI.out.l4 _
  · have hk2 : (k != 0) = true := by simp [hk]
    obtain rfl : en' = en + n := by rw [HEN.out, if_neg hk]
    have HM0 := H1
    clear H0 H1 HEN hk
    go_wp2
    generalize World.alloc _ (Obj.cells #[_, _, _, Value.slice none 0 0] 31) = w3 at *
    generalize w.heap.size + 1 + 1 = b5 at *
    generalize w.heap.size + 1 = b4 at *
    go_loopg [6] F.length (fun q iv wi => ∃ (v : Value) (i : Nat), q + i = F.length ∧ iv = .int .i64 (i : Nat) ∧ Hid (MV w wi n F w.heap.size b4 b5 k en (en + n) lb A c v i))
    case atStart => exact ⟨_, 0, by simp, rfl, HM0.out⟩
    case round =>
      clear HM0
      rename World => wi
      obtain ⟨v, i, hi, rfl, HI⟩ := hrel
      have y3 : wi.cell? ⟨w.heap.size, 3, none⟩ = some (.slice A F.length c) := HI.out.x2.cell 3
      by_cases hlt : i < F.length
      · obtain ⟨ad, eA, z0, z1, z2, z3⟩ := at_T49 (Kd.C_below (caps_C HF.out (by omega)) HI.out.bel) (i : Int) (by omega) (by simp; omega)
        subst eA
        have er : rd_T49 (F.map toS) (i : Int) = toS F[i] := rdT (by simp [hlt])
        rw [er, Int.toNat_natCast] at z0 z1 z2 z3
        clear er
        have hp := HP.out F[i] (List.getElem_mem hlt)
        obtain ⟨hp1, hp2, hp3, hp4⟩ := hp
        obtain ⟨x, hx⟩ : ∃ x, F[i] = x := ⟨_, rfl⟩
        rw [hx] at z0 z1 z2 z3 hp1 hp2 hp3 hp4
        have HX := Lib.hid hx; clear hx
        simp only [toS] at z0 z1 z2 z3
        have x53 : wi.cell? ⟨b5, 3, none⟩ = some v := HI.out.x5.cell 3
        have HWB : ∀ wa : World, wa = wi.alloc (.cells #[.string x.nm, .int .i64 (x.fr + (n : Int)), .int .i64 (x.to + (n : Int)), .int .i64 x.kids] 49) → Hid (Below wi.heap.size wi wa ∧ OwnF wa w.heap.size v ((F.map (shC n)).take i) ∧ wa.heap.size = wi.heap.size + 1 ∧ w.heap.size ≤ wa.heap.size) := by
          rintro wa rfl
          exact ⟨(Below.refl _ _).alloc (Nat.le_refl _) _, HI.out.own.more (World.grownBy_alloc _ _ none), World.size_alloc _ _, by simp; exact Nat.le_succ_of_le HI.out.bel.size⟩
        go_upto_region 11 with fail
        obtain ⟨wa, hwa⟩ : ∃ wa : World, wa = wi.alloc (.cells #[.string x.nm, .int .i64 (x.fr + (n : Int)), .int .i64 (x.to + (n : Int)), .int .i64 x.kids] 49) := ⟨_, rfl⟩
        have HA := HWB _ hwa
        have q0 : wa.cell? ⟨wi.heap.size, 0, none⟩ = some (.string x.nm) := by rw [hwa]; exact (Blk.alloc wi _ _).cell 0
        have q1 : wa.cell? ⟨wi.heap.size, 1, none⟩ = some (.int .i64 (x.fr + (n : Int))) := by rw [hwa]; exact (Blk.alloc wi _ _).cell 1
        have q2 : wa.cell? ⟨wi.heap.size, 2, none⟩ = some (.int .i64 (x.to + (n : Int))) := by rw [hwa]; exact (Blk.alloc wi _ _).cell 2
        have q3 : wa.cell? ⟨wi.heap.size, 3, none⟩ = some (.int .i64 x.kids) := by rw [hwa]; exact (Blk.alloc wi _ _).cell 3
        have p53 : wa.cell? ⟨b5, 3, none⟩ = some v := below_at HA.out.1 x53
        rw [← hwa]
        clear hwa HWB x53 z0 z1 z2 z3 y3
        have HLEN : Hid (((F.map (shC n)).take i).length = i) := by show _ = _; simp; omega
        have HOWN : Hid (wa.ownsRow w.heap.size 49 4 v i (capsOf ((F.map (shC n)).take i))) := by
          have := HA.out.2.1
          unfold OwnF at this
          rwa [HLEN.out] at this
        have HN : Hid (wa.heap.size = wa.heap.size) := rfl
        go_wp2_with (first
          | (at_builtin; refine X.append1 rfl (.tmp 41) (.tmp 43) 29 49 rfl w.heap.size _ 4 40 Tryd.underlying29 info49 rfl _ i (capsOf ((F.map (shC n)).take i)) rfl HOWN.out [.string x.nm, .int .i64 (x.fr + (n : Int)), .int .i64 (x.to + (n : Int)), .int .i64 x.kids] rfl rfl ?_ ?_ ?_ ?_ ?_)
          | fail)
        · first | exact ⟨rfl, rfl, rfl, rfl⟩ | (intro u hu; simp at hu; rcases hu with rfl | rfl | rfl | rfl <;> rfl)
        · simp only [maxLen]; omega
        · omega
        · exact HA.out.2.2.2
        · intro v' w5 hown hap
          obtain ⟨A', c', rfl⟩ := Go.X.own_slice hown
          have hs := HI.out.step hlt (HA.out.1.trans (((Below.refl _ wa).alloc (Nat.le_refl _) _).mono HA.out.1.size)) (by rw [HX.out]; exact hown) hap
          have x5 := hs.1
          have HS := Lib.hid hs.2
          have c53 : w5.cell? ⟨b5, 3, none⟩ = some v := x5.cell 3
          have f53 : w5.frozen? ⟨b5, 3, none⟩ = false := x5.frozen 3
          have HX5 := Lib.hid x5
          clear hs hown hap x5 q0 q1 q2 q3 p53
          have hkw : wrap64 ((i : Int) + 1) = ((i + 1 : Nat) : Int) := by rw [IntWalk.wrap64_in _ (by omega)]; rfl
          go_wp2
          go_roundg (F.length - (i + 1))
          case measure => omega
          case rel => exact ⟨_, i + 1, by omega, by first | rfl | rw [hkw], HS.out⟩
      · have hfin : i = F.length := by omega
        obtain ⟨A', c', rfl⟩ := Go.X.own_slice HI.out.own
        have HO : Hid (OwnF wi w.heap.size (.slice A' (((F.map (shC n)).take i).length) c') (F.map (shC n))) := by
          have := HI.out.own
          have hto : (F.map (shC n)).take i = F.map (shC n) := List.take_of_length_le (by simp; omega)
          rw [hto] at this ⊢
          exact this
        generalize ((F.map (shC n)).take i).length = nn at *
        have c50 : wi.cell? ⟨b5, 0, none⟩ = some (.int .i64 k) := HI.out.x5.cell 0
        have c51 : wi.cell? ⟨b5, 1, none⟩ = some (.int .i64 ((en + n : Nat) : Int)) := HI.out.x5.cell 1
        have c52 : wi.cell? ⟨b5, 2, none⟩ = some (.string lb) := HI.out.x5.cell 2
        have c53 : wi.cell? ⟨b5, 3, none⟩ = some (.slice A' nn c') := HI.out.x5.cell 3
        have c40 : wi.cell? ⟨b4, 0, none⟩ = some (.int .i64 0) := HI.out.x4.cell 0
        have c41 : wi.cell? ⟨b4, 1, none⟩ = some (.int .i64 0) := HI.out.x4.cell 1
        have c42 : wi.cell? ⟨b4, 2, none⟩ = some (.string ⟨#[]⟩) := HI.out.x4.cell 2
        have c43 : wi.cell? ⟨b4, 3, none⟩ = some (.slice none 0 0) := HI.out.x4.cell 3
        have g40 : wi.frozen? ⟨b4, 0, none⟩ = false := HI.out.x4.frozen 0
        have g41 : wi.frozen? ⟨b4, 1, none⟩ = false := HI.out.x4.frozen 1
        have g42 : wi.frozen? ⟨b4, 2, none⟩ = false := HI.out.x4.frozen 2
        have g43 : wi.frozen? ⟨b4, 3, none⟩ = false := HI.out.x4.frozen 3
        have hd : decide (i < F.length) = false := decide_eq_false hlt
        clear hfin hi
        go_wp2
        have HB4 : Blk ((((wi.setCell ⟨b4, 0, none⟩ (.int .i64 k)).setCell ⟨b4, 1, none⟩ (.int .i64 ((en : Int) + (n : Int)))).setCell ⟨b4, 2, none⟩ (.string lb)).setCell ⟨b4, 3, none⟩ (.slice A' nn c')) b4 31 [.int .i64 k, .int .i64 ((en : Int) + (n : Int)), .string lb, (.slice A' nn c')] := (((HI.out.x4.setCell 0 _).setCell 1 _).setCell 2 _).setCell 3 _
        have r0 := HB4.cell 0
        have r1 := HB4.cell 1
        have r2 := HB4.cell 2
        have r3 := HB4.cell 3
        refine bodyPost_ret (v := .agg #[.int .i64 k, .int .i64 ((en : Int) + (n : Int)), .string lb, (.slice A' nn c')]) (by simp [results, Tryd.results13, go_sem, r0, r1, r2, r3]) rfl ?_
        refine ⟨_, rfl, ?_, ?_⟩
        · exact (((HO.out.kept (grown_setCell _ _ _) HI.out.x4 (by decide)).kept (grown_setCell _ _ _) (HI.out.x4.setCell 0 _) (by decide)).kept (grown_setCell _ _ _) ((HI.out.x4.setCell 0 _).setCell 1 _) (by decide)).kept (grown_setCell _ _ _) (((HI.out.x4.setCell 0 _).setCell 1 _).setCell 2 _) (by decide)
        · exact (((HI.out.bel.setCell HI.out.l4 _).setCell HI.out.l4 _).setCell HI.out.l4 _).setCell HI.out.l4 _
end Go.Proofs.YtmpkkphohilkoaaDoor.B
/- Region 12 of the law MatchWithin (printed by wip/gen/genw12.py). -/
namespace Go.Proofs.YtmpkkphohilkoaaDoor.B
open Go Go.RowKit Go.X Go.Ma Go.Proofs.YtmpkkphohilkoaaDoorW.PrintWords Go.Proofs.YtmpkkphohilkoaaDoor.F
structure W12 (wb : World) (X : Res) (A1 A2 : Option Addr) (c1 c2 : Nat) (q1 r1 : Nat) (ahead : ByteArray) (b : Bits) (f : Slots) (w : World) : Prop where
  bel : Below wb.heap.size wb w
  g10 : f 10 = .pointer (some ⟨q1, 0, none⟩)
  g13 : f 13 = .pointer (some ⟨r1, 0, none⟩)
  g3 : f 3 = .string ahead
  p0 : b 0 = true → f 65 = .agg #[.int .i64 X.kind, .int .i64 (X.en : Nat), .string X.label, .slice A1 X.forest.length c1]
  p1 : b 1 = true → f 66 = .string ahead
  p2 : b 2 = true → f 67 = .int .i64 ahead.size
  p3 : b 3 = true → ∃ v, f 68 = .agg #[.int .i64 X.kind, .int .i64 ((if X.kind = 0 then X.en else X.en + ahead.size : Nat) : Int), .string X.label, v] ∧ OwnF w wb.heap.size v (X.forest.map (shC ahead.size))
  p4 : b 4 = true → f 69 = .agg #[.int .i64 X.kind, .int .i64 ((shR ahead.size X).en : Nat), .string X.label, .slice A2 X.forest.length c2]
  p5 : b 5 = true → f 70 = .bool true
  p6 : b 6 = true → f 71 = .bool false
theorem W12.below {wb : World} {X : Res} {A1 A2 : Option Addr} {c1 c2 : Nat} {q1 r1 : Nat} {ahead : ByteArray} {b : Bits} {f : Slots} {w w' : World} (h : W12 wb X A1 A2 c1 c2 q1 r1 ahead b f w) (g : Below w.heap.size w w') : W12 wb X A1 A2 c1 c2 q1 r1 ahead b f w' :=
  { h with
    bel := h.bel.trans (g.mono h.bel.size)
    p3 := fun hb => (h.p3 hb).imp fun _ ⟨e, k⟩ => ⟨e, k.more (Go.X.grown_of_below g none)⟩ }
theorem en_shR (k : Nat) (X : Res) (h : X.kind = 0 → X = .zero) : (if X.kind = 0 then X.en else X.en + k) = (shR k X).en ∧ (X.kind ≠ 0 → (shR k X).forest = X.forest.map (shC k)) ∧ X.forest.map (shC k) = (shR k X).forest := by
  by_cases h0 : X.kind = 0
  · rw [if_pos h0, shR_no h0]; exact ⟨rfl, fun h => absurd h0 h, by rw [h h0]; rfl⟩
  · rw [if_neg h0, shR_yes h0]; exact ⟨rfl, fun _ => rfl, rfl⟩
set_option maxRecDepth 100000 in
theorem W12.wp (wb : World) (X : Res) (A1 A2 : Option Addr) (c1 c2 : Nat) (q1 r1 : Nat) (ahead : ByteArray) (lo1 lo2 : Nat) (hz0 : X.kind = 0 → X = .zero) (hm : X.forest.length ≤ 1048576) (hen : X.en ≤ 1048576) (hah : ahead.size ≤ 1048576) (hpl : ∀ c ∈ X.forest, 0 ≤ c.fr ∧ c.fr ≤ 1048576 ∧ 0 ≤ c.to ∧ c.to ≤ 1048576)
    (x1 : Blk wb q1 31 [.int .i64 X.kind, .int .i64 (X.en : Nat), .string X.label, .slice A1 X.forest.length c1]) (x2 : Blk wb r1 31 [.int .i64 X.kind, .int .i64 ((shR ahead.size X).en : Nat), .string X.label, .slice A2 X.forest.length c2])
    (w1 : OwnF wb lo1 (.slice A1 X.forest.length c1) X.forest) (w2 : OwnF wb lo2 (.slice A2 X.forest.length c2) (X.forest.map (shC ahead.size))) (a : Act) (Q : Exit → Act → World → Prop) (hz : a.tmps.size = 141)
    (s10 : Slots.of a 10 = .pointer (some ⟨q1, 0, none⟩)) (s13 : Slots.of a 13 = .pointer (some ⟨r1, 0, none⟩)) (s3 : Slots.of a 3 = .string ahead)
    (hQ : ∀ (f : Slots) (w' : World), f 71 = .bool false → Below wb.heap.size wb w' → Q .normal (Act.puts a f [65, 66, 67, 68, 69, 70, 71]) w') :
    (Code.region 12 #[{ dst := some 65, op := Go.Op.load 31 (Go.Operand.tmp 10), type := 31, pos := "theorems.go:137", after := #[], guard := none }, { dst := some 66, op := Go.Op.move (Go.Operand.tmp 3), type := 9, pos := "theorems.go:137", after := #[], guard := none }, { dst := some 67, op := Go.Op.call { callee := Go.Callee.builtin Go.Builtin.len, args := #[Go.Operand.tmp 66], argTypes := #[9] }, type := 3, pos := "theorems.go:137", after := #[{ on := 1, ground := Go.Ground.data }], guard := none }, { dst := some 68, op := Go.Op.call { callee := Go.Callee.value (Go.Operand.func 13), args := #[Go.Operand.tmp 65, Go.Operand.tmp 67], argTypes := #[31, 3] }, type := 31, pos := "theorems.go:137", after := #[{ on := 0, ground := Go.Ground.data }, { on := 2, ground := Go.Ground.data }], guard := none }, { dst := some 69, op := Go.Op.load 31 (Go.Operand.tmp 13), type := 31, pos := "theorems.go:137", after := #[], guard := none }, { dst := some 70, op := Go.Op.call { callee := Go.Callee.value (Go.Operand.func 10), args := #[Go.Operand.tmp 68, Go.Operand.tmp 69], argTypes := #[31, 31] }, type := 4, pos := "theorems.go:137", after := #[{ on := 3, ground := Go.Ground.data }, { on := 4, ground := Go.Ground.data }, { on := 3, ground := Go.Ground.chain }], guard := none }, { dst := some 71, op := Go.Op.unOp Go.UnOp.not 4 (Go.Operand.tmp 70), type := 4, pos := "theorems.go:137", after := #[{ on := 5, ground := Go.Ground.data }], guard := none }] true).wp Tryd.prog Q a wb := by
  refine wp_region_slots (fun b f w => W12 wb X A1 A2 c1 c2 q1 r1 ahead b f w) 7 [0, 1, 2, 3, 4, 5, 6] [65, 66, 67, 68, 69, 70, 71] 141 (by kernel_rfl) rfl rfl rfl (by kernel_rfl) (by kernel_rfl) hz (by kernel_rfl) ?_ ?_ ?_
  · exact { bel := Below.drew (Below.refl _ _), g10 := s10, g13 := s13, g3 := s3, p0 := nofun, p1 := nofun, p2 := nofun, p3 := nofun, p4 := nofun, p5 := nofun, p6 := nofun }
  · refine SSteps.cons (i := 0) (ds := []) (js := [3, 5, 6]) rfl (by kernel_rfl) (by kernel_rfl) (fun b f w hb0 hd hj h => ?_) ?_
    · exact Does.loadBlk h.g10 (x1.below h.bel x1.lt) Tryd.underlying31 rfl (by kernel_rfl) { h with p0 := fun _ => rfl }
    refine SSteps.cons (i := 1) (ds := []) (js := [2, 3, 5, 6]) rfl (by kernel_rfl) (by kernel_rfl) (fun b f w hb0 hd hj h => ?_) ?_
    · exact Does.move { h with p1 := fun _ => h.g3 }
    refine SSteps.cons (i := 2) (ds := [1]) (js := [3, 5, 6]) rfl (by kernel_rfl) (by kernel_rfl) (fun b f w hb0 hd hj h => ?_) ?_
    · have d1 : b 1 = true := hd 1 (by decide)
      have q1 := h.p1 d1
      exact Does.lenString Tryd.underlying9 (s := ahead) q1 { h with p2 := fun _ => rfl }
    refine SSteps.cons (i := 3) (ds := [0, 2, 1]) (js := [5, 6]) rfl (by kernel_rfl) (by kernel_rfl) (fun b f w hb0 hd hj h => ?_) ?_
    · have d0 : b 0 = true := hd 0 (by decide); have d2 : b 2 = true := hd 2 (by decide)
      have e0 := h.p0 d0
      have e1 := h.p2 d2
      refine Does.call (args := #[.agg #[.int .i64 X.kind, .int .i64 (X.en : Nat), .string X.label, .slice A1 X.forest.length c1], .int .i64 ahead.size]) (by simp [Slots.eval, e0, e1]) rfl (by kernel_rfl) ?_
      refine (moved.calls A1 c1 X.kind X.en X.label X.forest ahead.size lo1 w (w1.more (Go.X.grown_of_below h.bel none)) hm hen hah hpl).mono ?_
      rintro e w' ⟨v, rfl, hv, hbl⟩
      exact ⟨_, rfl, { (h.below hbl) with p3 := fun _ => ⟨v, rfl, hv.low h.bel.size⟩ }⟩
    refine SSteps.cons (i := 4) (ds := []) (js := [5, 6]) rfl (by kernel_rfl) (by kernel_rfl) (fun b f w hb0 hd hj h => ?_) ?_
    · exact Does.loadBlk h.g13 (x2.below h.bel x2.lt) Tryd.underlying31 rfl (by kernel_rfl) { h with p4 := fun _ => rfl }
    refine SSteps.cons (i := 5) (ds := [3, 4, 0, 2, 1]) (js := [6]) rfl (by kernel_rfl) (by kernel_rfl) (fun b f w hb0 hd hj h => ?_) ?_
    · have d3 : b 3 = true := hd 3 (by decide); have d4 : b 4 = true := hd 4 (by decide)
      obtain ⟨v, e0, hv⟩ := h.p3 d3
      have e1 := h.p4 d4
      obtain ⟨A3, c3, rfl⟩ := Go.X.own_slice hv
      have hl : (X.forest.map (shC ahead.size)).length = X.forest.length := by simp
      rw [(en_shR ahead.size X hz0).1] at e0
      have w2' := w2
      rw [← hl] at e1 w2'
      refine Does.call (args := #[.agg #[.int .i64 X.kind, .int .i64 ((shR ahead.size X).en : Nat), .string X.label, .slice A3 (X.forest.map (shC ahead.size)).length c3], .agg #[.int .i64 X.kind, .int .i64 ((shR ahead.size X).en : Nat), .string X.label, .slice A2 (X.forest.map (shC ahead.size)).length c2]]) (by simp only [List.map_toArray, List.map_cons, List.map_nil, Slots.eval, e0, e1]) rfl (by kernel_rfl) ?_
      refine (outcomes.calls A3 A2 c3 c2 X.kind (shR ahead.size X).en X.label (X.forest.map (shC ahead.size)) _ _ w hv (w2'.more (Go.X.grown_of_below h.bel none)) (by rw [hl]; omega)).mono ?_
      rintro e w' ⟨rfl, hbl⟩
      exact ⟨_, rfl, { (h.below hbl) with p5 := fun _ => rfl }⟩
    refine SSteps.cons (i := 6) (ds := [5, 3, 4, 0, 2, 1]) (js := []) rfl (by kernel_rfl) (by kernel_rfl) (fun b f w hb0 hd hj h => ?_) ?_
    · have d5 : b 5 = true := hd 5 (by decide)
      have e0 := h.p5 d5
      exact Does.run (v := .bool false) (w' := w) (by simp only [execOp]; rw [show f.eval (.tmp 70) = _ from e0]; rfl) { h with p6 := fun _ => rfl }
    exact SSteps.nil
  · intro b f w' hall h _
    exact hQ f w' (h.p6 (hall 6 (by decide))) h.bel
end Go.Proofs.YtmpkkphohilkoaaDoor.B
/- The walk of the law MatchWithin. -/
namespace Go.Proofs.YtmpkkphohilkoaaDoor.B
open Go Go.RowKit Go.X Go.Ma Go.Proofs.YtmpkkphohilkoaaDoorW.PrintWords Go.Proofs.YtmpkkphohilkoaaDoor.F
attribute [local go_sem high] eqA32
/-- The law's box. -/
structure L1 (w wk : World) (Ar : Option Addr) (n c : Nat) (start : Int) : Prop where
  bel : Below w.heap.size w wk
  b0 : Blk wk w.heap.size 24 [.slice Ar n c, .int .i64 start]
theorem L1.start (w : World) (Ar : Option Addr) (n c : Nat) (start : Int) : L1 w (w.alloc (.cells #[.slice Ar n c, .int .i64 start] 24)) Ar n c start :=
  ⟨(Below.refl _ w).alloc (Nat.le_refl _) _, Blk.alloc w _ _⟩
theorem L1.below {w wk w' : World} {Ar : Option Addr} {n c : Nat} {start : Int} (h : L1 w wk Ar n c start) (hb : Below wk.heap.size wk w') : L1 w w' Ar n c start :=
  ⟨h.bel.trans (hb.mono h.bel.size), h.b0.below hb h.b0.lt⟩
theorem label_ne {s : ByteArray} (h : s ≠ ⟨#[]⟩) : s.toList.isEmpty = false := by
  rw [ByteArray.toList_eq]
  cases s with
  | mk d => cases d with
    | mk l => cases l with
      | nil => exact absurd rfl h
      | cons _ _ => rfl
theorem shR_parts (k : Nat) (R : Res) (h : R.kind = 0 → R = .zero) : (shR k R).kind = R.kind ∧ (shR k R).label = R.label ∧ (shR k R).forest = R.forest.map (shC k) ∧ (shR k R).forest.length = R.forest.length := by
  by_cases h0 : R.kind = 0
  · rw [h h0]; exact ⟨rfl, rfl, rfl, rfl⟩
  · rw [shR_yes h0]; exact ⟨rfl, rfl, rfl, by simp⟩
set_option maxRecDepth 100000 in
set_option maxHeartbeats 4000000 in
theorem MatchWithin.calls (Ar : Option Addr) (c : Nat) (start rule : Int) (rs : List S42) (inp ahead : ByteArray) (w : World) (hr : Kd.C k42 w Ar rs.length rs) (hc : rs.length ≤ c) (hb : ∀ x ∈ rs, x.f1.length ≤ 140737488355328 ∧ x.f0.size ≤ 140737488355328) (hga : GA w) :
    Calls Tryd.prog 5 #[.agg #[.slice Ar rs.length c, .int .i64 start], .int .i64 rule, .string inp, .string ahead] w fun e w' => e = .returned (.bool true) ∧ Below w.heap.size w w' := by
  have HR := Lib.hid hr; clear hr
  have HC := Lib.hid hc; clear hc
  have HBB := Lib.hid hb; clear hb
  have HGA := Lib.hid hga; clear hga
  have L0 := Lib.hid (L1.start w Ar rs.length c start)
  go_enter Tryd.func5, Tryd.ntmps5
  go_wp2_with (fail)
  generalize (w.alloc (.cells #[.slice Ar rs.length c, .int .i64 start] 24)) = wa at *
  have G0 := Lib.hid (HGA.out.below L0.out.bel)
  refine (works.calls wa G0.out.c0 G0.out.c1 G0.out.c2 G0.out.c3).mono ?_
  rintro e w1 ⟨rfl, hbw⟩
  have L1' := Lib.hid (L0.out.below hbw)
  clear L0 hbw G0
  dsimp only
  have a0 : w1.cell? ⟨w.heap.size, 0, none⟩ = some (.slice Ar rs.length c) := L1'.out.b0.cell 0
  have a1 : w1.cell? ⟨w.heap.size, 1, none⟩ = some (.int .i64 start) := L1'.out.b0.cell 1
  go_wp2_with (fail)
  clear a0 a1
  refine (dowellaw14_heavy.calls 4097 Ar c rs start _ w1 (Kd.C_below HR.out L1'.out.bel) HC.out (heavy_f rs start (fun x hx => (HBB.out x hx).1) _ (by omega))).mono ?_
  rintro e w2 ⟨rfl, hbw⟩
  have L2 := Lib.hid (L1'.out.below hbw)
  clear hbw L1'
  dsimp only
  by_cases hh : decide (4096 < rs.length ∨ 1048576 < sz rs) = true
  · rw [hh]
    go_wp2
    go_ret
    exact ⟨rfl, L2.out.bel⟩
  have hh' : decide (4096 < rs.length ∨ 1048576 < sz rs) = false := by simpa using hh
  have HM := Lib.hid (heavy_no hh')
  rw [hh']
  clear hh hh'
  by_cases hi : 4096 < inp.size
  · have hi' : (4096 : Int) < (inp.size : Int) := by omega
    go_wp2
    go_ret
    exact ⟨rfl, L2.out.bel⟩
  by_cases ha : 4096 < ahead.size
  · have hi' : ¬ ((4096 : Int) < (inp.size : Int)) := by omega
    have hi'' : decide ((4096 : Int) < (inp.size : Int)) = false := decide_eq_false hi'
    have ha' : (4096 : Int) < (ahead.size : Int) := by omega
    go_wp2
    go_ret
    exact ⟨rfl, L2.out.bel⟩
  have hi1 : ¬ ((4096 : Int) < (inp.size : Int)) := by omega
  have hi2 : decide ((4096 : Int) < (inp.size : Int)) = false := decide_eq_false hi1
  have ha1 : ¬ ((4096 : Int) < (ahead.size : Int)) := by omega
  have ha2 : decide ((4096 : Int) < (ahead.size : Int)) = false := decide_eq_false ha1
  go_upto_region 6 with fail
  have hiq : inp.size ≤ 4096 := by omega
  have haq : ahead.size ≤ 4096 := by omega
  have HW := Lib.hid (wLaw rs start rule inp ahead hiq haq)
  clear hi1 hi2 ha1 ha2 hi ha
  obtain ⟨wb, hwb⟩ : ∃ wb, wb = w2.alloc (.cells #[.int .i64 3000, .int .i64 50000] 26) := ⟨_, rfl⟩
  rw [← hwb]
  have L3 : Hid (L1 w wb Ar rs.length c start ∧ Blk wb w2.heap.size 26 [.int .i64 3000, .int .i64 50000]) := by
    rw [hwb]; exact ⟨L2.out.below ((Below.refl _ _).alloc (Nat.le_refl _) _), Blk.alloc w2 _ _⟩
  clear hwb L2
  generalize w2.heap.size = fb at *
  obtain ⟨X, hX⟩ : ∃ X, atAns rs start rule inp 0 3000 50000 = X := ⟨_, rfl⟩
  obtain ⟨Z, hZ⟩ : ∃ Z, atAns rs start rule (ahead ++ inp) ahead.size 3000 50000 = Z := ⟨_, rfl⟩
  rw [hX, hZ] at HW
  have hmx : (ansRes X).forest.length ≤ 1048576 := by rw [← hX]; exact atAns_few _ _ _ _ _ _ _
  have HX1 := Lib.hid hX; clear hX
  have HZ1 := Lib.hid hZ; clear hZ
  have HMX := Lib.hid hmx; clear hmx
  refine W6.wp w wb Ar c start rs rule inp fb X w.heap.size HX1.out HR.out L3.out.1.bel HM.out.1 HM.out.2 HBB.out L3.out.1.b0 L3.out.2 _ _ rfl rfl rfl rfl rfl ?_
  intro f1 w3 q1 q2 A1 c1 e8 e9 e10 l1 l2 hb3 y1 y2 ow1
  have L4 := Lib.hid (And.intro (L3.out.1.below hb3) (L3.out.2.below hb3 L3.out.2.lt))
  have Y1 := Lib.hid y1; have Y2 := Lib.hid y2; have OW := Lib.hid ow1
  clear y1 y2 ow1 l1 l2 hb3 L3
  simp only [Act.puts, Act.put, List.setIfInBounds_toArray, List.set_cons_zero, List.set_cons_succ]
  rw [e8, e9, e10]
  clear e8 e9 e10
  go_upto_region 7 with fail
  refine W7.wp w w3 Ar c start rs rule inp ahead fb Z w.heap.size HZ1.out HR.out L4.out.1.bel HM.out.1 HM.out.2 HBB.out L4.out.1.b0 L4.out.2 (by omega) _ _ rfl rfl rfl rfl rfl rfl ?_
  intro f2 w4 r1 r2 A2 c2 e8 e9 e10 l1 l2 hb4 y1 y2 ow2
  have L5 := Lib.hid (L4.out.1.below hb4)
  have Y3 := Lib.hid y1; have Y4 := Lib.hid y2; have OW2 := Lib.hid ow2
  have Y5 := Lib.hid (Y1.out.below hb4 Y1.out.lt)
  have Y6 := Lib.hid (Y2.out.below hb4 Y2.out.lt)
  have OW1 := Lib.hid (OW.out.more (Go.X.grown_of_below hb4 none))
  clear y1 y2 ow2 l1 l2 hb4 L4 Y1 Y2 OW
  simp only [Act.puts, Act.put, List.setIfInBounds_toArray, List.set_cons_zero, List.set_cons_succ]
  rw [e8, e9, e10]
  clear e8 e9 e10
  have hst := HW.out.st
  have u0 : w4.cell? ⟨q2, 0, none⟩ = some (.int .i64 ((ansSt X).depth : Nat)) := Y6.out.cell 0
  have u1 : w4.cell? ⟨q2, 1, none⟩ = some (.int .i64 ((ansSt X).steps : Nat)) := Y6.out.cell 1
  have v0 : w4.cell? ⟨r2, 0, none⟩ = some (.int .i64 ((ansSt Z).depth : Nat)) := Y4.out.cell 0
  have v1 : w4.cell? ⟨r2, 1, none⟩ = some (.int .i64 ((ansSt Z).steps : Nat)) := Y4.out.cell 1
  rw [hst] at v0 v1
  rw [hst]
  clear hst
  by_cases hx0 : (ansSt X).err = 0
  · have hres := HW.out.res hx0
    obtain ⟨hout, hen⟩ := HW.out.out hx0
    rw [hx0]
    clear hx0
    go_upto_region 12 with fail
    clear u0 u1 v0 v1
    obtain ⟨R, hR⟩ : ∃ R, ansRes X = R := ⟨_, rfl⟩
    have y3 := Y3.out
    have y5 := Y5.out
    have o1 := OW1.out
    have o2 := OW2.out
    have hmx := HMX.out
    dsimp only [oC] at y3 y5
    rw [hres] at y3 o2
    rw [hR] at y3 y5 o1 o2 hout hen hmx
    clear hres Y3 Y4 Y5 Y6 OW1 OW2 HMX HW hR
    obtain ⟨k1, k2, k3, k4⟩ := shR_parts ahead.size R hout.zero
    rw [k1, k2, k4] at y3
    rw [k4, k3] at o2
    clear k1 k2 k3 k4
    have hpl : ∀ c ∈ R.forest, 0 ≤ c.fr ∧ c.fr ≤ 1048576 ∧ 0 ≤ c.to ∧ c.to ≤ 1048576 := by
      rcases hout.kd with h | h | h
      · rw [hout.zero h]; exact fun _ h => by cases h
      · intro c hc
        have := Fo.mem (hout.one h).2 c hc
        omega
      · rw [(hout.two h).1]; exact fun _ h => by cases h
    refine W12.wp w4 R A1 A2 c1 c2 q1 r1 ahead _ _ hout.zero hmx (by omega) (by omega) hpl y5 y3 o1 o2 _ _ rfl rfl rfl rfl ?_
    intro f3 w5 e71 hb5
    have L6 := Lib.hid (L5.out.below hb5)
    have y7 := y5.below hb5 y5.lt
    have o3 := o1.more (Go.X.grown_of_below hb5 none)
    clear y3 y5 o1 o2 hpl hb5 L5
    simp only [Act.puts, Act.put, List.setIfInBounds_toArray, List.set_cons_zero, List.set_cons_succ]
    rw [e71]
    clear e71
    have z0 := y7.cell 0
    have z1 := y7.cell 1
    have z2 := y7.cell 2
    have z3 := y7.cell 3
    simp only [List.getElem?_cons_zero, List.getElem?_cons_succ] at z0 z1 z2 z3
    have en0 : (0 : Int) ≤ (R.en : Int) := by omega
    have en1 : (R.en : Int) ≤ (inp.size : Int) := by omega
    have OW3 := Lib.hid o3
    have HMX := Lib.hid hmx
    have HOUT := Lib.hid hout
    clear y7 o3 hmx hout hen
    have hkd := HOUT.out.kd
    rcases hkd with h | h | h
    · have hz := HOUT.out.zero h
      clear h
      subst hz
      simp only [Res.zero] at z0 z1 z2 z3
      go_wp2
      go_ret
      exact ⟨rfl, L6.out.bel⟩
    · obtain ⟨hl, hfo⟩ := HOUT.out.one h
      have HFO := Lib.hid (Sp.whole hfo)
      rw [h] at z0
      rw [hl] at z2
      clear h hl hfo
      go_wp2_with (fail)
      have hxl : (R.forest.map toS).length = R.forest.length := by simp
      have hfc := fcheck.calls A1 c1 (R.forest.map toS) (R.en : Nat) R.trees w5 (caps_C OW3.out (Nat.le_trans HMX.out (by decide))) (by
        rw [hxl]
        rcases OW3.out.2 with ⟨e1, h0⟩ | ⟨g, cap, cur, e1, _, _, e4, _⟩
        · injection e1; omega
        · injection e1; omega) HFO.out (by rw [hxl]; exact HMX.out) ⟨en0, by omega⟩
      rw [hxl] at hfc
      clear hxl
      refine hfc.mono ?_
      rintro e w6 ⟨rfl, hb6⟩
      have L7 := Lib.hid (L6.out.below hb6)
      clear hb6 L6 OW3 hfc
      dsimp only
      go_wp2
      go_ret
      exact ⟨rfl, L7.out.bel⟩
    · obtain ⟨hf, hl⟩ := HOUT.out.two h
      rw [h] at z0
      rw [hf] at z3
      have hl1 : R.label.toList.isEmpty = false := label_ne hl
      clear hf hl h
      go_wp2
      go_ret
      exact ⟨rfl, L6.out.bel⟩
  · have hx1 : ((ansSt X).err != 0) = true := by simpa using hx0
    go_wp2
    go_ret
    exact ⟨rfl, L5.out.bel⟩
end Go.Proofs.YtmpkkphohilkoaaDoor.B
