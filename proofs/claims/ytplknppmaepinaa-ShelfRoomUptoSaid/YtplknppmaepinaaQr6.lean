/- Texts joined and shortened (wip/tools/shrink.py): ShReg, ShRoom. -/
import Derived.Test.YtplknppmaepinaaQr4
import Derived.Test.YtplknppmaepinaaQr5
import Derived.Deep.CutRange
import Derived.Deep.CutBlock
import Derived.Test.YtplknppmaepinaaQr1
/- The drawn regions of the shelf's laws, by their invariants (printed by wip/gen/gensh.py). -/
namespace Go.X
open Go Go.RowKit
theorem Does.buildSlice0 {P : Program} {ty : TypeId} {ρ : Operand → Value} {w : World} {K : Value → World → Prop} (t e : TypeId) (size : Nat) (hu : P.underlying t = some (.slice e)) (hi : (P.info? e).isSome = true)
    (h : ∀ w', w'.ownsRow w.heap.size e size (.slice (some ⟨w.heap.size, 0, none⟩) 0 0) 0 [] → Below w.heap.size w w' → K (.slice (some ⟨w.heap.size, 0, none⟩) 0 0) w') : Does P (.buildSlice t 0 #[]) ty ρ w K := by
  have hr : (Instr.buildSlice t 0 #[]).run P w = .ok (.slice (some ⟨w.heap.size, 0, none⟩) 0 0) (w.alloc (.cells #[] e)) := by
    obtain ⟨i, hi⟩ := Option.isSome_iff_exists.1 hi
    have h0 : (Array.range 0).map (fun _ => (default : Value)) = #[] := Array.eq_empty_of_size_eq_zero (by simp)
    simp [Instr.buildSlice, run_underlying hu, Go.sizeOf, typeInfo, hi, Instr.fill, newRow, h0]
  simp only [Does, execOp, List.map_toArray, List.map_nil, hr, Sem.run_bind, Sem.run_pure, Result.andThen_ok]
  exact h _ (own_empty w e size) ((Below.refl _ _).alloc (Nat.le_refl _) _)
theorem grown_of_below {w w' : World} (h : Below w.heap.size w w') (r : Option Nat) : w.grownBy w' r := ⟨h.os, h.tape, h.output, h.size, fun k hk _ => h.block k hk⟩
end Go.X
namespace Go.Proofs.Ytplknppmaepinaa.S
open Go Go.RowKit Go.X Go.Maps Go.Proofs.YtplknppmaepinaaW.PrintWords Go.Proofs.Ytplknppmaepinaa.F
set_option maxRecDepth 100000
theorem u39w : Try.prog.underlying 39 = some (.slice 5) := Try.underlying39
theorem u23w : Try.prog.underlying 23 = some (.slice 76) := Try.underlying23
theorem plan_C0 {w : World} {base : Nat} {A : Option Addr} {c : Nat} {ps : List S76} (h : w.ownsRow base 76 3 (.slice A ps.length c) ps.length (troubleCells ps)) : Kd.C k76 w A ps.length ps := by
  obtain ⟨A', c', e, _, hC⟩ := row_slice (d := k76) (own_low h (Nat.zero_le _)) (troubleCells_reps w ps)
  cases e
  exact hC
/-- What New has left: the pointer, and what lies there. -/
structure NewV (w0 w : World) (fs : List S73) (room : Int) (ps : List S76) (sp : Option Addr) : Prop where
  none : sp = none ↔ newE fs room ps ≠ 0
  some : newE fs room ps = 0 → ∃ sb, sp = some ⟨sb, 0, .none⟩ ∧ ShelfAt w (fun k => w0.heap.size ≤ k) sb (newS fs room ps)
theorem NewV.keep {w0 w w' : World} {fs : List S73} {room : Int} {ps : List S76} {sp : Option Addr} (h : NewV w0 w fs room ps sp) (g : Below w.heap.size w w') : NewV w0 w' fs room ps sp :=
  ⟨h.1, fun e => (h.2 e).imp fun _ k => ⟨k.1, k.2.keep (Keeps.below g)⟩⟩
theorem LentAt.apart {w w' : World} {base g q qb : Nat} {gs : List Nat} {fs : List S73} {vs : List Value} {n c : Nat} (h : LentAt w base g gs fs) (hg : w.grownBy w' (some q)) (ho : w.ownsRow qb 76 3 (.slice (some ⟨q, 0, none⟩) n c) n vs) : LentAt w' base g gs fs := by
  obtain ⟨cs, h1, h2, h3, h4⟩ := h
  obtain ⟨cells, hq⟩ := own_typed ho q rfl
  refine ⟨cs, h1.keep fun b hb hlt => hg.block b hlt (fun e => ?_), h2.grown hg (fun e => ?_), h3, h4⟩
  · cases e
    obtain ⟨_, _, c2, k⟩ := h1.lt _ hb
    rw [hq] at k
    simp at k
  · cases e
    have k : w.heap[g]? = _ := h2
    rw [hq] at k
    simp at k
structure R5n (wb0 : World) (xb : Nat) (Af Ap : Option Addr) (cf cp : Nat) (fs : List S73) (ps : List S76) (room : Int) (b : Bits) (f : Slots) (w : World) : Prop where
  but : But (fun _ => False) wb0 w
  g2 : f 2 = .pointer (some ⟨xb, 0, none⟩)
  p0 : b 0 = true → f 28 = .pointer (some ⟨xb, 0, none⟩)
  p1 : b 1 = true → f 29 = .slice Af fs.length cf
  p3 : b 3 = true → f 31 = .pointer (some ⟨xb, 1, none⟩)
  p4 : b 4 = true → f 32 = .int .i64 room
  p6 : b 6 = true → f 34 = .pointer (some ⟨xb, 2, none⟩)
  p7 : b 7 = true → f 35 = .slice Ap ps.length cp
  p12 : b 12 = true → f 39 = .int .i64 (newE fs room ps)
  p14 : b 14 = true → f 6 = .int .i64 (newE fs room ps)
  x2 : b 2 = true → ∃ N g gs, f 30 = .slice (some ⟨g, 0, none⟩) fs.length (fs.length + 1) ∧ LentAt w N g gs fs
  x5 : b 5 = true → b 8 = false → ∃ q, f 33 = .slice (some ⟨q, 0, none⟩) 0 0 ∧ wb0.heap.size ≤ q ∧ w.ownsRow q 76 3 (.slice (some ⟨q, 0, none⟩) 0 0) 0 []
  x8 : b 8 = true → ∃ A c base, f 36 = .slice A ps.length c ∧ w.ownsRow base 76 3 (.slice A ps.length c) ps.length (troubleCells ps)
  x9 : b 9 = true → ∃ sp, f 37 = .tuple #[.pointer sp, .int .i64 (newE fs room ps)] ∧ NewV wb0 w fs room ps sp
  x10 : b 10 = true → ∃ sp, f 27 = .tuple #[.pointer sp, .int .i64 (newE fs room ps)] ∧ NewV wb0 w fs room ps sp
  x11 : b 11 = true → ∃ sp, f 38 = .pointer sp ∧ NewV wb0 w fs room ps sp
  x13 : b 13 = true → ∃ sp, f 5 = .pointer sp ∧ NewV wb0 w fs room ps sp
theorem R5n.below {wb0 : World} {xb : Nat} {Af Ap : Option Addr} {cf cp : Nat} {fs : List S73} {ps : List S76} {room : Int} {b : Bits} {f : Slots} {w w' : World} (h : R5n wb0 xb Af Ap cf cp fs ps room b f w) (g : Below w.heap.size w w') : R5n wb0 xb Af Ap cf cp fs ps room b f w' :=
  { h with
    but := h.but.grown (Go.X.grown_of_below g none) (fun _ e => nomatch e)
    x2 := fun hb => (h.x2 hb).imp fun _ ⟨g1, gs, e, k⟩ => ⟨g1, gs, e, k.keep g⟩
    x5 := fun h1 h2 => (h.x5 h1 h2).imp fun _ ⟨e, k1, k2⟩ => ⟨e, k1, ownsRow_keep (ok := fun _ => True) k2 (Keeps.below g) (fun _ _ => trivial)⟩
    x8 := fun hb => (h.x8 hb).imp fun _ ⟨c, B, e, k⟩ => ⟨c, B, e, ownsRow_keep (ok := fun _ => True) k (Keeps.below g) (fun _ _ => trivial)⟩
    x9 := fun hb => (h.x9 hb).imp fun _ k => ⟨k.1, k.2.keep g⟩
    x10 := fun hb => (h.x10 hb).imp fun _ k => ⟨k.1, k.2.keep g⟩
    x11 := fun hb => (h.x11 hb).imp fun _ k => ⟨k.1, k.2.keep g⟩
    x13 := fun hb => (h.x13 hb).imp fun _ k => ⟨k.1, k.2.keep g⟩ }
set_option maxRecDepth 100000 in
theorem R5n.wp (wb0 : World) (xb : Nat) (Af Ap : Option Addr) (cf cp : Nat) (fs : List S73) (ps : List S76) (room : Int) (h_xb : Blk wb0 xb 25 [.slice Af fs.length cf, .int .i64 room, .slice Ap ps.length cp]) (hf : Kd.C k73 wb0 Af fs.length fs) (hp : Kd.C k76 wb0 Ap ps.length ps) (hn : fs.length ≤ 67108864) (hm : ∀ f ∈ fs, f.f1.length ≤ 140737488355328) (hnm : ∀ f ∈ fs, f.f0.size ≤ maxLen) (hq : ps.length ≤ 5864062014804) (hwf : ∀ p ∈ ps, (Lit.int .i64 p.f0).wf = true ∧ (Lit.int .i64 p.f1).wf = true ∧ (Lit.int .i64 p.f2).wf = true) (act : Act) (Q : Exit → Act → World → Prop) (hz : act.tmps.size = 144)
    (s2 : Slots.of act 2 = .pointer (some ⟨xb, 0, none⟩))
    (hQ : ∀ (f : Slots) (w' : World) (sp : Option Addr), f 6 = .int .i64 (newE fs room ps) → But (fun _ => False) wb0 w' → f 5 = .pointer sp → NewV wb0 w' fs room ps sp → Q .normal (Act.puts act f [28, 29, 30, 31, 32, 33, 34, 35, 36, 37, 27, 38, 39, 5, 6]) w') :
    (Code.region 5 #[{ dst := some 28, op := Go.Op.fieldAddr 25 (Go.Operand.tmp 2) 0, type := 0, pos := "theorems.go:94", after := #[], guard := none }, { dst := some 29, op := Go.Op.load 22 (Go.Operand.tmp 28), type := 22, pos := "theorems.go:94", after := #[{ on := 0, ground := Go.Ground.data }], guard := none }, { dst := some 30, op := Go.Op.call { callee := Go.Callee.value (Go.Operand.func 22), args := #[Go.Operand.tmp 29], argTypes := #[22] }, type := 22, pos := "theorems.go:94", after := #[{ on := 1, ground := Go.Ground.data }], guard := none }, { dst := some 31, op := Go.Op.fieldAddr 25 (Go.Operand.tmp 2) 1, type := 0, pos := "theorems.go:94", after := #[], guard := none }, { dst := some 32, op := Go.Op.load 3 (Go.Operand.tmp 31), type := 3, pos := "theorems.go:94", after := #[{ on := 3, ground := Go.Ground.data }], guard := none }, { dst := some 33, op := Go.Op.buildSlice 23 0 #[], type := 23, pos := "theorems.go:94", after := #[], guard := none }, { dst := some 34, op := Go.Op.fieldAddr 25 (Go.Operand.tmp 2) 2, type := 0, pos := "theorems.go:94", after := #[], guard := none }, { dst := some 35, op := Go.Op.load 23 (Go.Operand.tmp 34), type := 23, pos := "theorems.go:94", after := #[{ on := 6, ground := Go.Ground.data }], guard := none }, { dst := some 36, op := Go.Op.call { callee := Go.Callee.builtin Go.Builtin.append, args := #[Go.Operand.tmp 33, Go.Operand.tmp 35], argTypes := #[23, 23] }, type := 23, pos := "theorems.go:94", after := #[{ on := 5, ground := Go.Ground.data }, { on := 7, ground := Go.Ground.data }, { on := 2, ground := Go.Ground.chain }], guard := none }, { dst := some 37, op := Go.Op.call { callee := Go.Callee.value (Go.Operand.func 17), args := #[Go.Operand.tmp 30, Go.Operand.tmp 32, Go.Operand.tmp 36], argTypes := #[22, 3, 23] }, type := 43, pos := "theorems.go:94", after := #[{ on := 2, ground := Go.Ground.data }, { on := 4, ground := Go.Ground.data }, { on := 8, ground := Go.Ground.data }, { on := 8, ground := Go.Ground.chain }], guard := none }, { dst := some 27, op := Go.Op.move (Go.Operand.tmp 37), type := 43, pos := "theorems.go:94", after := #[{ on := 9, ground := Go.Ground.data }], guard := none }, { dst := some 38, op := Go.Op.extract (Go.Operand.tmp 27) 0, type := 27, pos := "theorems.go:94", after := #[{ on := 10, ground := Go.Ground.data }], guard := none }, { dst := some 39, op := Go.Op.extract (Go.Operand.tmp 27) 1, type := 42, pos := "theorems.go:94", after := #[{ on := 10, ground := Go.Ground.data }, { on := 13, ground := Go.Ground.gcOnly Go.Departure.lateStores }], guard := none }, { dst := some 5, op := Go.Op.assign (Go.Operand.tmp 38), type := 27, pos := "theorems.go:94", after := #[{ on := 11, ground := Go.Ground.data }, { on := 9, ground := Go.Ground.chain }, { on := 0, ground := Go.Ground.phase }, { on := 1, ground := Go.Ground.phase }, { on := 2, ground := Go.Ground.phase }, { on := 3, ground := Go.Ground.phase }, { on := 4, ground := Go.Ground.phase }, { on := 5, ground := Go.Ground.phase }, { on := 6, ground := Go.Ground.phase }, { on := 7, ground := Go.Ground.phase }, { on := 8, ground := Go.Ground.phase }, { on := 9, ground := Go.Ground.phase }, { on := 10, ground := Go.Ground.phase }, { on := 11, ground := Go.Ground.phase }, { on := 12, ground := Go.Ground.textOnly Go.Departure.lateStores }], guard := none }, { dst := some 6, op := Go.Op.assign (Go.Operand.tmp 39), type := 42, pos := "theorems.go:94", after := #[{ on := 12, ground := Go.Ground.data }, { on := 13, ground := Go.Ground.chain }, { on := 0, ground := Go.Ground.phase }, { on := 1, ground := Go.Ground.phase }, { on := 2, ground := Go.Ground.phase }, { on := 3, ground := Go.Ground.phase }, { on := 4, ground := Go.Ground.phase }, { on := 5, ground := Go.Ground.phase }, { on := 6, ground := Go.Ground.phase }, { on := 7, ground := Go.Ground.phase }, { on := 8, ground := Go.Ground.phase }, { on := 9, ground := Go.Ground.phase }, { on := 10, ground := Go.Ground.phase }, { on := 11, ground := Go.Ground.phase }, { on := 12, ground := Go.Ground.phase }, { on := 13, ground := Go.Ground.phase }], guard := none }] true).wp Try.prog Q act wb0 := by
  have m_xb : ¬ (False) := by exact id
  refine wp_region_slots (fun b f w => R5n wb0 xb Af Ap cf cp fs ps room b f w) 15 [0, 1, 2, 3, 4, 5, 6, 7, 8, 9, 10, 11, 12, 13, 14] [28, 29, 30, 31, 32, 33, 34, 35, 36, 37, 27, 38, 39, 5, 6] 144 (by kernel_rfl) rfl rfl rfl (by kernel_rfl) (by kernel_rfl) hz (by kernel_rfl) ?_ ?_ ?_
  · exact { but := But.drewN_refl wb0, g2 := s2, p0 := nofun, p1 := nofun, p3 := nofun, p4 := nofun, p6 := nofun, p7 := nofun, p12 := nofun, p14 := nofun, x2 := nofun, x5 := nofun, x8 := nofun, x9 := nofun, x10 := nofun, x11 := nofun, x13 := nofun }
  · refine SSteps.cons (i := 0) (ds := []) (js := [1, 2, 8, 9, 10, 11, 12, 13, 14]) rfl (by kernel_rfl) (by kernel_rfl) (fun b f w hb0 hd hj h => ?_) ?_
    · have e0 := h.g2
      exact Does.fieldAddr (v := .pointer (some ⟨xb, 0, none⟩)) (by rw [show f.eval (.tmp 2) = _ from e0]; go_simp) { h with p0 := fun _ => rfl }
    refine SSteps.cons (i := 1) (ds := [0]) (js := [2, 8, 9, 10, 11, 12, 13, 14]) rfl (by kernel_rfl) (by kernel_rfl) (fun b f w hb0 hd hj h => ?_) ?_
    · have d0 : b 0 = true := hd 0 (by decide)
      have e0 := (h.p0 d0)
      have hc : w.cell? ⟨xb, 0, none⟩ = some (.slice Af fs.length cf) := (h_xb.but h.but m_xb).cell 0
      exact Does.load (v := .slice Af fs.length cf) (by rw [show f.eval (.tmp 28) = _ from e0]; go_simp) { h with p1 := fun _ => rfl }
    refine SSteps.cons (i := 2) (ds := [1, 0]) (js := [8, 9, 10, 11, 12, 13, 14]) rfl (by kernel_rfl) (by kernel_rfl) (fun b f w hb0 hd hj h => ?_) ?_
    · have d1 : b 1 = true := hd 1 (by decide)
      have e1 := (h.p1 d1)
      refine Does.call (args := #[.slice Af fs.length cf]) (by simp [Slots.eval, e1]) rfl (by kernel_rfl) ?_
      refine (lent.calls Af cf fs w (Kd.C_below hf (h.but.below (fun _ h => h.elim) (Nat.le_refl _))) hn hm).mono ?_
      rintro e w' ⟨g, gs, rfl, hl, hbl⟩
      exact ⟨_, rfl, { (h.below hbl) with x2 := fun _ => ⟨_, g, gs, rfl, hl⟩ }⟩
    refine SSteps.cons (i := 3) (ds := []) (js := [4, 9, 10, 11, 12, 13, 14]) rfl (by kernel_rfl) (by kernel_rfl) (fun b f w hb0 hd hj h => ?_) ?_
    · have e0 := h.g2
      exact Does.fieldAddr (v := .pointer (some ⟨xb, 1, none⟩)) (by rw [show f.eval (.tmp 2) = _ from e0]; go_simp) { h with p3 := fun _ => rfl }
    refine SSteps.cons (i := 4) (ds := [3]) (js := [9, 10, 11, 12, 13, 14]) rfl (by kernel_rfl) (by kernel_rfl) (fun b f w hb0 hd hj h => ?_) ?_
    · have d3 : b 3 = true := hd 3 (by decide)
      have e0 := (h.p3 d3)
      have hc : w.cell? ⟨xb, 1, none⟩ = some (.int .i64 room) := (h_xb.but h.but m_xb).cell 1
      exact Does.load (v := .int .i64 room) (by rw [show f.eval (.tmp 31) = _ from e0]; go_simp) { h with p4 := fun _ => rfl }
    refine SSteps.cons (i := 5) (ds := []) (js := [8, 9, 10, 11, 12, 13, 14]) rfl (by kernel_rfl) (by kernel_rfl) (fun b f w hb0 hd hj h => ?_) ?_
    · refine Does.buildSlice0 23 76 3 u23w (by kernel_rfl) ?_
      intro w' ho' hbl
      exact { (h.below hbl) with x5 := fun _ _ => ⟨w.heap.size, rfl, (h.but.below (fun _ h => h.elim) (Nat.le_refl _)).size, ho'⟩ }
    refine SSteps.cons (i := 6) (ds := []) (js := [7, 8, 9, 10, 11, 12, 13, 14]) rfl (by kernel_rfl) (by kernel_rfl) (fun b f w hb0 hd hj h => ?_) ?_
    · have e0 := h.g2
      exact Does.fieldAddr (v := .pointer (some ⟨xb, 2, none⟩)) (by rw [show f.eval (.tmp 2) = _ from e0]; go_simp) { h with p6 := fun _ => rfl }
    refine SSteps.cons (i := 7) (ds := [6]) (js := [8, 9, 10, 11, 12, 13, 14]) rfl (by kernel_rfl) (by kernel_rfl) (fun b f w hb0 hd hj h => ?_) ?_
    · have d6 : b 6 = true := hd 6 (by decide)
      have e0 := (h.p6 d6)
      have hc : w.cell? ⟨xb, 2, none⟩ = some (.slice Ap ps.length cp) := (h_xb.but h.but m_xb).cell 2
      exact Does.load (v := .slice Ap ps.length cp) (by rw [show f.eval (.tmp 34) = _ from e0]; go_simp) { h with p7 := fun _ => rfl }
    refine SSteps.cons (i := 8) (ds := [5, 7, 2, 6, 1, 0]) (js := [9, 10, 11, 12, 13, 14]) rfl (by kernel_rfl) (by kernel_rfl) (fun b f w hb0 hd hj h => ?_) ?_
    · have d7 : b 7 = true := hd 7 (by decide)
      have d5 : b 5 = true := hd 5 (by decide)
      have d2 : b 2 = true := hd 2 (by decide)
      have e7 := (h.p7 d7)
      obtain ⟨q, e3, hq, ho⟩ := h.x5 d5 hb0
      refine Does.appendAny q _ 3 24 u23w info76 rfl (by decide) e3 ho e7 (troubleCells_length ps) (C_plan (Kd.C_below hp (h.but.below (fun _ h => h.elim) (Nat.le_refl _)))) (trouble_one ps) (by simp only [maxLen]; omega) (by omega) (Nat.le_of_lt (World.ownsRow.lt ho q rfl).2) ?_
      intro v' w' ho' ha
      obtain ⟨A8, c8, rfl⟩ := own_slice ho'
      have hb' : Below wb0.heap.size wb0 w' := (h.but.below (fun _ h => h.elim) (Nat.le_refl _)).grown ha.grown (h.but.below (fun _ h => h.elim) (Nat.le_refl _)).size (by intro k e; cases e; exact hq)
      exact { h with but := But.of_below hb', x2 := fun hb => (h.x2 hb).imp fun N ⟨g, gs, e, k⟩ => ⟨g, gs, e, k.apart ha.grown ho⟩, x5 := fun _ hf => tf hf, x8 := fun _ => ⟨A8, c8, q, by simp [Slots.put], by simpa using ho'⟩, x9 := fun hf => no (hj 9 (by decide)) hf, x10 := fun hf => no (hj 10 (by decide)) hf, x11 := fun hf => no (hj 11 (by decide)) hf, x13 := fun hf => no (hj 13 (by decide)) hf }
    refine SSteps.cons (i := 9) (ds := [2, 4, 8, 1, 0, 3, 5, 7, 6]) (js := [10, 11, 12, 13, 14]) rfl (by kernel_rfl) (by kernel_rfl) (fun b f w hb0 hd hj h => ?_) ?_
    · have d4 : b 4 = true := hd 4 (by decide)
      have d2 : b 2 = true := hd 2 (by decide)
      have d8 : b 8 = true := hd 8 (by decide)
      obtain ⟨N, g, gs, e2, hl⟩ := h.x2 d2
      have e4 := (h.p4 d4)
      obtain ⟨A, c, base, e8, ho⟩ := h.x8 d8
      refine Does.call (args := #[.slice (some ⟨g, 0, none⟩) fs.length (fs.length + 1), .int .i64 room, .slice A ps.length c]) (by simp [Slots.eval, e2, e4, e8]) rfl (by kernel_rfl) ?_
      refine (new.calls _ _ _ _ fs ps room w (hl.C hn hm) (plan_C0 ho) hn hm hnm (by omega) hwf).mono ?_
      intro e w' hp'
      obtain ⟨hbl, sp, rfl, hsp, hsh⟩ := hp'.told
      exact ⟨_, rfl, { (h.below hbl) with x9 := fun _ => ⟨sp, rfl, hsp, fun e => (hsh e).imp fun sb k => ⟨k.1, k.2.mono fun j hk => Nat.le_trans (h.but.below (fun _ h => h.elim) (Nat.le_refl _)).size hk⟩⟩ }⟩
    refine SSteps.cons (i := 10) (ds := [9, 2, 4, 8, 1, 0, 3, 5, 7, 6]) (js := [11, 12, 13, 14]) rfl (by kernel_rfl) (by kernel_rfl) (fun b f w hb0 hd hj h => ?_) ?_
    · have d9 : b 9 = true := hd 9 (by decide)
      obtain ⟨sp, e9, hv⟩ := h.x9 d9
      exact Does.move { h with x10 := fun _ => ⟨sp, e9, hv⟩ }
    refine SSteps.cons (i := 11) (ds := [10, 9, 2, 4, 8, 1, 0, 3, 5, 7, 6]) (js := [13, 14]) rfl (by kernel_rfl) (by kernel_rfl) (fun b f w hb0 hd hj h => ?_) ?_
    · have d10 : b 10 = true := hd 10 (by decide)
      obtain ⟨sp, e9, hv⟩ := h.x10 d10
      exact Does.extract e9 rfl { h with x11 := fun _ => ⟨sp, rfl, hv⟩ }
    refine SSteps.cons (i := 12) (ds := [10, 9, 2, 4, 8, 1, 0, 3, 5, 7, 6]) (js := [14]) rfl (by kernel_rfl) (by kernel_rfl) (fun b f w hb0 hd hj h => ?_) ?_
    · have d10 : b 10 = true := hd 10 (by decide)
      obtain ⟨sp, e9, hv⟩ := h.x10 d10
      exact Does.extract e9 rfl { h with p12 := fun _ => rfl }
    refine SSteps.cons (i := 13) (ds := [11, 9, 0, 1, 2, 3, 4, 5, 6, 7, 8, 10]) (js := [14]) rfl (by kernel_rfl) (by kernel_rfl) (fun b f w hb0 hd hj h => ?_) ?_
    · have d11 : b 11 = true := hd 11 (by decide)
      obtain ⟨sp, e9, hv⟩ := h.x11 d11
      exact Does.assign { h with x13 := fun _ => ⟨sp, e9, hv⟩ }
    refine SSteps.cons (i := 14) (ds := [12, 13, 0, 1, 2, 3, 4, 5, 6, 7, 8, 9, 10, 11]) (js := []) rfl (by kernel_rfl) (by kernel_rfl) (fun b f w hb0 hd hj h => ?_) ?_
    · have d12 : b 12 = true := hd 12 (by decide)
      exact Does.assign { h with p14 := fun _ => (h.p12 d12) }
    exact SSteps.nil
  · intro b f w' hall h _
    obtain ⟨sp, k1, k2⟩ := h.x13 (hall 13 (by decide))
    exact hQ f w' sp (h.p14 (hall 14 (by decide))) h.but  k1 k2
structure R26 (wb0 : World) (ok : Nat → Prop) (sb xb : Nat) (s : Sh) (Af Ap : Option Addr) (nf cf np cp : Nat) (a nn : Int) (A9 : Option Addr) (c9 : Nat) (b : Bits) (f : Slots) (w : World) : Prop where
  but : But (fun _ => False) wb0 w
  g2 : f 2 = .pointer (some ⟨xb, 0, none⟩)
  g5 : f 5 = .pointer (some ⟨sb, 0, none⟩)
  g10 : f 10 = .int .i64 a
  g12 : f 12 = .int .i64 nn
  g13 : f 13 = .slice A9 s.L.length c9
  g14 : f 14 = .int .i64 (szL s.L : Nat)
  g15 : f 15 = .bool true
  p0 : b 0 = true → f 101 = .int .i64 (szL s.L : Nat)
  p1 : b 1 = true → f 102 = .pointer (some ⟨sb, 0, none⟩)
  p2 : b 2 = true → f 103 = .int .i64 (s.room - (szL s.L : Nat))
  p3 : b 3 = true → f 104 = .int .i64 s.room
  p4 : b 4 = true → f 105 = .pointer (some ⟨xb, 1, none⟩)
  p5 : b 5 = true → f 106 = .int .i64 s.room
  p6 : b 6 = true → f 107 = .bool false
  p7 : b 7 = true → f 108 = .bool false
  p8 : b 8 = true → f 109 = .pointer (some ⟨sb, 0, none⟩)
  p9 : b 9 = true → f 110 = .int .i64 (s.room - (szL s.L : Nat))
  p10 : b 10 = true → f 111 = .bool false
  p11 : b 11 = true → f 112 = .bool false
  p12 : b 12 = true → f 113 = .bool false
  p13 : b 13 = true → f 114 = .bool true
  p14 : b 14 = true → f 115 = .bool false
  p15 : b 15 = true → f 116 = .bool false
  p16 : b 16 = true → f 117 = .bool false
  p17 : b 17 = true → f 118 = .pointer (some ⟨sb, 0, none⟩)
  p19 : b 19 = true → f 120 = .int .i64 (s.all.length : Int)
  p20 : b 20 = true → f 121 = .int .i64 a
  p21 : b 21 = true → f 122 = .int .i64 nn
  p22 : b 22 = true → f 123 = .int .i64 (s.all.length : Int)
  p23 : b 23 = true → f 124 = .bool false
  p24 : b 24 = true → f 125 = .bool false
  p25 : b 25 = true → f 126 = .bool false
  p26 : b 26 = true → f 127 = .slice A9 s.L.length c9
  p27 : b 27 = true → f 128 = .int .i64 (s.L.length : Int)
  p28 : b 28 = true → f 129 = .bool false
  p29 : b 29 = true → f 130 = .bool false
  x18 : b 18 = true → ∃ A' c', f 119 = .slice A' s.all.length c'
theorem R26.below {wb0 : World} {ok : Nat → Prop} {sb xb : Nat} {s : Sh} {Af Ap : Option Addr} {nf cf np cp : Nat} {a nn : Int} {A9 : Option Addr} {c9 : Nat} {b : Bits} {f : Slots} {w w' : World} (h : R26 wb0 ok sb xb s Af Ap nf cf np cp a nn A9 c9 b f w) (g : Below w.heap.size w w') : R26 wb0 ok sb xb s Af Ap nf cf np cp a nn A9 c9 b f w' :=
  { h with
    but := h.but.grown (Go.X.grown_of_below g none) (fun _ e => nomatch e)
    x18 := h.x18 }
set_option maxRecDepth 100000 in
theorem R26.wp (wb0 : World) (ok : Nat → Prop) (sb xb : Nat) (s : Sh) (Af Ap : Option Addr) (nf cf np cp : Nat) (a nn : Int) (A9 : Option Addr) (c9 : Nat) (h_xb : Blk wb0 xb 25 [.slice Af nf cf, .int .i64 s.room, .slice Ap np cp]) (hs : ShelfAt wb0 ok sb s) (hg : Good s) (hal : s.all.length ≤ 1073741824) (h1 : IntKind.i64.wrap (((szL s.L : Nat) : Int) + (s.room - (szL s.L : Nat))) = s.room) (h2 : decide (s.room - (szL s.L : Nat) < 0) = false) (h3 : IntKind.i64.wrap (a + nn) = (s.all.length : Int)) (h4 : decide ((64 : Int) < (s.L.length : Int)) = false) (act : Act) (Q : Exit → Act → World → Prop) (hz : act.tmps.size = 144)
    (s2 : Slots.of act 2 = .pointer (some ⟨xb, 0, none⟩)) (s5 : Slots.of act 5 = .pointer (some ⟨sb, 0, none⟩)) (s10 : Slots.of act 10 = .int .i64 a) (s12 : Slots.of act 12 = .int .i64 nn) (s13 : Slots.of act 13 = .slice A9 s.L.length c9) (s14 : Slots.of act 14 = .int .i64 (szL s.L : Nat)) (s15 : Slots.of act 15 = .bool true)
    (hQ : ∀ (f : Slots) (w' : World), f 130 = .bool false → But (fun _ => False) wb0 w' → Q .normal (Act.puts act f [101, 102, 103, 104, 105, 106, 107, 108, 109, 110, 111, 112, 113, 114, 115, 116, 117, 118, 119, 120, 121, 122, 123, 124, 125, 126, 127, 128, 129, 130]) w') :
    (Code.region 26 #[{ dst := some 101, op := Go.Op.move (Go.Operand.tmp 14), type := 3, pos := "theorems.go:116", after := #[], guard := none }, { dst := some 102, op := Go.Op.move (Go.Operand.tmp 5), type := 27, pos := "theorems.go:116", after := #[], guard := none }, { dst := some 103, op := Go.Op.call { callee := Go.Callee.value (Go.Operand.func 13), args := #[Go.Operand.tmp 102], argTypes := #[27] }, type := 3, pos := "theorems.go:116", after := #[{ on := 1, ground := Go.Ground.data }], guard := none }, { dst := some 104, op := Go.Op.binOp Go.BinOp.add 3 (Go.Operand.tmp 101) (Go.Operand.tmp 103) 3, type := 3, pos := "theorems.go:116", after := #[{ on := 0, ground := Go.Ground.data }, { on := 2, ground := Go.Ground.data }], guard := none }, { dst := some 105, op := Go.Op.fieldAddr 25 (Go.Operand.tmp 2) 1, type := 0, pos := "theorems.go:116", after := #[], guard := none }, { dst := some 106, op := Go.Op.load 3 (Go.Operand.tmp 105), type := 3, pos := "theorems.go:116", after := #[{ on := 4, ground := Go.Ground.data }], guard := none }, { dst := some 107, op := Go.Op.binOp Go.BinOp.neq 3 (Go.Operand.tmp 104) (Go.Operand.tmp 106) 3, type := 4, pos := "theorems.go:116", after := #[{ on := 3, ground := Go.Ground.data }, { on := 5, ground := Go.Ground.data }], guard := none }, { dst := some 108, op := Go.Op.move (Go.Operand.tmp 107), type := 4, pos := "theorems.go:116", after := #[{ on := 6, ground := Go.Ground.data }, { on := 2, ground := Go.Ground.chain }], guard := none }, { dst := some 109, op := Go.Op.move (Go.Operand.tmp 5), type := 27, pos := "theorems.go:116", after := #[{ on := 7, ground := Go.Ground.guard }], guard := some (7, false) }, { dst := some 110, op := Go.Op.call { callee := Go.Callee.value (Go.Operand.func 13), args := #[Go.Operand.tmp 109], argTypes := #[27] }, type := 3, pos := "theorems.go:116", after := #[{ on := 8, ground := Go.Ground.data }, { on := 7, ground := Go.Ground.chain }, { on := 7, ground := Go.Ground.guard }], guard := some (7, false) }, { dst := some 111, op := Go.Op.binOp Go.BinOp.lss 3 (Go.Operand.tmp 110) (Go.Operand.const (Go.Value.int Go.IntKind.i64 0)) 3, type := 4, pos := "theorems.go:116", after := #[{ on := 9, ground := Go.Ground.data }, { on := 7, ground := Go.Ground.guard }], guard := some (7, false) }, { dst := some 112, op := Go.Op.pick (Go.Operand.tmp 108) (Go.Operand.const (Go.Value.bool true)) (Go.Operand.tmp 111), type := 4, pos := "theorems.go:116", after := #[{ on := 7, ground := Go.Ground.data }, { on := 10, ground := Go.Ground.data }], guard := none }, { dst := some 113, op := Go.Op.move (Go.Operand.tmp 112), type := 4, pos := "theorems.go:116", after := #[{ on := 11, ground := Go.Ground.data }, { on := 9, ground := Go.Ground.chain }], guard := none }, { dst := some 114, op := Go.Op.move (Go.Operand.tmp 15), type := 4, pos := "theorems.go:116", after := #[{ on := 12, ground := Go.Ground.guard }], guard := some (12, false) }, { dst := some 115, op := Go.Op.unOp Go.UnOp.not 4 (Go.Operand.tmp 114), type := 4, pos := "theorems.go:116", after := #[{ on := 13, ground := Go.Ground.data }, { on := 12, ground := Go.Ground.guard }], guard := some (12, false) }, { dst := some 116, op := Go.Op.pick (Go.Operand.tmp 113) (Go.Operand.const (Go.Value.bool true)) (Go.Operand.tmp 115), type := 4, pos := "theorems.go:116", after := #[{ on := 12, ground := Go.Ground.data }, { on := 14, ground := Go.Ground.data }], guard := none }, { dst := some 117, op := Go.Op.move (Go.Operand.tmp 116), type := 4, pos := "theorems.go:116", after := #[{ on := 15, ground := Go.Ground.data }, { on := 12, ground := Go.Ground.chain }], guard := none }, { dst := some 118, op := Go.Op.move (Go.Operand.tmp 5), type := 27, pos := "theorems.go:116", after := #[{ on := 16, ground := Go.Ground.guard }], guard := some (16, false) }, { dst := some 119, op := Go.Op.call { callee := Go.Callee.value (Go.Operand.func 15), args := #[Go.Operand.tmp 118], argTypes := #[27] }, type := 34, pos := "theorems.go:116", after := #[{ on := 17, ground := Go.Ground.data }, { on := 16, ground := Go.Ground.chain }, { on := 16, ground := Go.Ground.guard }], guard := some (16, false) }, { dst := some 120, op := Go.Op.call { callee := Go.Callee.builtin Go.Builtin.len, args := #[Go.Operand.tmp 119], argTypes := #[34] }, type := 3, pos := "theorems.go:116", after := #[{ on := 18, ground := Go.Ground.data }, { on := 16, ground := Go.Ground.guard }], guard := some (16, false) }, { dst := some 121, op := Go.Op.move (Go.Operand.tmp 10), type := 3, pos := "theorems.go:116", after := #[{ on := 16, ground := Go.Ground.guard }], guard := some (16, false) }, { dst := some 122, op := Go.Op.move (Go.Operand.tmp 12), type := 3, pos := "theorems.go:116", after := #[{ on := 16, ground := Go.Ground.guard }], guard := some (16, false) }, { dst := some 123, op := Go.Op.binOp Go.BinOp.add 3 (Go.Operand.tmp 121) (Go.Operand.tmp 122) 3, type := 3, pos := "theorems.go:116", after := #[{ on := 20, ground := Go.Ground.data }, { on := 21, ground := Go.Ground.data }, { on := 16, ground := Go.Ground.guard }], guard := some (16, false) }, { dst := some 124, op := Go.Op.binOp Go.BinOp.neq 3 (Go.Operand.tmp 120) (Go.Operand.tmp 123) 3, type := 4, pos := "theorems.go:116", after := #[{ on := 19, ground := Go.Ground.data }, { on := 22, ground := Go.Ground.data }, { on := 16, ground := Go.Ground.guard }], guard := some (16, false) }, { dst := some 125, op := Go.Op.pick (Go.Operand.tmp 117) (Go.Operand.const (Go.Value.bool true)) (Go.Operand.tmp 124), type := 4, pos := "theorems.go:116", after := #[{ on := 16, ground := Go.Ground.data }, { on := 23, ground := Go.Ground.data }], guard := none }, { dst := some 126, op := Go.Op.move (Go.Operand.tmp 125), type := 4, pos := "theorems.go:116", after := #[{ on := 24, ground := Go.Ground.data }, { on := 18, ground := Go.Ground.chain }], guard := none }, { dst := some 127, op := Go.Op.move (Go.Operand.tmp 13), type := 22, pos := "theorems.go:116", after := #[{ on := 25, ground := Go.Ground.guard }], guard := some (25, false) }, { dst := some 128, op := Go.Op.call { callee := Go.Callee.builtin Go.Builtin.len, args := #[Go.Operand.tmp 127], argTypes := #[22] }, type := 3, pos := "theorems.go:116", after := #[{ on := 26, ground := Go.Ground.data }, { on := 25, ground := Go.Ground.guard }], guard := some (25, false) }, { dst := some 129, op := Go.Op.binOp Go.BinOp.gtr 3 (Go.Operand.tmp 128) (Go.Operand.const (Go.Value.int Go.IntKind.i64 64)) 3, type := 4, pos := "theorems.go:116", after := #[{ on := 27, ground := Go.Ground.data }, { on := 25, ground := Go.Ground.guard }], guard := some (25, false) }, { dst := some 130, op := Go.Op.pick (Go.Operand.tmp 126) (Go.Operand.const (Go.Value.bool true)) (Go.Operand.tmp 129), type := 4, pos := "theorems.go:116", after := #[{ on := 25, ground := Go.Ground.data }, { on := 28, ground := Go.Ground.data }], guard := none }] true).wp Try.prog Q act wb0 := by
  have m_xb : ¬ (False) := by exact id
  refine wp_region_slots (fun b f w => R26 wb0 ok sb xb s Af Ap nf cf np cp a nn A9 c9 b f w) 30 [0, 1, 2, 3, 4, 5, 6, 7, 8, 9, 10, 11, 12, 13, 14, 15, 16, 17, 18, 19, 20, 21, 22, 23, 24, 25, 26, 27, 28, 29] [101, 102, 103, 104, 105, 106, 107, 108, 109, 110, 111, 112, 113, 114, 115, 116, 117, 118, 119, 120, 121, 122, 123, 124, 125, 126, 127, 128, 129, 130] 144 (by kernel_rfl) rfl rfl rfl (by kernel_rfl) (by kernel_rfl) hz (by kernel_rfl) ?_ ?_ ?_
  · exact { but := But.drewN_refl wb0, g2 := s2, g5 := s5, g10 := s10, g12 := s12, g13 := s13, g14 := s14, g15 := s15, p0 := nofun, p1 := nofun, p2 := nofun, p3 := nofun, p4 := nofun, p5 := nofun, p6 := nofun, p7 := nofun, p8 := nofun, p9 := nofun, p10 := nofun, p11 := nofun, p12 := nofun, p13 := nofun, p14 := nofun, p15 := nofun, p16 := nofun, p17 := nofun, p19 := nofun, p20 := nofun, p21 := nofun, p22 := nofun, p23 := nofun, p24 := nofun, p25 := nofun, p26 := nofun, p27 := nofun, p28 := nofun, p29 := nofun, x18 := nofun }
  · refine SSteps.cons (i := 0) (ds := []) (js := [3, 6, 7, 8, 9, 10, 11, 12, 13, 14, 15, 16, 17, 18, 19, 20, 21, 22, 23, 24, 25, 26, 27, 28, 29]) rfl (by kernel_rfl) (by kernel_rfl) (fun b f w hb0 hd hj h => ?_) ?_
    · exact Does.move { h with p0 := fun _ => h.g14 }
    refine SSteps.cons (i := 1) (ds := []) (js := [2, 3, 6, 7, 8, 9, 10, 11, 12, 13, 14, 15, 16, 17, 18, 19, 20, 21, 22, 23, 24, 25, 26, 27, 28, 29]) rfl (by kernel_rfl) (by kernel_rfl) (fun b f w hb0 hd hj h => ?_) ?_
    · exact Does.move { h with p1 := fun _ => h.g5 }
    refine SSteps.cons (i := 2) (ds := [1]) (js := [3, 6, 7, 8, 9, 10, 11, 12, 13, 14, 15, 16, 17, 18, 19, 20, 21, 22, 23, 24, 25, 26, 27, 28, 29]) rfl (by kernel_rfl) (by kernel_rfl) (fun b f w hb0 hd hj h => ?_) ?_
    · have d1 : b 1 = true := hd 1 (by decide)
      have e0 := (h.p1 d1)
      refine Does.call (args := #[.pointer (some ⟨sb, 0, none⟩)]) (by simp [Slots.eval, e0]) rfl (by kernel_rfl) ?_
      refine (left.calls (hs.keep (Keeps.below (h.but.below (fun _ h => h.elim) (Nat.le_refl _)))) hg).mono ?_
      rintro e w' ⟨rfl, hd⟩
      exact ⟨_, rfl, { (h.below hd.below) with p2 := fun _ => rfl }⟩
    refine SSteps.cons (i := 3) (ds := [0, 2, 1]) (js := [6, 7, 8, 9, 10, 11, 12, 13, 14, 15, 16, 17, 18, 19, 20, 21, 22, 23, 24, 25, 26, 27, 28, 29]) rfl (by kernel_rfl) (by kernel_rfl) (fun b f w hb0 hd hj h => ?_) ?_
    · have d0 : b 0 = true := hd 0 (by decide)
      have d2 : b 2 = true := hd 2 (by decide)
      exact Does.binOp (v := .int .i64 s.room) (by rw [show f.eval (.tmp 101) = _ from (h.p0 d0)]; rw [show f.eval (.tmp 103) = _ from (h.p2 d2)]; rfl) (by rw [show f.eval (.tmp 101) = _ from (h.p0 d0)]; rw [show f.eval (.tmp 103) = _ from (h.p2 d2)]; exact add3 h1) { h with p3 := fun _ => rfl }
    refine SSteps.cons (i := 4) (ds := []) (js := [5, 6, 7, 8, 9, 10, 11, 12, 13, 14, 15, 16, 17, 18, 19, 20, 21, 22, 23, 24, 25, 26, 27, 28, 29]) rfl (by kernel_rfl) (by kernel_rfl) (fun b f w hb0 hd hj h => ?_) ?_
    · have e0 := h.g2
      exact Does.fieldAddr (v := .pointer (some ⟨xb, 1, none⟩)) (by rw [show f.eval (.tmp 2) = _ from e0]; go_simp) { h with p4 := fun _ => rfl }
    refine SSteps.cons (i := 5) (ds := [4]) (js := [6, 7, 8, 9, 10, 11, 12, 13, 14, 15, 16, 17, 18, 19, 20, 21, 22, 23, 24, 25, 26, 27, 28, 29]) rfl (by kernel_rfl) (by kernel_rfl) (fun b f w hb0 hd hj h => ?_) ?_
    · have d4 : b 4 = true := hd 4 (by decide)
      have e0 := (h.p4 d4)
      have hc : w.cell? ⟨xb, 1, none⟩ = some (.int .i64 s.room) := (h_xb.but h.but m_xb).cell 1
      exact Does.load (v := .int .i64 s.room) (by rw [show f.eval (.tmp 105) = _ from e0]; go_simp) { h with p5 := fun _ => rfl }
    refine SSteps.cons (i := 6) (ds := [3, 5, 0, 2, 1, 4]) (js := [7, 8, 9, 10, 11, 12, 13, 14, 15, 16, 17, 18, 19, 20, 21, 22, 23, 24, 25, 26, 27, 28, 29]) rfl (by kernel_rfl) (by kernel_rfl) (fun b f w hb0 hd hj h => ?_) ?_
    · have d3 : b 3 = true := hd 3 (by decide)
      have d5 : b 5 = true := hd 5 (by decide)
      exact Does.binOp (v := .bool false) (by rw [show f.eval (.tmp 104) = _ from (h.p3 d3)]; rw [show f.eval (.tmp 106) = _ from (h.p5 d5)]; rfl) (by rw [show f.eval (.tmp 104) = _ from (h.p3 d3)]; rw [show f.eval (.tmp 106) = _ from (h.p5 d5)]; exact neq3 (by simp)) { h with p6 := fun _ => rfl }
    refine SSteps.cons (i := 7) (ds := [6, 2, 3, 5, 0, 1, 4]) (js := [8, 9, 10, 11, 12, 13, 14, 15, 16, 17, 18, 19, 20, 21, 22, 23, 24, 25, 26, 27, 28, 29]) rfl (by kernel_rfl) (by kernel_rfl) (fun b f w hb0 hd hj h => ?_) ?_
    · have d6 : b 6 = true := hd 6 (by decide)
      exact Does.move { h with p7 := fun _ => (h.p6 d6) }
    refine SSteps.consG (i := 8) (want := false) (ds := [7, 6, 2, 3, 5, 0, 1, 4]) (js := [9, 10, 11, 12, 13, 14, 15, 16, 17, 18, 19, 20, 21, 22, 23, 24, 25, 26, 27, 28, 29]) rfl (by kernel_rfl) (by kernel_rfl) (fun b f w hb0 hd hj h => ?_) ?_
    · have d7 : b 7 = true := hd 7 (by decide)
      refine ⟨false, told_at rfl (h.p7 d7), fun _ => ?_, fun hx => absurd rfl hx⟩
      exact Does.move { h with p8 := fun _ => h.g5 }
    refine SSteps.consG (i := 9) (want := false) (ds := [8, 7, 6, 2, 3, 5, 0, 1, 4]) (js := [10, 11, 12, 13, 14, 15, 16, 17, 18, 19, 20, 21, 22, 23, 24, 25, 26, 27, 28, 29]) rfl (by kernel_rfl) (by kernel_rfl) (fun b f w hb0 hd hj h => ?_) ?_
    · have d7 : b 7 = true := hd 7 (by decide)
      have d8 : b 8 = true := hd 8 (by decide)
      refine ⟨false, told_at rfl (h.p7 d7), fun _ => ?_, fun hx => absurd rfl hx⟩
      have e0 := (h.p8 d8)
      refine Does.call (args := #[.pointer (some ⟨sb, 0, none⟩)]) (by simp [Slots.eval, e0]) rfl (by kernel_rfl) ?_
      refine (left.calls (hs.keep (Keeps.below (h.but.below (fun _ h => h.elim) (Nat.le_refl _)))) hg).mono ?_
      rintro e w' ⟨rfl, hd⟩
      exact ⟨_, rfl, { (h.below hd.below) with p9 := fun _ => rfl }⟩
    refine SSteps.consG (i := 10) (want := false) (ds := [9, 7, 8, 6, 2, 3, 5, 0, 1, 4]) (js := [11, 12, 13, 14, 15, 16, 17, 18, 19, 20, 21, 22, 23, 24, 25, 26, 27, 28, 29]) rfl (by kernel_rfl) (by kernel_rfl) (fun b f w hb0 hd hj h => ?_) ?_
    · have d7 : b 7 = true := hd 7 (by decide)
      have d9 : b 9 = true := hd 9 (by decide)
      refine ⟨false, told_at rfl (h.p7 d7), fun _ => ?_, fun hx => absurd rfl hx⟩
      exact Does.binOp (v := .bool false) (by rw [show f.eval (.tmp 110) = _ from (h.p9 d9)]; rfl) (by rw [show f.eval (.tmp 110) = _ from (h.p9 d9)]; exact lss3 h2) { h with p10 := fun _ => rfl }
    refine SSteps.cons (i := 11) (ds := [7, 10, 6, 2, 3, 5, 0, 1, 4, 9, 8]) (js := [12, 13, 14, 15, 16, 17, 18, 19, 20, 21, 22, 23, 24, 25, 26, 27, 28, 29]) rfl (by kernel_rfl) (by kernel_rfl) (fun b f w hb0 hd hj h => ?_) ?_
    · have d7 : b 7 = true := hd 7 (by decide)
      have d10 : b 10 = true := hd 10 (by decide)
      exact Does.run (v := .bool false) (w' := w) (by simp only [execOp]; rw [show f.eval (.tmp 108) = _ from (h.p7 d7)]; rw [show f.eval (.tmp 111) = _ from (h.p10 d10)]; rfl) { h with p11 := fun _ => rfl }
    refine SSteps.cons (i := 12) (ds := [11, 9, 7, 10, 6, 2, 3, 5, 0, 1, 4, 8]) (js := [13, 14, 15, 16, 17, 18, 19, 20, 21, 22, 23, 24, 25, 26, 27, 28, 29]) rfl (by kernel_rfl) (by kernel_rfl) (fun b f w hb0 hd hj h => ?_) ?_
    · have d11 : b 11 = true := hd 11 (by decide)
      exact Does.move { h with p12 := fun _ => (h.p11 d11) }
    refine SSteps.consG (i := 13) (want := false) (ds := [12, 11, 9, 7, 10, 6, 2, 3, 5, 0, 1, 4, 8]) (js := [14, 15, 16, 17, 18, 19, 20, 21, 22, 23, 24, 25, 26, 27, 28, 29]) rfl (by kernel_rfl) (by kernel_rfl) (fun b f w hb0 hd hj h => ?_) ?_
    · have d12 : b 12 = true := hd 12 (by decide)
      refine ⟨false, told_at rfl (h.p12 d12), fun _ => ?_, fun hx => absurd rfl hx⟩
      exact Does.move { h with p13 := fun _ => h.g15 }
    refine SSteps.consG (i := 14) (want := false) (ds := [13, 12, 11, 9, 7, 10, 6, 2, 3, 5, 0, 1, 4, 8]) (js := [15, 16, 17, 18, 19, 20, 21, 22, 23, 24, 25, 26, 27, 28, 29]) rfl (by kernel_rfl) (by kernel_rfl) (fun b f w hb0 hd hj h => ?_) ?_
    · have d12 : b 12 = true := hd 12 (by decide)
      have d13 : b 13 = true := hd 13 (by decide)
      refine ⟨false, told_at rfl (h.p12 d12), fun _ => ?_, fun hx => absurd rfl hx⟩
      have e0 := (h.p13 d13)
      exact Does.run (v := .bool false) (w' := w) (by simp only [execOp]; rw [show f.eval (.tmp 114) = _ from e0]; rfl) { h with p14 := fun _ => rfl }
    refine SSteps.cons (i := 15) (ds := [12, 14, 11, 9, 7, 10, 6, 2, 3, 5, 0, 1, 4, 8, 13]) (js := [16, 17, 18, 19, 20, 21, 22, 23, 24, 25, 26, 27, 28, 29]) rfl (by kernel_rfl) (by kernel_rfl) (fun b f w hb0 hd hj h => ?_) ?_
    · have d12 : b 12 = true := hd 12 (by decide)
      have d14 : b 14 = true := hd 14 (by decide)
      exact Does.run (v := .bool false) (w' := w) (by simp only [execOp]; rw [show f.eval (.tmp 113) = _ from (h.p12 d12)]; rw [show f.eval (.tmp 115) = _ from (h.p14 d14)]; rfl) { h with p15 := fun _ => rfl }
    refine SSteps.cons (i := 16) (ds := [15, 12, 14, 11, 9, 7, 10, 6, 2, 3, 5, 0, 1, 4, 8, 13]) (js := [17, 18, 19, 20, 21, 22, 23, 24, 25, 26, 27, 28, 29]) rfl (by kernel_rfl) (by kernel_rfl) (fun b f w hb0 hd hj h => ?_) ?_
    · have d15 : b 15 = true := hd 15 (by decide)
      exact Does.move { h with p16 := fun _ => (h.p15 d15) }
    refine SSteps.consG (i := 17) (want := false) (ds := [16, 15, 12, 14, 11, 9, 7, 10, 6, 2, 3, 5, 0, 1, 4, 8, 13]) (js := [18, 19, 23, 24, 25, 26, 27, 28, 29]) rfl (by kernel_rfl) (by kernel_rfl) (fun b f w hb0 hd hj h => ?_) ?_
    · have d16 : b 16 = true := hd 16 (by decide)
      refine ⟨false, told_at rfl (h.p16 d16), fun _ => ?_, fun hx => absurd rfl hx⟩
      exact Does.move { h with p17 := fun _ => h.g5 }
    refine SSteps.consG (i := 18) (want := false) (ds := [17, 16, 15, 12, 14, 11, 9, 7, 10, 6, 2, 3, 5, 0, 1, 4, 8, 13]) (js := [19, 23, 24, 25, 26, 27, 28, 29]) rfl (by kernel_rfl) (by kernel_rfl) (fun b f w hb0 hd hj h => ?_) ?_
    · have d16 : b 16 = true := hd 16 (by decide)
      have d17 : b 17 = true := hd 17 (by decide)
      refine ⟨false, told_at rfl (h.p16 d16), fun _ => ?_, fun hx => absurd rfl hx⟩
      have e0 := (h.p17 d17)
      refine Does.call (args := #[.pointer (some ⟨sb, 0, none⟩)]) (by simp [Slots.eval, e0]) rfl (by kernel_rfl) ?_
      refine (calls.calls (hs.keep (Keeps.below (h.but.below (fun _ h => h.elim) (Nat.le_refl _)))) hal).mono ?_
      rintro e w' ⟨v', rfl, ho, hbl⟩
      obtain ⟨A', c', rfl⟩ := own_slice ho
      exact ⟨_, rfl, { (h.below hbl) with x18 := fun _ => ⟨A', c', rfl⟩ }⟩
    refine SSteps.consG (i := 19) (want := false) (ds := [18, 16, 17, 15, 12, 14, 11, 9, 7, 10, 6, 2, 3, 5, 0, 1, 4, 8, 13]) (js := [23, 24, 25, 26, 27, 28, 29]) rfl (by kernel_rfl) (by kernel_rfl) (fun b f w hb0 hd hj h => ?_) ?_
    · have d16 : b 16 = true := hd 16 (by decide)
      have d18 : b 18 = true := hd 18 (by decide)
      refine ⟨false, told_at rfl (h.p16 d16), fun _ => ?_, fun hx => absurd rfl hx⟩
      obtain ⟨A', c', e⟩ := h.x18 d18
      exact Does.lenSlice Try.underlying34 e { h with p19 := fun _ => rfl }
    refine SSteps.consG (i := 20) (want := false) (ds := [16, 15, 12, 14, 11, 9, 7, 10, 6, 2, 3, 5, 0, 1, 4, 8, 13]) (js := [22, 23, 24, 25, 26, 27, 28, 29]) rfl (by kernel_rfl) (by kernel_rfl) (fun b f w hb0 hd hj h => ?_) ?_
    · have d16 : b 16 = true := hd 16 (by decide)
      refine ⟨false, told_at rfl (h.p16 d16), fun _ => ?_, fun hx => absurd rfl hx⟩
      exact Does.move { h with p20 := fun _ => h.g10 }
    refine SSteps.consG (i := 21) (want := false) (ds := [16, 15, 12, 14, 11, 9, 7, 10, 6, 2, 3, 5, 0, 1, 4, 8, 13]) (js := [22, 23, 24, 25, 26, 27, 28, 29]) rfl (by kernel_rfl) (by kernel_rfl) (fun b f w hb0 hd hj h => ?_) ?_
    · have d16 : b 16 = true := hd 16 (by decide)
      refine ⟨false, told_at rfl (h.p16 d16), fun _ => ?_, fun hx => absurd rfl hx⟩
      exact Does.move { h with p21 := fun _ => h.g12 }
    refine SSteps.consG (i := 22) (want := false) (ds := [20, 21, 16, 15, 12, 14, 11, 9, 7, 10, 6, 2, 3, 5, 0, 1, 4, 8, 13]) (js := [23, 24, 25, 26, 27, 28, 29]) rfl (by kernel_rfl) (by kernel_rfl) (fun b f w hb0 hd hj h => ?_) ?_
    · have d16 : b 16 = true := hd 16 (by decide)
      have d20 : b 20 = true := hd 20 (by decide)
      have d21 : b 21 = true := hd 21 (by decide)
      refine ⟨false, told_at rfl (h.p16 d16), fun _ => ?_, fun hx => absurd rfl hx⟩
      exact Does.binOp (v := .int .i64 (s.all.length : Int)) (by rw [show f.eval (.tmp 121) = _ from (h.p20 d20)]; rw [show f.eval (.tmp 122) = _ from (h.p21 d21)]; rfl) (by rw [show f.eval (.tmp 121) = _ from (h.p20 d20)]; rw [show f.eval (.tmp 122) = _ from (h.p21 d21)]; exact add3 h3) { h with p22 := fun _ => rfl }
    refine SSteps.consG (i := 23) (want := false) (ds := [19, 22, 16, 18, 17, 15, 12, 14, 11, 9, 7, 10, 6, 2, 3, 5, 0, 1, 4, 8, 13, 20, 21]) (js := [24, 25, 26, 27, 28, 29]) rfl (by kernel_rfl) (by kernel_rfl) (fun b f w hb0 hd hj h => ?_) ?_
    · have d16 : b 16 = true := hd 16 (by decide)
      have d19 : b 19 = true := hd 19 (by decide)
      have d22 : b 22 = true := hd 22 (by decide)
      refine ⟨false, told_at rfl (h.p16 d16), fun _ => ?_, fun hx => absurd rfl hx⟩
      exact Does.binOp (v := .bool false) (by rw [show f.eval (.tmp 120) = _ from (h.p19 d19)]; rw [show f.eval (.tmp 123) = _ from (h.p22 d22)]; rfl) (by rw [show f.eval (.tmp 120) = _ from (h.p19 d19)]; rw [show f.eval (.tmp 123) = _ from (h.p22 d22)]; exact neq3 (by simp)) { h with p23 := fun _ => rfl }
    refine SSteps.cons (i := 24) (ds := [16, 23, 15, 12, 14, 11, 9, 7, 10, 6, 2, 3, 5, 0, 1, 4, 8, 13, 19, 22, 18, 17, 20, 21]) (js := [25, 26, 27, 28, 29]) rfl (by kernel_rfl) (by kernel_rfl) (fun b f w hb0 hd hj h => ?_) ?_
    · have d16 : b 16 = true := hd 16 (by decide)
      have d23 : b 23 = true := hd 23 (by decide)
      exact Does.run (v := .bool false) (w' := w) (by simp only [execOp]; rw [show f.eval (.tmp 117) = _ from (h.p16 d16)]; rw [show f.eval (.tmp 124) = _ from (h.p23 d23)]; rfl) { h with p24 := fun _ => rfl }
    refine SSteps.cons (i := 25) (ds := [24, 18, 16, 23, 15, 12, 14, 11, 9, 7, 10, 6, 2, 3, 5, 0, 1, 4, 8, 13, 19, 22, 17, 20, 21]) (js := [26, 27, 28, 29]) rfl (by kernel_rfl) (by kernel_rfl) (fun b f w hb0 hd hj h => ?_) ?_
    · have d24 : b 24 = true := hd 24 (by decide)
      exact Does.move { h with p25 := fun _ => (h.p24 d24) }
    refine SSteps.consG (i := 26) (want := false) (ds := [25, 24, 18, 16, 23, 15, 12, 14, 11, 9, 7, 10, 6, 2, 3, 5, 0, 1, 4, 8, 13, 19, 22, 17, 20, 21]) (js := [27, 28, 29]) rfl (by kernel_rfl) (by kernel_rfl) (fun b f w hb0 hd hj h => ?_) ?_
    · have d25 : b 25 = true := hd 25 (by decide)
      refine ⟨false, told_at rfl (h.p25 d25), fun _ => ?_, fun hx => absurd rfl hx⟩
      exact Does.move { h with p26 := fun _ => h.g13 }
    refine SSteps.consG (i := 27) (want := false) (ds := [26, 25, 24, 18, 16, 23, 15, 12, 14, 11, 9, 7, 10, 6, 2, 3, 5, 0, 1, 4, 8, 13, 19, 22, 17, 20, 21]) (js := [28, 29]) rfl (by kernel_rfl) (by kernel_rfl) (fun b f w hb0 hd hj h => ?_) ?_
    · have d25 : b 25 = true := hd 25 (by decide)
      have d26 : b 26 = true := hd 26 (by decide)
      refine ⟨false, told_at rfl (h.p25 d25), fun _ => ?_, fun hx => absurd rfl hx⟩
      exact Does.lenSlice Try.underlying22 (h.p26 d26) { h with p27 := fun _ => rfl }
    refine SSteps.consG (i := 28) (want := false) (ds := [27, 25, 26, 24, 18, 16, 23, 15, 12, 14, 11, 9, 7, 10, 6, 2, 3, 5, 0, 1, 4, 8, 13, 19, 22, 17, 20, 21]) (js := [29]) rfl (by kernel_rfl) (by kernel_rfl) (fun b f w hb0 hd hj h => ?_) ?_
    · have d25 : b 25 = true := hd 25 (by decide)
      have d27 : b 27 = true := hd 27 (by decide)
      refine ⟨false, told_at rfl (h.p25 d25), fun _ => ?_, fun hx => absurd rfl hx⟩
      exact Does.binOp (v := .bool false) (by rw [show f.eval (.tmp 128) = _ from (h.p27 d27)]; rfl) (by rw [show f.eval (.tmp 128) = _ from (h.p27 d27)]; exact gtr3 h4) { h with p28 := fun _ => rfl }
    refine SSteps.cons (i := 29) (ds := [25, 28, 24, 18, 16, 23, 15, 12, 14, 11, 9, 7, 10, 6, 2, 3, 5, 0, 1, 4, 8, 13, 19, 22, 17, 20, 21, 27, 26]) (js := []) rfl (by kernel_rfl) (by kernel_rfl) (fun b f w hb0 hd hj h => ?_) ?_
    · have d25 : b 25 = true := hd 25 (by decide)
      have d28 : b 28 = true := hd 28 (by decide)
      exact Does.run (v := .bool false) (w' := w) (by simp only [execOp]; rw [show f.eval (.tmp 126) = _ from (h.p25 d25)]; rw [show f.eval (.tmp 129) = _ from (h.p28 d28)]; rfl) { h with p29 := fun _ => rfl }
    exact SSteps.nil
  · intro b f w' hall h _
    exact hQ f w' (h.p29 (hall 29 (by decide))) h.but 
structure R21w (wb0 : World) (ok : Nat → Prop) (sb eb : Nat) (s : Sh) (kd on : Int) (n : ByteArray) (Ad : Option Addr) (cd : Nat) (d : List Int) (tw : Bool) (b : Bits) (f : Slots) (w : World) : Prop where
  but : But (fun q => ok q) wb0 w
  g5 : f 5 = .pointer (some ⟨sb, 0, none⟩)
  g8 : f 8 = .pointer (some ⟨eb, 0, none⟩)
  p0 : b 0 = true → f 80 = .pointer (some ⟨sb, 0, none⟩)
  p1 : b 1 = true → f 81 = .pointer (some ⟨eb, 1, none⟩)
  p2 : b 2 = true → f 82 = .string n
  p4 : b 4 = true → f 84 = .pointer (some ⟨eb, 2, none⟩)
  p5 : b 5 = true → f 85 = .slice Ad d.length cd
  p8 : b 8 = true → f 11 = errV (askE s 2 n (lkW s n d))
  x0 : b 7 = false → Below wb0.heap.size wb0 w
  x3 : b 3 = true → b 6 = false → ∃ q, f 83 = .slice (some ⟨q, 0, none⟩) 0 0 ∧ wb0.heap.size ≤ q ∧ w.ownsRow q 5 1 (.slice (some ⟨q, 0, none⟩) 0 0) 0 []
  x6 : b 6 = true → b 7 = false → DataAt w (fun k => wb0.heap.size ≤ k) (f 86) d
  x7 : b 7 = true → f 87 = errV (askE s 2 n (lkW s n d)) ∧ ShelfAt w (fun k => ok k ∨ wb0.heap.size ≤ k) sb (s.wr n d) ∧ ∀ okd v bs, DataAt wb0 okd v bs → DataAt w okd v bs
theorem R21w.below {wb0 : World} {ok : Nat → Prop} {sb eb : Nat} {s : Sh} {kd on : Int} {n : ByteArray} {Ad : Option Addr} {cd : Nat} {d : List Int} {tw : Bool} {b : Bits} {f : Slots} {w w' : World} (h : R21w wb0 ok sb eb s kd on n Ad cd d tw b f w) (g : Below w.heap.size w w') : R21w wb0 ok sb eb s kd on n Ad cd d tw b f w' :=
  { h with
    but := h.but.grown (Go.X.grown_of_below g none) (fun _ e => nomatch e)
    x0 := fun hb => (h.x0 hb).trans (g.mono (h.x0 hb).size)
    x3 := fun h1 h2 => (h.x3 h1 h2).imp fun _ ⟨e, k1, k2⟩ => ⟨e, k1, ownsRow_keep (ok := fun _ => True) k2 (Keeps.below g) (fun _ _ => trivial)⟩
    x6 := fun h1 h2 => (h.x6 h1 h2).keep (Keeps.below g)
    x7 := fun h1 => ⟨(h.x7 h1).1, (h.x7 h1).2.1.keep (Keeps.below g), fun okd v bs hv => ((h.x7 h1).2.2 okd v bs hv).keep (Keeps.below g)⟩ }
set_option maxRecDepth 100000 in
theorem R21w.wp (wb0 : World) (ok : Nat → Prop) (sb eb : Nat) (s : Sh) (kd on : Int) (n : ByteArray) (Ad : Option Addr) (cd : Nat) (d : List Int) (tw : Bool) (h_eb : Blk wb0 eb 41 [.int .i64 kd, .string n, .slice Ad d.length cd, .int .i64 on, .bool tw]) (m_eb : ¬ (ok eb)) (hs : ShelfAt wb0 ok sb s) (hg : Good s) (hn : n.size ≤ maxLen) (hall : s.all.length ≤ 1073741824) (hD : Kd.C (Kd.int .u8) wb0 Ad d.length d) (hdl : d.length ≤ 140737488355328) (act : Act) (Q : Exit → Act → World → Prop) (hz : act.tmps.size = 144)
    (s5 : Slots.of act 5 = .pointer (some ⟨sb, 0, none⟩)) (s8 : Slots.of act 8 = .pointer (some ⟨eb, 0, none⟩))
    (hQ : ∀ (f : Slots) (w' : World), f 11 = errV (askE s 2 n (lkW s n d)) → But (fun q => ok q) wb0 w' → ShelfAt w' (fun k => ok k ∨ wb0.heap.size ≤ k) sb (s.wr n d) → (∀ okd v bs, DataAt wb0 okd v bs → DataAt w' okd v bs) → Q .normal (Act.puts act f [80, 81, 82, 83, 84, 85, 86, 87, 11]) w') :
    (Code.region 21 #[{ dst := some 80, op := Go.Op.move (Go.Operand.tmp 5), type := 27, pos := "theorems.go:108", after := #[], guard := none }, { dst := some 81, op := Go.Op.fieldAddr 41 (Go.Operand.tmp 8) 1, type := 0, pos := "theorems.go:108", after := #[], guard := none }, { dst := some 82, op := Go.Op.load 9 (Go.Operand.tmp 81), type := 9, pos := "theorems.go:108", after := #[{ on := 1, ground := Go.Ground.data }], guard := none }, { dst := some 83, op := Go.Op.buildSlice 39 0 #[], type := 39, pos := "theorems.go:108", after := #[], guard := none }, { dst := some 84, op := Go.Op.fieldAddr 41 (Go.Operand.tmp 8) 2, type := 0, pos := "theorems.go:108", after := #[], guard := none }, { dst := some 85, op := Go.Op.load 39 (Go.Operand.tmp 84), type := 39, pos := "theorems.go:108", after := #[{ on := 4, ground := Go.Ground.data }], guard := none }, { dst := some 86, op := Go.Op.call { callee := Go.Callee.builtin Go.Builtin.append, args := #[Go.Operand.tmp 83, Go.Operand.tmp 85], argTypes := #[39, 39] }, type := 39, pos := "theorems.go:108", after := #[{ on := 3, ground := Go.Ground.data }, { on := 5, ground := Go.Ground.data }], guard := none }, { dst := some 87, op := Go.Op.call { callee := Go.Callee.value (Go.Operand.func 18), args := #[Go.Operand.tmp 80, Go.Operand.tmp 82, Go.Operand.tmp 86], argTypes := #[27, 9, 39] }, type := 46, pos := "theorems.go:108", after := #[{ on := 0, ground := Go.Ground.data }, { on := 2, ground := Go.Ground.data }, { on := 6, ground := Go.Ground.data }, { on := 6, ground := Go.Ground.chain }], guard := none }, { dst := some 11, op := Go.Op.assign (Go.Operand.tmp 87), type := 46, pos := "theorems.go:108", after := #[{ on := 7, ground := Go.Ground.data }, { on := 7, ground := Go.Ground.chain }, { on := 0, ground := Go.Ground.phase }, { on := 1, ground := Go.Ground.phase }, { on := 2, ground := Go.Ground.phase }, { on := 3, ground := Go.Ground.phase }, { on := 4, ground := Go.Ground.phase }, { on := 5, ground := Go.Ground.phase }, { on := 6, ground := Go.Ground.phase }, { on := 7, ground := Go.Ground.phase }], guard := none }] true).wp Try.prog Q act wb0 := by
  refine wp_region_slots (fun b f w => R21w wb0 ok sb eb s kd on n Ad cd d tw b f w) 9 [0, 1, 2, 3, 4, 5, 6, 7, 8] [80, 81, 82, 83, 84, 85, 86, 87, 11] 144 (by kernel_rfl) rfl rfl rfl (by kernel_rfl) (by kernel_rfl) hz (by kernel_rfl) ?_ ?_ ?_
  · exact { but := But.drewN_refl wb0, g5 := s5, g8 := s8, p0 := nofun, p1 := nofun, p2 := nofun, p4 := nofun, p5 := nofun, p8 := nofun, x0 := fun _ => (Below.refl _ wb0).drew, x3 := nofun, x6 := nofun, x7 := nofun }
  · refine SSteps.cons (i := 0) (ds := []) (js := [7, 8]) rfl (by kernel_rfl) (by kernel_rfl) (fun b f w hb0 hd hj h => ?_) ?_
    · exact Does.move { h with p0 := fun _ => h.g5 }
    refine SSteps.cons (i := 1) (ds := []) (js := [2, 7, 8]) rfl (by kernel_rfl) (by kernel_rfl) (fun b f w hb0 hd hj h => ?_) ?_
    · have e0 := h.g8
      exact Does.fieldAddr (v := .pointer (some ⟨eb, 1, none⟩)) (by rw [show f.eval (.tmp 8) = _ from e0]; go_simp) { h with p1 := fun _ => rfl }
    refine SSteps.cons (i := 2) (ds := [1]) (js := [7, 8]) rfl (by kernel_rfl) (by kernel_rfl) (fun b f w hb0 hd hj h => ?_) ?_
    · have d1 : b 1 = true := hd 1 (by decide)
      have e0 := (h.p1 d1)
      have hc : w.cell? ⟨eb, 1, none⟩ = some (.string n) := (h_eb.but h.but m_eb).cell 1
      exact Does.load (v := .string n) (by rw [show f.eval (.tmp 81) = _ from e0]; go_simp) { h with p2 := fun _ => rfl }
    refine SSteps.cons (i := 3) (ds := []) (js := [6, 7, 8]) rfl (by kernel_rfl) (by kernel_rfl) (fun b f w hb0 hd hj h => ?_) ?_
    · refine Does.buildSlice0 39 5 1 u39w (by kernel_rfl) ?_
      intro w' ho' hbl
      exact { (h.below hbl) with x3 := fun _ _ => ⟨w.heap.size, rfl, (h.x0 (hj 7 (by decide))).size, ho'⟩ }
    refine SSteps.cons (i := 4) (ds := []) (js := [5, 6, 7, 8]) rfl (by kernel_rfl) (by kernel_rfl) (fun b f w hb0 hd hj h => ?_) ?_
    · have e0 := h.g8
      exact Does.fieldAddr (v := .pointer (some ⟨eb, 2, none⟩)) (by rw [show f.eval (.tmp 8) = _ from e0]; go_simp) { h with p4 := fun _ => rfl }
    refine SSteps.cons (i := 5) (ds := [4]) (js := [6, 7, 8]) rfl (by kernel_rfl) (by kernel_rfl) (fun b f w hb0 hd hj h => ?_) ?_
    · have d4 : b 4 = true := hd 4 (by decide)
      have e0 := (h.p4 d4)
      have hc : w.cell? ⟨eb, 2, none⟩ = some (.slice Ad d.length cd) := (h_eb.but h.but m_eb).cell 2
      exact Does.load (v := .slice Ad d.length cd) (by rw [show f.eval (.tmp 84) = _ from e0]; go_simp) { h with p5 := fun _ => rfl }
    refine SSteps.cons (i := 6) (ds := [3, 5, 4]) (js := [7, 8]) rfl (by kernel_rfl) (by kernel_rfl) (fun b f w hb0 hd hj h => ?_) ?_
    · have d5 : b 5 = true := hd 5 (by decide)
      have d3 : b 3 = true := hd 3 (by decide)
      have e5 := (h.p5 d5)
      obtain ⟨q, e3, hq, ho⟩ := h.x3 d3 hb0
      have hb7 : b 7 = false := hj 7 (by decide)
      refine Does.appendAny q (.int .u8 0) 1 1 u39w info5 rfl (by decide) e3 ho e5 (by rw [nums_length]; omega) (C_bytes (Kd.C_below hD (h.x0 hb7))) (nums_one d) (by simp only [maxLen]; omega) (by omega) (Nat.le_of_lt (World.ownsRow.lt ho q rfl).2) ?_
      intro v' w' ho' ha
      have hb' := (h.x0 hb7).grown ha.grown (h.x0 hb7).size (by intro k e; cases e; exact hq)
      exact { but := But.of_below hb', x0 := fun _ => hb', x3 := fun _ hf => tf hf, x6 := fun _ _ => DataAt.of_own (base := q) (by have k := ho'; rw [Nat.zero_add, List.nil_append] at k; exact k) (fun g hg => Nat.le_trans hq (own_ge ho' g hg)), x7 := fun hf => no hb7 hf, g5 := h.g5, g8 := h.g8, p0 := h.p0, p1 := h.p1, p2 := h.p2, p4 := h.p4, p5 := h.p5, p8 := h.p8 }
    refine SSteps.cons (i := 7) (ds := [0, 2, 6, 1, 3, 5, 4]) (js := [8]) rfl (by kernel_rfl) (by kernel_rfl) (fun b f w hb0 hd hj h => ?_) ?_
    · have d0 : b 0 = true := hd 0 (by decide)
      have d2 : b 2 = true := hd 2 (by decide)
      have d6 : b 6 = true := hd 6 (by decide)
      have e0 := (h.p0 d0)
      have e2 := (h.p2 d2)
      have hd := h.x6 d6 hb0
      obtain ⟨A6, c6, e6, _, _⟩ := hd.slice
      have hS := (hs.bound.keep (Keeps.below (h.x0 hb0)))
      refine Does.call (args := #[.pointer (some ⟨sb, 0, none⟩), .string n, .slice A6 d.length c6]) (by simp [Slots.eval, e0, e2, e6]) rfl (by kernel_rfl) ?_
      refine (write.calls hS hg n hn hall A6 c6 d (fun W hW _ => ?_) hdl).mono ?_
      · rw [e6] at hd
        rcases hd with ⟨h0, A0, c0, e⟩ | ⟨g, c', rest, e, k1, k2, k3, k4⟩
        · subst h0
          exact ⟨rfl, by simp, fun h => absurd h (Nat.lt_irrefl _)⟩
        · obtain ⟨A7, c7, e7, _, k7⟩ := DataAt.slice (w := W) (ok := fun _ => True) (.inr ⟨g, c', rest, e, k1, k2, trivial, k4.but hW (fun h => by have := h.2; omega)⟩)
          cases e7
          exact k7
      rintro e w' ⟨rfl, hs', hb', hdt⟩
      have hbt : But (fun q => ok q) wb0 w' := But.trans2 (But.of_below (h.x0 hb0)) (hb'.imp fun k hk => hk.1)
      exact ⟨_, rfl, { but := hbt, x0 := fun hf => tf hf, x3 := fun _ hf => no (show b 6 = false from hf) d6, x6 := fun _ hf => tf hf, x7 := fun _ => ⟨rfl, hs'.mono (fun k hk => hk.imp (fun h => h.1) fun hk => Nat.le_trans (h.x0 hb0).size hk), fun okd v bs hv => hdt okd v bs (hv.keep (Keeps.below (h.x0 hb0)))⟩, g5 := h.g5, g8 := h.g8, p0 := h.p0, p1 := h.p1, p2 := h.p2, p4 := h.p4, p5 := h.p5, p8 := h.p8 }⟩
    refine SSteps.cons (i := 8) (ds := [7, 0, 1, 2, 3, 4, 5, 6]) (js := []) rfl (by kernel_rfl) (by kernel_rfl) (fun b f w hb0 hd hj h => ?_) ?_
    · have d7 : b 7 = true := hd 7 (by decide)
      exact Does.assign { h with p8 := fun _ => (h.x7 d7).1 }
    exact SSteps.nil
  · intro b f w' hall h _
    exact hQ f w' (h.p8 (hall 8 (by decide))) h.but  (h.x7 (hall 7 (by decide))).2.1 (h.x7 (hall 7 (by decide))).2.2
end Go.Proofs.Ytplknppmaepinaa.S
/- ShelfRoom: the walk. -/
namespace Go.Proofs.Ytplknppmaepinaa.S
open Go Go.RowKit Go.X Go.Maps Go.Proofs.YtplknppmaepinaaW.PrintWords Go.Proofs.Ytplknppmaepinaa.F
set_option maxRecDepth 100000
/-- A round's head. -/
structure RI (W1 wr : World) (N sb : Nat) (room : Int) (i : Nat) : Prop where
  mk' ::
  out : ∃ s, Good s ∧ s.room = room ∧ s.all.length ≤ i ∧ ShelfAt wr (fun k => N ≤ k) sb s
  bel : Below N W1 wr
/-- Behind the step, ahead of the look. -/
structure RMid (w3 wx : World) (N sb eb : Nat) (s s' : Sh) (v1 : Value) (kd : Int) (cs : List Value) : Prop where
  shelf : ShelfAt wx (fun k => N ≤ k) sb s'
  files : FilesAt wx (fun k => eb < k) v1 s.L
  box : Blk wx eb 41 (.int .i64 kd :: cs)
  bel : Below N w3 wx
/-- All of it: from the world ahead of the step (w6) to the one behind it. -/
theorem RMid.mk2 {w3 w6 wx : World} {N sb eb : Nat} {s s' : Sh} {v1 : Value} {kd : Int} {cs : List Value} (hN : eb ≤ w6.heap.size) (hNe : N ≤ eb) (hb : But (fun k => N ≤ k ∧ k < eb) w6 wx)
    (hs : ShelfAt wx (fun k => (N ≤ k ∧ k < eb) ∨ w6.heap.size ≤ k) sb s') (hf : FilesAt w6 (fun k => eb < k) v1 s.L) (he : Blk w6 eb 41 (.int .i64 kd :: cs)) (h3 : Below N w3 w6) : RMid w3 wx N sb eb s s' v1 kd cs :=
  ⟨hs.mono fun k hk => hk.elim (fun h => h.1) fun h => Nat.le_trans (Nat.le_trans hNe hN) h, hf.keep (Keeps.but hb fun k hk h => by have := h.2; omega), he.but hb (fun h => by have := h.2; omega), h3.trans (hb.below (fun k hk => hk.1) (Nat.le_trans hNe hN))⟩
theorem opA_1 {s : Sh} {o : S41} (h : o.f0 = 1) : opE s o = askE s 1 o.f1 (lkE s o.f1) ∧ opS s o = s.note 1 o.f1 (askE s 1 o.f1 (lkE s o.f1)) ∧ opN o = 1 := ⟨if_pos h, if_pos h, if_pos (.inl h)⟩
theorem opA_2 {s : Sh} {o : S41} (h : o.f0 = 2) : opE s o = askE s 2 o.f1 (lkW s o.f1 o.f2) ∧ opS s o = s.wr o.f1 o.f2 ∧ opN o = 1 := by
  have h1 : ¬ o.f0 = 1 := by omega
  exact ⟨by rw [opE, if_neg h1, if_pos h], by rw [opS, if_neg h1, if_pos h], if_pos (.inr (.inl h))⟩
theorem opA_3 {s : Sh} {o : S41} (h : o.f0 = 3) : opE s o = askE s 3 o.f1 (lkE s o.f1) ∧ opS s o = s.rem o.f1 ∧ opN o = 1 := by
  have h1 : ¬ o.f0 = 1 := by omega
  have h2 : ¬ o.f0 = 2 := by omega
  exact ⟨by rw [opE, if_neg h1, if_neg h2, if_pos h], by rw [opS, if_neg h1, if_neg h2, if_pos h], if_pos (.inr (.inr h))⟩
theorem opA_0 {s : Sh} {o : S41} (h1 : ¬ o.f0 = 1) (h2 : ¬ o.f0 = 2) (h3 : ¬ o.f0 = 3) : opE s o = 0 ∧ opS s o = s ∧ opN o = 0 :=
  ⟨by rw [opE, if_neg h1, if_neg h2, if_neg h3], by rw [opS, if_neg h1, if_neg h2, if_neg h3], if_neg (fun h => h.elim h1 fun h => h.elim h2 h3)⟩
set_option maxHeartbeats 8000000 in
theorem room.calls (Af Ap Ao : Option Addr) (cf cp co : Nat) (fs : List S73) (ps : List S76) (os : List S41) (room : Int) (w : World) (hf : Kd.C k73 w Af fs.length fs) (hp : Kd.C k76 w Ap ps.length ps) (ho : Kd.C k41 w Ao os.length os) (hcf : fs.length ≤ cf) (hn : fs.length ≤ 140737488355328) (hm : ∀ f ∈ fs, f.f1.length ≤ 140737488355328) (hz : ∀ f ∈ fs, f.f0.size ≤ maxLen) (hq : ps.length ≤ 5864062014804) (hon : os.length ≤ 140737488355328)
    (hoz : ∀ o ∈ os, o.f1.size ≤ maxLen ∧ o.f2.length ≤ 140737488355328)
    (hwf : ∀ p ∈ ps, (Lit.int .i64 p.f0).wf = true ∧ (Lit.int .i64 p.f1).wf = true ∧ (Lit.int .i64 p.f2).wf = true) :
    Calls Try.prog 5 #[.agg #[.slice Af fs.length cf, .int .i64 room, .slice Ap ps.length cp], .slice Ao os.length co] w fun e w' => e = .returned (.bool true) ∧ Below w.heap.size w w' := by
  obtain ⟨W, hW⟩ : ∃ W, wl 0 fs = W := ⟨_, rfl⟩
  have hwt := weight_f fs hn hm
  rw [hW] at hwt
  have HB0 : Hid (Below w.heap.size w (w.alloc (.cells #[.slice Af fs.length cf, .int .i64 room, .slice Ap ps.length cp] 25)) ∧ Blk (w.alloc (.cells #[.slice Af fs.length cf, .int .i64 room, .slice Ap ps.length cp] 25)) w.heap.size 25 [.slice Af fs.length cf, .int .i64 room, .slice Ap ps.length cp]) :=
    ⟨(Below.refl _ _).alloc (Nat.le_refl _) _, Blk.alloc w _ _⟩
  have HF := Lib.hid hf; clear hf
  have HP := Lib.hid hp; clear hp
  have HO := Lib.hid ho; clear ho
  have HCF := Lib.hid hcf; clear hcf
  have HM := Lib.hid hm; clear hm
  have HZ := Lib.hid hz; clear hz
  have HQ := Lib.hid hq; clear hq
  have HNF := Lib.hid hn; clear hn
  have HWF := Lib.hid hwf; clear hwf
  have HOZ := Lib.hid hoz; clear hoz
  have HWT := Lib.hid hwt; clear hwt
  have HW := Lib.hid hW; clear hW
  have ho0 : (0 : Int) ≤ (os.length : Int) := Int.natCast_nonneg _
  go_enter Try.func5, Try.ntmps5
  go_upto_region 1 with fail
  generalize w.alloc (.cells #[.slice Af fs.length cf, .int .i64 room, .slice Ap ps.length cp] 25) = wa at *
  go_wp2_with (first
    | (go_at_call 16; refine (works.calls _).mono ?_; rintro e w1 ⟨rfl, hb1⟩
       have HB1 : Hid (Below w.heap.size w w1) := HB0.out.1.trans (hb1.mono HB0.out.1.size)
       have HX1 : Hid (Blk w1 w.heap.size 25 [.slice Af fs.length cf, .int .i64 room, .slice Ap ps.length cp]) := HB0.out.2.below hb1 HB0.out.2.lt
       have b0 := HX1.out.cell 0
       clear hb1)
    | fail)
  by_cases hg : W > 4194304
  · go_wp2_with (first
      | (go_at_call 8; refine (dowellaw01_weight.calls _ Af cf fs W _ (Kd.C_below HF.out HB1.out) HCF.out HWT.out).mono ?_; rintro e w2 ⟨rfl, hd⟩
         have HB2 : Hid (Below w.heap.size w w2) := HB1.out.trans (hd.below.mono HB1.out.size)
         clear hd b0; dsimp only)
      | fail)
    go_ret
    exact ⟨rfl, HB2.out⟩
  by_cases hl : (os.length : Int) > 200
  · go_wp2_with (first
      | (go_at_call 8; refine (dowellaw01_weight.calls _ Af cf fs W _ (Kd.C_below HF.out HB1.out) HCF.out HWT.out).mono ?_; rintro e w2 ⟨rfl, hd⟩
         have HB2 : Hid (Below w.heap.size w w2) := HB1.out.trans (hd.below.mono HB1.out.size)
         clear hd b0; dsimp only)
      | fail)
    go_ret
    exact ⟨rfl, HB2.out⟩
  have hsz := wl_le fs 0 (by rw [HW.out]; omega)
  have HSZ := Lib.hid hsz; clear hsz
  have HOL : Hid (os.length ≤ 200) := Lib.hid (by omega)
  go_wp2_with (first
    | (go_at_call 8; refine (dowellaw01_weight.calls _ Af cf fs W _ (Kd.C_below HF.out HB1.out) HCF.out HWT.out).mono ?_; rintro e w2 ⟨rfl, hd⟩
       have HB2 : Hid (Below w.heap.size w w2) := HB1.out.trans (hd.below.mono HB1.out.size)
       have HX2 : Hid (Blk w2 w.heap.size 25 [.slice Af fs.length cf, .int .i64 room, .slice Ap ps.length cp]) := HX1.out.below hd.below HX1.out.lt
       clear hd b0; dsimp only)
    | fail)
  clear hg hl HB0 HX1
  refine R5n.wp w2 w.heap.size Af Ap cf cp fs ps room HX2.out (Kd.C_below HF.out HB2.out) (Kd.C_below HP.out HB2.out) (by have := HSZ.out; omega) HM.out HZ.out HQ.out HWF.out _ _ rfl rfl ?_
  intro f3 w3 sp e6 hb3 e5 hv
  have HB23 : Hid (Below w2.heap.size w2 w3) := hb3.below (fun _ h => h.elim) (Nat.le_refl _)
  have HX3 : Hid (Blk w3 w.heap.size 25 [.slice Af fs.length cf, .int .i64 room, .slice Ap ps.length cp]) := HX2.out.below HB23.out HX2.out.lt
  have HB3 : Hid (Below w.heap.size w w3) := HB2.out.trans (HB23.out.mono HB2.out.size)
  have HV := Lib.hid hv
  clear hb3 hv
  simp only [Act.puts, Act.put, List.setIfInBounds_toArray, List.set_cons_zero, List.set_cons_succ]
  rw [e5, e6]
  clear e5 e6
  by_cases h0 : newE fs room ps = 0
  · obtain ⟨sb, rfl, hsh⟩ := HV.out.some h0
    rw [h0]
    have HS3 : Hid (ShelfAt w3 (fun k => w2.heap.size ≤ k) sb (newS fs room ps)) := hsh
    have HG : Hid (Good (newS fs room ps)) := newS_good h0
    have HS3' : Hid (RI w3 w3 w2.heap.size sb room 0) := ⟨⟨_, HG.out, rfl, Nat.le_refl _, HS3.out⟩, Below.refl _ _⟩
    have HN : Hid (w2.heap.size ≤ w3.heap.size ∧ w.heap.size < w2.heap.size) := ⟨HB23.out.size, HX2.out.lt⟩
    clear hsh h0 HS3 HG HV
    generalize w2.heap.size = N at *
    go_wp2
    go_loopg [7] os.length (fun q v wr => ∃ i : Nat, q + i = os.length ∧ v = .int .i64 (i : Nat) ∧ Hid (RI w3 wr N sb room i))
    case atStart => exact ⟨0, by simp, rfl, HS3'.out⟩
    case round =>
      clear HS3'
      obtain ⟨i, hi, rfl, HI⟩ := hrel
      by_cases hlt : i < os.length
      · obtain ⟨o, ho⟩ : ∃ o, os[i]? = some o := ⟨_, List.getElem?_eq_getElem hlt⟩
        have HBR : Hid (Below w.heap.size w wr ∧ Blk wr w.heap.size 25 [.slice Af fs.length cf, .int .i64 room, .slice Ap ps.length cp]) :=
          ⟨HB3.out.trans (HI.out.bel.mono (by have := HN.out; omega)), HX3.out.below HI.out.bel HN.out.2⟩
        obtain ⟨ad, Ad, cd, eA, e0, e1, e2, e3, e4, hcd, hdC⟩ := op_at (Kd.C_below HO.out HBR.out.1) ho
        subst eA
        have HOO : Hid (o.f1.size ≤ maxLen ∧ o.f2.length ≤ 140737488355328) := HOZ.out o (List.mem_of_getElem? ho)
        have HDC := Lib.hid hdC; clear hdC hcd
        have HOA := Lib.hid ho; clear ho
        have hi0 : (0 : Int) ≤ (i : Int) := Int.natCast_nonneg _
        have hi1 : (i : Int) < (os.length : Int) := Int.ofNat_lt.2 hlt
        have HIL : Hid (i < 200) := by have := HOL.out; exact (by omega : i < 200)
        obtain ⟨s, HS⟩ : ∃ s, Hid (Good s ∧ s.room = room ∧ s.all.length ≤ i ∧ ShelfAt wr (fun k => N ≤ k) sb s) := by
          obtain ⟨s, h⟩ := HI.out.out
          exact ⟨s, h⟩
        have HBN : Hid (Below N w3 wr) := HI.out.bel
        have HSB : Hid (ShelfAt wr (fun k => N ≤ k ∧ k < wr.heap.size) sb s) := HS.out.2.2.2.bound
        clear HI
        go_upto_region 12 with fail
        have HE : Hid (Below wr.heap.size wr (wr.alloc (.cells #[.int .i64 o.f0, .string o.f1, .slice Ad o.f2.length cd, .int .i64 o.f3, .bool o.f4] 41)) ∧ Blk (wr.alloc (.cells #[.int .i64 o.f0, .string o.f1, .slice Ad o.f2.length cd, .int .i64 o.f3, .bool o.f4] 41)) wr.heap.size 41 [.int .i64 o.f0, .string o.f1, .slice Ad o.f2.length cd, .int .i64 o.f3, .bool o.f4] ∧ wr.heap.size < (wr.alloc (.cells #[.int .i64 o.f0, .string o.f1, .slice Ad o.f2.length cd, .int .i64 o.f3, .bool o.f4] 41)).heap.size) :=
          ⟨(Below.refl _ _).alloc (Nat.le_refl _) _, Blk.alloc wr _ _, by simp⟩
        clear e0 e1 e2 e3 e4
        generalize wr.alloc (.cells #[.int .i64 o.f0, .string o.f1, .slice Ad o.f2.length cd, .int .i64 o.f3, .bool o.f4] 41) = wo at *
        have HSO : Hid (ShelfAt wo (fun k => N ≤ k ∧ k < wr.heap.size) sb s) := HSB.out.keep (Keeps.below HE.out.1)
        have HEB : Hid (N ≤ wr.heap.size) := Nat.le_trans HN.out.1 HBN.out.size
        clear HSB
        have c00 : wo.cell? ⟨wr.heap.size, 0, none⟩ = some (.int .i64 o.f0) := HE.out.2.1.cell 0
        go_upto_block 2 with (first
          | (go_at_call 11; refine (files.calls HSO.out HS.out.1).mono ?_; rintro e w5 ⟨v1, rfl, hf5, hb5⟩
             have HF5 : Hid (FilesAt w5 (fun k => wr.heap.size < k) v1 s.L) := hf5.mono fun k hk => Nat.lt_of_lt_of_le HE.out.2.2 hk
             have HB5 : Hid (Below wr.heap.size wr w5) := HE.out.1.trans (hb5.mono HE.out.1.size)
             have HE5 : Hid (Blk w5 wr.heap.size 41 [.int .i64 o.f0, .string o.f1, .slice Ad o.f2.length cd, .int .i64 o.f3, .bool o.f4]) := HE.out.2.1.below hb5 HE.out.2.2
             have HS5 : Hid (ShelfAt w5 (fun k => N ≤ k ∧ k < wr.heap.size) sb s) := HSO.out.keep (Keeps.below hb5)
             clear hf5 hb5)
          | (go_at_call 15; refine (calls.calls HS5.out (by have := HS.out.2.2.1; have := HIL.out; omega)).mono ?_; rintro e w6 ⟨v8, rfl, hr8, hb8⟩
             obtain ⟨A8, c8, rfl⟩ := own_slice hr8
             have HF6 : Hid (FilesAt w6 (fun k => wr.heap.size < k) v1 s.L) := HF5.out.keep (Keeps.below hb8)
             have HB6 : Hid (Below wr.heap.size wr w6) := HB5.out.trans (hb8.mono HB5.out.size)
             have HE6 : Hid (Blk w6 wr.heap.size 41 [.int .i64 o.f0, .string o.f1, .slice Ad o.f2.length cd, .int .i64 o.f3, .bool o.f4]) := HE5.out.below hb8 HE5.out.lt
             have HS6 : Hid (ShelfAt w6 (fun k => N ≤ k ∧ k < wr.heap.size) sb s) := HS5.out.keep (Keeps.below hb8)
             have c0 : w6.cell? ⟨wr.heap.size, 0, none⟩ = some (.int .i64 o.f0) := HE6.out.cell 0
             clear hr8 hb8)
          | fail)
        have HBN6 : Hid (Below N w3 w6) := HBN.out.trans (HB6.out.mono HEB.out)
        clear c0 c00
        clear HE HSO HF5 HB5 HE5 HS5
        go_cut [11, 12] from 52 to 143 (fun s11 s12 wx => s11 = errV (opE s o) ∧ s12 = .int .i64 (opN o : Nat) ∧ Hid (RMid w3 wx N sb wr.heap.size s (opS s o) v1 o.f0 [.string o.f1, .slice Ad o.f2.length cd, .int .i64 o.f3, .bool o.f4]))
        case first =>
          have c1 : w6.cell? ⟨wr.heap.size, 1, none⟩ = some (.string o.f1) := HE6.out.cell 1
          have HALL : Hid (s.all.length ≤ 1073741824) := by have := HS.out.2.2.1; have := HIL.out; exact (by omega : s.all.length ≤ 1073741824)
          have HFIN : Hid (∀ wx s', But (fun k => N ≤ k ∧ k < wr.heap.size) w6 wx → ShelfAt wx (fun k => (N ≤ k ∧ k < wr.heap.size) ∨ w6.heap.size ≤ k) sb s' → RMid w3 wx N sb wr.heap.size s s' v1 o.f0 [.string o.f1, .slice Ad o.f2.length cd, .int .i64 o.f3, .bool o.f4]) :=
            fun wx s' hb hs => .mk2 HB6.out.size HEB.out hb hs HF6.out HE6.out HBN6.out
          by_cases h1 : o.f0 = 1
          · have t1 : (o.f0 == 1) = true := by simp [h1]
            have HOP := Lib.hid (opA_1 (s := s) h1)
            clear h1
            go_wp2_with (first
              | (go_at_call 20; refine (read.calls HS6.out HS.out.1 o.f1 HOO.out.1 HALL.out).mono ?_; rintro e w7 ⟨v7, rfl, -, hs7, hb7, -⟩
                 have HR7 := Lib.hid (HFIN.out w7 _ hb7 hs7)
                 clear hs7 hb7)
              | fail)
            go_meet
            case rel => exact ⟨by rw [HOP.out.1], by rw [HOP.out.2.2]; rfl, by rw [HOP.out.2.1]; exact HR7.out⟩
          by_cases h2 : o.f0 = 2
          · have t1 : (o.f0 == 1) = false := by simp [h2]
            have t2 : (o.f0 == 2) = true := by simp [h2]
            have HOP := Lib.hid (opA_2 (s := s) h2)
            clear h1 h2
            go_wp2_with (fail)
            refine R21w.wp w6 (fun k => N ≤ k ∧ k < wr.heap.size) sb wr.heap.size s o.f0 o.f3 o.f1 Ad cd o.f2 o.f4 HE6.out (fun h => absurd h.2 (Nat.lt_irrefl _)) HS6.out HS.out.1 HOO.out.1 HALL.out (Kd.C_below HDC.out HB6.out) HOO.out.2 _ _ rfl rfl rfl ?_
            intro f7 w7 e7 hb7 hs7 _
            have HR7 := Lib.hid (HFIN.out w7 _ hb7 hs7)
            clear hb7 hs7
            simp only [Act.puts, Act.put, List.setIfInBounds_toArray, List.set_cons_zero, List.set_cons_succ]
            rw [e7]
            clear e7
            go_wp2
            go_meet
            case rel => exact ⟨by rw [HOP.out.1], by rw [HOP.out.2.2]; rfl, by rw [HOP.out.2.1]; exact HR7.out⟩
          by_cases h3 : o.f0 = 3
          · have t1 : (o.f0 == 1) = false := by simp [h3]
            have t2 : (o.f0 == 2) = false := by simp [h3]
            have t3 : (o.f0 == 3) = true := by simp [h3]
            have HOP := Lib.hid (opA_3 (s := s) h3)
            clear h1 h2 h3
            go_wp2_with (first
              | (go_at_call 19; refine (remove.calls HS6.out HS.out.1 o.f1 HOO.out.1 HALL.out).mono ?_; rintro e w7 ⟨rfl, hs7, hb7, -⟩
                 have HR7 := Lib.hid (HFIN.out w7 _ hb7 hs7)
                 clear hs7 hb7)
              | fail)
            go_meet
            case rel => exact ⟨by rw [HOP.out.1], by rw [HOP.out.2.2]; rfl, by rw [HOP.out.2.1]; exact HR7.out⟩
          · have t1 : (o.f0 == 1) = false := by simp [h1]
            have t2 : (o.f0 == 2) = false := by simp [h2]
            have t3 : (o.f0 == 3) = false := by simp [h3]
            have HOP := Lib.hid (opA_0 (s := s) h1 h2 h3)
            have HR7 := Lib.hid (HFIN.out w6 s (But.of_below (Below.refl _ _)) (HS6.out.mono fun k hk => .inl hk))
            clear h1 h2 h3
            go_wp2
            go_meet
            case rel => exact ⟨by rw [HOP.out.1]; rfl, by rw [HOP.out.2.2]; rfl, by rw [HOP.out.2.1]; exact HR7.out⟩
        case rest =>
          obtain ⟨rfl, rfl, HR7⟩ := hcut
          have HGS := Lib.hid (opS_good HS.out.1 o)
          have HRM : Hid ((opS s o).room = room) := (opS_room s o).trans HS.out.2.1
          have HAL := Lib.hid (opS_all s o)
          have HSM : Hid (o.f0 = 1 ∨ opE s o ≠ 0 → (opS s o).L = s.L) := opS_same
          have HAI : Hid (s.all.length ≤ i ∧ opN o ≤ 1) := ⟨HS.out.2.2.1, by unfold opN; split <;> omega⟩
          clear HF6 HE6 HS6 HBN6 HB6 HDC
          generalize opS s o = s' at *
          generalize opE s o = E at *
          generalize opN o = nn at *
          have hle := HGS.out.fits
          have hrm1 := HGS.out.room1
          obtain ⟨t, ht⟩ : ∃ t, szL s'.L = t := ⟨_, rfl⟩
          rw [ht, HRM.out] at hle
          rw [HRM.out] at hrm1
          have HTL := Lib.hid (total_f HGS.out.rises (by have := HGS.out.few; omega) (by omega))
          have HSZL := Lib.hid ht
          have HRM1 : Hid (Below w.heap.size w wc ∧ Blk wc w.heap.size 25 [.slice Af fs.length cf, .int .i64 room, .slice Ap ps.length cp]) :=
            ⟨HB3.out.trans (HR7.out.bel.mono (by have := HN.out; omega)), HX3.out.below HR7.out.bel HN.out.2⟩
          have ht0 : (0 : Int) ≤ (t : Int) := Int.natCast_nonneg _
          have hw1 : IntKind.i64.wrap ((t : Int) + (room - (t : Int))) = room := by rw [IntWalk.i64_in _ (by omega)]; omega
          have hw2 : ¬ (room - (t : Int)) < 0 := by omega
          have hw3 : IntKind.i64.wrap ((s.all.length : Int) + (nn : Int)) = (s'.all.length : Int) := by
            have := HAL.out; have := HAI.out; have := HIL.out
            rw [IntWalk.i64_in _ (by omega)]; omega
          have hw4 : ¬ (s'.L.length : Int) > 64 := by have := HGS.out.few; omega
          rw [ht] at HTL
          clear ht
          go_upto_region 26 with (first
            | (go_at_call 11; refine (files.calls HR7.out.shelf HGS.out).mono ?_; rintro e w8 ⟨v8, rfl, hf8, hb8⟩
               obtain ⟨A9, c9, rfl, hc9, hC9⟩ := hf8.slice
               have HF8 := Lib.hid hf8
               have HC8 := Lib.hid (And.intro hc9 hC9)
               have HB8 := Lib.hid hb8
               clear hf8 hb8 hc9 hC9)
            | (go_at_call 23; refine (dowellaw01_total.calls (s'.L.length + 1) A9 c9 s'.L t true w8 HC8.out.2 HC8.out.1 HTL.out).mono ?_; rintro e w9 ⟨rfl, hd9⟩
               have HF9 : Hid (FilesAt w9 (fun k => wc.heap.size ≤ k) (.slice A9 s'.L.length c9) s'.L) := HF8.out.keep (Keeps.below hd9.below)
               have HB9 : Hid (Below wc.heap.size wc w9) := HB8.out.trans (hd9.below.mono HB8.out.size)
               clear hd9)
            | fail)
          have HS9 : Hid (ShelfAt w9 (fun k => N ≤ k) sb s') := HR7.out.shelf.keep (Keeps.below HB9.out)
          have HX9 : Hid (Blk w9 w.heap.size 25 [.slice Af fs.length cf, .int .i64 room, .slice Ap ps.length cp]) := HRM1.out.2.below HB9.out HRM1.out.2.lt
          rw [← HRM.out, ← HSZL.out] at hw1 hw2
          rw [← HRM.out] at HX9
          rw [← HSZL.out]
          refine R26.wp w9 (fun k => N ≤ k) sb w.heap.size s' Af Ap fs.length cf ps.length cp (s.all.length : Int) (nn : Int) A9 c9 HX9.out HS9.out HGS.out (by have := HAL.out; have := HAI.out; have := HIL.out; omega) (by exact hw1) (by simpa using hw2) (by exact hw3) (by simpa using hw4) _ _ rfl rfl rfl rfl rfl rfl rfl rfl ?_
          intro f9 w10 e130 hb10
          have HB10 : Hid (Below wc.heap.size wc w10) := HB9.out.trans ((hb10.below (fun _ h => h.elim) (Nat.le_refl _)).mono HB9.out.size)
          have HB910 : Hid (Below w9.heap.size w9 w10) := hb10.below (fun _ h => h.elim) (Nat.le_refl _)
          simp only [Act.puts, Act.put, List.setIfInBounds_toArray, List.set_cons_zero, List.set_cons_succ]
          rw [e130]
          clear e130 hw1 hw2 hw3 hw4 hb10
          have hiw : wrap64 ((i : Int) + 1) = ((i + 1 : Nat) : Int) := by have := HIL.out; rw [wrap_in (by omega) (by omega)]; rfl
          have HIN : Hid (RI w3 w10 N sb room (i + 1)) := ⟨⟨s', HGS.out, HRM.out, by have := HAL.out; have := HAI.out; omega, HR7.out.shelf.keep (Keeps.below HB10.out)⟩, HR7.out.bel.trans (HB10.out.mono (Nat.le_trans HN.out.1 HR7.out.bel.size))⟩
          have HF10 : Hid (FilesAt w10 (fun k => wc.heap.size ≤ k) (.slice A9 s'.L.length c9) s'.L) := HF9.out.keep (Keeps.below (HB910.out))
          have HLL : Hid (s'.L.length ≤ 67108864 ∧ ∀ f ∈ s'.L, f.f1.length ≤ 67108864) := ⟨by have := HGS.out.few; omega, fun f hf => by have := len_sz hf; have := HGS.out.fits; have := HGS.out.room1; omega⟩
          have k0 : w10.cell? ⟨wr.heap.size, 0, none⟩ = some (.int .i64 o.f0) := (HR7.out.box.below HB10.out HR7.out.box.lt).cell 0
          clear hle hrm1 ht0
          by_cases he : E = 0
          · have e9 : errV E = .nilIface := by rw [he]; rfl
            rw [e9]
            by_cases hk : o.f0 = 1
            · have t1 : (o.f0 == 1) = true := by simp [hk]
              have HF7 : Hid (FilesAt w10 (fun k => wr.heap.size < k) v1 s'.L) := by rw [HSM.out (.inl hk)]; exact HR7.out.files.keep (Keeps.below HB10.out)
              clear he hk e9
              go_wp2_with (first
                | (go_at_call 10; refine (FilesAt.same HF7.out HF10.out (Below.refl _ _) HLL.out.1 HLL.out.2).mono ?_; rintro e w11 ⟨rfl, hd11⟩
                   have HIN2 : Hid (RI w3 w11 N sb room (i + 1)) := ⟨by obtain ⟨q, k1, k2, k3, k4⟩ := HIN.out.out; exact ⟨q, k1, k2, k3, k4.keep (Keeps.below hd11.below)⟩, HIN.out.bel.trans (hd11.below.mono (Nat.le_trans HN.out.1 (Nat.le_trans HR7.out.bel.size HB10.out.size)))⟩
                   clear hd11)
                | fail)
              go_roundg (os.length - (i + 1))
              case measure => clear hiw; omega
              case rel => exact ⟨i + 1, by clear hiw; omega, by first | rfl | rw [hiw], HIN2.out⟩
            · have t1 : (o.f0 == 1) = false := by simp [hk]
              clear he hk e9
              go_wp2
              go_roundg (os.length - (i + 1))
              case measure => clear hiw; omega
              case rel => exact ⟨i + 1, by clear hiw; omega, by first | rfl | rw [hiw], HIN.out⟩
          · have e9 : errV E = .iface 42 (.int .i64 E) := if_neg he
            rw [e9]
            have HF7 : Hid (FilesAt w10 (fun k => wr.heap.size < k) v1 s'.L) := by rw [HSM.out (.inr he)]; exact HR7.out.files.keep (Keeps.below HB10.out)
            clear he e9
            go_wp2_with (first
              | (go_at_call 10; refine (FilesAt.same HF7.out HF10.out (Below.refl _ _) HLL.out.1 HLL.out.2).mono ?_; rintro e w11 ⟨rfl, hd11⟩
                 have HIN2 : Hid (RI w3 w11 N sb room (i + 1)) := ⟨by obtain ⟨q, k1, k2, k3, k4⟩ := HIN.out.out; exact ⟨q, k1, k2, k3, k4.keep (Keeps.below hd11.below)⟩, HIN.out.bel.trans (hd11.below.mono (Nat.le_trans HN.out.1 (Nat.le_trans HR7.out.bel.size HB10.out.size)))⟩
                 clear hd11)
              | fail)
            go_roundg (os.length - (i + 1))
            case measure => clear hiw; omega
            case rel => exact ⟨i + 1, by clear hiw; omega, by first | rfl | rw [hiw], HIN2.out⟩
      · have hi1 : ¬ (i : Int) < (os.length : Int) := by omega
        have HBR : Hid (Below w.heap.size w wr) := HB3.out.trans (HI.out.bel.mono (by have := HN.out; omega))
        clear HI
        go_wp2
        go_ret
        exact ⟨rfl, HBR.out⟩
  · obtain rfl := HV.out.none.2 h0
    have h1 : (newE fs room ps == 0) = false := by rw [beq_eq_false_iff_ne]; exact h0
    have h2 : (newE fs room ps != 0) = true := by rw [bne_iff_ne]; exact h0
    go_wp2
    go_ret
    exact ⟨rfl, HB3.out⟩
end Go.Proofs.Ytplknppmaepinaa.S
