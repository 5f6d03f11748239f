/- Texts joined and shortened (wip/tools/shrink.py): MEval. -/
import Derived.Test.YtmpkkphohilkoaaDoorQu2
/- The nodes' eval, walked over step's contract (printed by wip/tools/geneval.py). -/
namespace Go.X
open Go Go.RowKit
/-- 'make([]T, 0, n)' -/
theorem make0 {P : Program} {w : World} {ops : Array Oper} {rest : List Oper} {o : Oper} {a : Act} {Q : Exit → Act → World → Prop} (hg : o.guard = none) (l c : Operand) (t : TypeId) (hop : o.op = Op.makeSlice t l c)
    (base : Nat) (e : TypeId) (z : Value) (size bytes : Nat) (h1 : P.underlying t = some (.slice e)) (h2 : (P.info? e).map (fun i => (i.zero, i.size, i.bytes)) = some (some z, size, bytes))
    (kl kc : IntKind) (C : Int) (n : Nat) (hl : a.eval l = .int kl 0) (hc : a.eval c = .int kc C) (hC : C = (n : Int)) (b2 : bytes * n ≤ 281474976710656) (b3 : n ≤ maxLen) (b4 : base ≤ w.heap.size)
    (hK : ∀ w', w'.ownsRow base e size (.slice (some ⟨w.heap.size, 0, none⟩) 0 n) 0 [] → w.grownBy w' none → wpList P ops Q rest (a.put o.dst (.slice (some ⟨w.heap.size, 0, none⟩) 0 n)) w') :
    wpList P ops Q (o :: rest) a w := by
  obtain ⟨i, hi, hz, hs, hb⟩ : ∃ i, P.info? e = some i ∧ i.zero = some z ∧ i.size = size ∧ i.bytes = bytes := by
    cases hq : P.info? e with
    | none => simp [hq] at h2
    | some i => simp [hq] at h2; exact ⟨i, rfl, h2⟩
  refine wpList_plain hg fun K hK' => ?_
  obtain ⟨w', hrun, r1, r2⟩ := run_make_own (P := P) w base t e i z size h1 hi hz hs kl kc n (by rw [hb]; exact b2) b3 b4
  subst hC
  unfold Oper.wp
  simp [execOp, hop, hl, hc, hrun, Result.andThen]
  exact hK' _ _ (hK w' r1 r2)
end Go.X
namespace Go.Proofs.YtmpkkphohilkoaaDoor.B
open Go Go.RowKit Go.X Go.Ma Go.Proofs.YtmpkkphohilkoaaDoorW.PrintWords Go.Proofs.YtmpkkphohilkoaaDoor.F

theorem info49' : (Tryd.prog.info? 49).map (fun i => (i.zero, i.size, i.bytes)) = some (some (.agg #[.string ⟨#[]⟩, .int .i64 0, .int .i64 0, .int .i64 0]), 4, 40) := by kernel_rfl
theorem field77 (a b c d e : Value) (w : World) : (Instr.field 75 (.agg #[a, b, c, d, e]) 0).run Tryd.prog w = .ok a w := by kernel_rfl
/-- Within eval: the box and the result's block. -/
structure ES (X : Cx) (s0 s : St) (w wr : World) (t : TypeId) (cs : List Value) : Prop where
  rn0 : Rn X s0 w
  rn : Rn X s wr
  gr : w.grownBy wr (some X.rb)
  box : Blk wr w.heap.size t cs
  res : Blk wr (w.heap.size + 1) 75 (resCells 0 0 ⟨#[]⟩ (.slice none 0 0) 0)
theorem ES.start {X : Cx} {s : St} {w : World} (h : Rn X s w) (t : TypeId) (cs : List Value) : ES X s s w ((w.alloc (.cells cs.toArray t)).alloc (.cells #[.int .i64 0, .int .i64 0, .string ⟨#[]⟩, .slice none 0 0, .int .i64 0] 75)) t cs :=
  have g1 := World.grownBy_alloc w (.cells cs.toArray t) none
  have g2 := World.grownBy_alloc (w.alloc (.cells cs.toArray t)) (.cells #[.int .i64 0, .int .i64 0, .string ⟨#[]⟩, .slice none 0 0, .int .i64 0] 75) none
  ⟨h, (h.grown g1).grown g2, grown_more (Fr4.grown2 g1 g2), by
    have := (Blk.alloc w cs.toArray t).grown g2 (by simp)
    simpa using this, by
    have := Blk.alloc (w.alloc (.cells cs.toArray t)) #[.int .i64 0, .int .i64 0, .string ⟨#[]⟩, .slice none 0 0, .int .i64 0] 75
    simpa [resCells] using this⟩
theorem ES.next {X : Cx} {s0 s s' : St} {w wr w' : World} {t : TypeId} {cs : List Value} (h : ES X s0 s w wr t cs) (hg : wr.grownBy w' (some X.rb)) (hr : Rn X s' w') : ES X s0 s' w w' t cs :=
  have hlt := h.rn0.rec_.lt
  ⟨h.rn0, hr, grown_then h.gr hg (fun _ h => .inl h), h.box.grown hg (by intro e; injection e with e; omega), h.res.grown hg (by intro e; injection e with e; omega)⟩
theorem ES.more {X : Cx} {s0 s : St} {w wr w' : World} {t : TypeId} {cs : List Value} (h : ES X s0 s w wr t cs) (hg : wr.grownBy w' none) : ES X s0 s w w' t cs :=
  h.next (grown_more hg) (h.rn.grown hg)
/-- Other blocks of the call's own change. -/
theorem ES.own {X : Cx} {s0 s : St} {w wr w' : World} {t : TypeId} {cs : List Value} {b : Nat} (h : ES X s0 s w wr t cs) (hg : wr.grownBy w' (some b)) (hb : w.heap.size + 1 < b) : ES X s0 s w w' t cs :=
  ⟨h.rn0, h.rn.fresh h.rn0 (by omega) hg, grown_then h.gr hg (fun q hq => .inr (by injection hq with hq; omega)), h.box.grown hg (by intro e; injection e with e; omega), h.res.grown hg (by intro e; injection e with e; omega)⟩
/-- A row of the call's own is grown. -/
theorem ES.row {X : Cx} {s0 s : St} {w wr w' : World} {t : TypeId} {cs : List Value} {v : Value} {F : List Cap} (h : ES X s0 s w wr t cs) (ho : OwnF wr w.heap.size v F) (hg : wr.grownBy w' v.ownBlock) (ht : t ≠ 49) : ES X s0 s w w' t cs := by
  cases hv : v.ownBlock with
  | none => rw [hv] at hg; exact h.more hg
  | some b =>
    rw [hv] at hg
    have h1 := own_other ho h.box ht
    have h2 := own_other ho h.res (by decide)
    have h3 := (World.ownsRow.lt ho b hv).1
    rw [hv] at h1 h2
    refine h.own hg ?_
    have h4 : b ≠ w.heap.size := fun e => h1 (by rw [e])
    have h5 : b ≠ w.heap.size + 1 := fun e => h2 (by rw [e])
    omega
theorem ES.put {X : Cx} {s0 s : St} {w wr wz : World} {t : TypeId} {cs : List Value} {k : Int} {en : Nat} {lb : ByteArray} {v : Value} {tr : Nat} {F : List Cap} (h : ES X s0 s w wr t cs) (ho : OwnF wr w.heap.size v F)
    (hwz : wz = set5 wr (w.heap.size + 1) (.int .i64 k) (.int .i64 (en : Nat)) (.string lb) v (.int .i64 (tr : Nat))) : Told X w (⟨k, en, lb, F, tr⟩, s) (.returned (.agg (resCells k en lb v tr).toArray)) wz ∧ Blk wz (w.heap.size + 1) 75 (resCells k en lb v tr) :=
  Told.put h.rn0 (by omega) rfl h.res h.gr h.rn ho hwz
theorem ES.at_ {X : Cx} {s0 s : St} {w wr : World} {t : TypeId} {cs : List Value} (h : ES X s0 s w wr t cs) :
    (wr.cell? ⟨w.heap.size + 1, 0, none⟩ = some (.int .i64 0) ∧ wr.cell? ⟨w.heap.size + 1, 1, none⟩ = some (.int .i64 0) ∧ wr.cell? ⟨w.heap.size + 1, 2, none⟩ = some (.string ⟨#[]⟩) ∧ wr.cell? ⟨w.heap.size + 1, 3, none⟩ = some (.slice none 0 0) ∧ wr.cell? ⟨w.heap.size + 1, 4, none⟩ = some (.int .i64 0)) ∧
    (wr.frozen? ⟨w.heap.size + 1, 0, none⟩ = false ∧ wr.frozen? ⟨w.heap.size + 1, 1, none⟩ = false ∧ wr.frozen? ⟨w.heap.size + 1, 2, none⟩ = false ∧ wr.frozen? ⟨w.heap.size + 1, 3, none⟩ = false ∧ wr.frozen? ⟨w.heap.size + 1, 4, none⟩ = false) :=
  ⟨⟨h.res.cell 0, h.res.cell 1, h.res.cell 2, h.res.cell 3, h.res.cell 4⟩, ⟨h.res.frozen 0, h.res.frozen 1, h.res.frozen 2, h.res.frozen 3, h.res.frozen 4⟩⟩
theorem blk5 {w : World} {b : Nat} {k : Int} {en : Nat} {lb : ByteArray} {v : Value} {tr : Nat} (h : Blk w b 75 (resCells k en lb v tr)) :
    (w.cell? ⟨b, 0, none⟩ = some (.int .i64 k) ∧ w.cell? ⟨b, 1, none⟩ = some (.int .i64 (en : Nat)) ∧ w.cell? ⟨b, 2, none⟩ = some (.string lb) ∧ w.cell? ⟨b, 3, none⟩ = some v ∧ w.cell? ⟨b, 4, none⟩ = some (.int .i64 (tr : Nat))) ∧ (w.frozen? ⟨b, 1, none⟩ = false ∧ w.frozen? ⟨b, 3, none⟩ = false ∧ w.frozen? ⟨b, 4, none⟩ = false) :=
  ⟨⟨h.cell 0, h.cell 1, h.cell 2, h.cell 3, h.cell 4⟩, h.frozen 1, h.frozen 3, h.frozen 4⟩
/-- The numbers of a step within a step. -/
theorem in_step {X : Cx} {f d p : Nat} {s : St} (hf : 2 * (X.l.steps - s.steps) + 1 ≤ f + 1) (hs2 : s.steps < X.l.steps) (hd : d ≤ X.l.depth) (hd2 : s.depth ≤ X.l.depth) (t : T) :
    2 * (X.l.steps - (tick d s).steps) + 1 ≤ f ∧ (tick d s).depth ≤ X.l.depth ∧ (tick d s).steps ≤ X.l.steps ∧ OK X.e X.l p (tick d s) (ev X.e X.l f t p (d + 1) (tick d s)) := by
  have h1 : 2 * (X.l.steps - (tick d s).steps) + 1 ≤ f := by simp only [tick]; omega
  exact ⟨h1, by simp only [tick]; omega, by simp only [tick]; omega, ev_ok _ _ _ _ _ _ _ h1⟩
theorem second {X : Cx} {f p : Nat} {s : St} {x : Res × St} (h1 : 2 * (X.l.steps - s.steps) + 1 ≤ f) (h2 : s.depth ≤ X.l.depth) (h3 : s.steps ≤ X.l.steps) (h : OK X.e X.l p s x) :
    2 * (X.l.steps - x.2.steps) + 1 ≤ f ∧ x.2.depth ≤ X.l.depth ∧ x.2.steps ≤ X.l.steps :=
  ⟨by have := h.steps; omega, h.deep h2, h.max h3⟩
theorem far5 {w : World} {b : Nat} {p : Addr} {v x0 x1 x2 x3 x4 : Value} (h : p.block ≠ b) (hp : w.cell? p = some v) : (((((w.setCell ⟨b, 0, none⟩ x0).setCell ⟨b, 1, none⟩ x1).setCell ⟨b, 2, none⟩ x2).setCell ⟨b, 3, none⟩ x3).setCell ⟨b, 4, none⟩ x4).cell? p = some v := by
  have hg := set5_grown w b x0 x1 x2 x3 x4
  exact (cell_heap (hg.block _ (World.block_lt_of_cell? w _ hp) (by intro e; injection e with e; exact h e))).trans hp
set_option maxRecDepth 100000 in
set_option maxHeartbeats 4000000 in
theorem thr.calls (X : Cx) (F : Fix X) (f : Nat) (IH : StepC X f) (x : ByteArray) : EvalC X f (.thr x) := by
  intro p d s w hf hl hp hd hd2 hs2 hs hn
  have HF := Lib.hid F; clear F
  have HIH := Lib.hid IH; clear IH
  have HS := Lib.hid hs; clear hs
  have HZ := Lib.hid (ES.start hn 93 [.string x]); clear hn
  have HL : Hid (low X.N (.thr x)) := hl
  have HI := Lib.hid (fun t => in_step (p := p) hf hs2 hd hd2 t)
  have HP := Lib.hid hp
  have HF2 : Hid (2 * (X.l.steps - (tick d s).steps) + 2 ≤ f) := by show _ ≤ _; simp only [tick]; omega
  have HD : Hid (d ≤ X.l.depth ∧ d ≤ 1048576 ∧ p ≤ 1048576) := ⟨hd, Nat.le_trans hd HF.out.depth, Nat.le_trans hp HF.out.short⟩
  clear hf hl hp hd hd2 hs2
  show Calls Tryd.prog 82 #[.agg #[.string x], .pointer (some ⟨X.rb, 0, none⟩), .int .i64 (p : Nat), .int .i64 (d : Nat)] w (Told X w (ev X.e X.l (f + 1) (.thr x) p d s))
  go_enter Tryd.func82, Tryd.ntmps82
  have HV := Lib.hid (ev_thr X.e X.l (f := f) (p := p) x HS.out)
  go_upto_region 1 with (fail)
  generalize hwa : (w.alloc (.cells #[.string x] 93)).alloc (.cells #[.int .i64 0, .int .i64 0, .string ⟨#[]⟩, .slice none 0 0, .int .i64 0] 75) = wa
  have HA : Hid (ES X (tick d s) (tick d s) w wa 93 [.string x]) := by rw [← hwa]; exact HZ.out
  clear hwa HZ
  have b0 : wa.cell? ⟨w.heap.size, 0, none⟩ = some (.string x) := HA.out.box.cell 0
  obtain ⟨⟨z0, z1, z2, z3, z4⟩, y0, y1, y2, y3, y4⟩ := HA.out.at_
  go_wp2
  clear z0 z1 z2 z3 z4 y0 y1 y2 y3 y4
  (try simp only [Exit.inBlock, Exit.then])
  show bodyPost _ _ _ _ _ (set5 wa (w.heap.size + 1) (.int .i64 2) (.int .i64 ((p : Nat) : Int)) (.string x) (.slice none 0 0) (.int .i64 ((0 : Nat) : Int)))
  obtain ⟨wz, hwz⟩ : ∃ wz, wz = set5 wa (w.heap.size + 1) (.int .i64 2) (.int .i64 ((p : Nat) : Int)) (.string x) (.slice none 0 0) (.int .i64 ((0 : Nat) : Int)) := ⟨_, rfl⟩
  rw [← hwz]
  obtain ⟨hT, hB⟩ := (HA.out).put (OwnF.nil _ _) hwz
  obtain ⟨⟨r0, r1, r2, r3, r4⟩, _⟩ := blk5 hB
  clear hwz hB
  refine bodyPost_ret (v := .agg (resCells 2 (p) x (.slice none 0 0) (0)).toArray) (by simp [results, resCells, Tryd.results82, go_sem, r0, r1, r2, r3, r4]) rfl ?_
  rw [HV.out]
  exact hT
set_option maxRecDepth 100000 in
set_option maxHeartbeats 4000000 in
theorem emp.calls (X : Cx) (F : Fix X) (f : Nat) (IH : StepC X f)  : EvalC X f (.emp) := by
  intro p d s w hf hl hp hd hd2 hs2 hs hn
  have HF := Lib.hid F; clear F
  have HIH := Lib.hid IH; clear IH
  have HS := Lib.hid hs; clear hs
  have HZ := Lib.hid (ES.start hn 87 []); clear hn
  have HL : Hid (low X.N (.emp)) := hl
  have HI := Lib.hid (fun t => in_step (p := p) hf hs2 hd hd2 t)
  have HP := Lib.hid hp
  have HF2 : Hid (2 * (X.l.steps - (tick d s).steps) + 2 ≤ f) := by show _ ≤ _; simp only [tick]; omega
  have HD : Hid (d ≤ X.l.depth ∧ d ≤ 1048576 ∧ p ≤ 1048576) := ⟨hd, Nat.le_trans hd HF.out.depth, Nat.le_trans hp HF.out.short⟩
  clear hf hl hp hd hd2 hs2
  show Calls Tryd.prog 77 #[.agg #[], .pointer (some ⟨X.rb, 0, none⟩), .int .i64 (p : Nat), .int .i64 (d : Nat)] w (Told X w (ev X.e X.l (f + 1) (.emp) p d s))
  go_enter Tryd.func77, Tryd.ntmps77
  have HV := Lib.hid (ev_emp X.e X.l (f := f) (p := p) HS.out)
  go_upto_region 1 with (fail)
  generalize hwa : (w.alloc (.cells #[] 87)).alloc (.cells #[.int .i64 0, .int .i64 0, .string ⟨#[]⟩, .slice none 0 0, .int .i64 0] 75) = wa
  have HA : Hid (ES X (tick d s) (tick d s) w wa 87 []) := by rw [← hwa]; exact HZ.out
  clear hwa HZ
  go_wp2_with (fail)
  refine (matched.calls p _).mono ?_
  rintro e w1 ⟨rfl, hg⟩
  have H1 := Lib.hid (HA.out.more hg)
  clear HA hg
  dsimp only [resCells]
  obtain ⟨⟨z0, z1, z2, z3, z4⟩, y0, y1, y2, y3, y4⟩ := H1.out.at_
  go_wp2
  clear z0 z1 z2 z3 z4 y0 y1 y2 y3 y4
  (try simp only [Exit.inBlock, Exit.then])
  show bodyPost _ _ _ _ _ (set5 w1 (w.heap.size + 1) (.int .i64 1) (.int .i64 ((p : Nat) : Int)) (.string ⟨#[]⟩) (.slice none 0 0) (.int .i64 ((0 : Nat) : Int)))
  obtain ⟨wz, hwz⟩ : ∃ wz, wz = set5 w1 (w.heap.size + 1) (.int .i64 1) (.int .i64 ((p : Nat) : Int)) (.string ⟨#[]⟩) (.slice none 0 0) (.int .i64 ((0 : Nat) : Int)) := ⟨_, rfl⟩
  rw [← hwz]
  obtain ⟨hT, hB⟩ := (H1.out).put (OwnF.nil _ _) hwz
  obtain ⟨⟨r0, r1, r2, r3, r4⟩, _⟩ := blk5 hB
  clear hwz hB
  refine bodyPost_ret (v := .agg (resCells 1 (p) ⟨#[]⟩ (.slice none 0 0) (0)).toArray) (by simp [results, resCells, Tryd.results77, go_sem, r0, r1, r2, r3, r4]) rfl ?_
  rw [HV.out]
  exact hT
set_option maxRecDepth 100000 in
set_option maxHeartbeats 4000000 in
theorem not.calls (X : Cx) (F : Fix X) (f : Nat) (IH : StepC X f) (a : T) : EvalC X f (.not a) := by
  intro p d s w hf hl hp hd hd2 hs2 hs hn
  have HF := Lib.hid F; clear F
  have HIH := Lib.hid IH; clear IH
  have HS := Lib.hid hs; clear hs
  have HZ := Lib.hid (ES.start hn 99 [tv a]); clear hn
  have HL : Hid (low X.N (.not a)) := hl
  have HI := Lib.hid (fun t => in_step (p := p) hf hs2 hd hd2 t)
  have HP := Lib.hid hp
  have HF2 : Hid (2 * (X.l.steps - (tick d s).steps) + 2 ≤ f) := by show _ ≤ _; simp only [tick]; omega
  have HD : Hid (d ≤ X.l.depth ∧ d ≤ 1048576 ∧ p ≤ 1048576) := ⟨hd, Nat.le_trans hd HF.out.depth, Nat.le_trans hp HF.out.short⟩
  clear hf hl hp hd hd2 hs2
  show Calls Tryd.prog 86 #[.agg #[tv a], .pointer (some ⟨X.rb, 0, none⟩), .int .i64 (p : Nat), .int .i64 (d : Nat)] w (Told X w (ev X.e X.l (f + 1) (.not a) p d s))
  go_enter Tryd.func86, Tryd.ntmps86
  go_upto_region 1 with (fail)
  generalize hwa : (w.alloc (.cells #[tv a] 99)).alloc (.cells #[.int .i64 0, .int .i64 0, .string ⟨#[]⟩, .slice none 0 0, .int .i64 0] 75) = wa
  have HA : Hid (ES X (tick d s) (tick d s) w wa 99 [tv a]) := by rw [← hwa]; exact HZ.out
  clear hwa HZ
  have b0 : wa.cell? ⟨w.heap.size, 0, none⟩ = some (tv a) := HA.out.box.cell 0
  have hdw : wrap64 ((d : Int) + 1) = ((d + 1 : Nat) : Int) := by have := HD.out.2.1; rw [IntWalk.wrap64_in _ (by omega)]; rfl
  go_wp2_with (fail)
  refine (HIH.out (a) (p) (d + 1) (tick d s) _ (HI.out a).1 HL.out HP.out (by have := HD.out.1; omega) (HI.out a).2.1 (HI.out a).2.2.1 HA.out.rn).mono ?_
  rintro e w1 ⟨v1, rfl, hg, hr, ho⟩
  obtain ⟨ax, cx, hv⟩ := Go.X.own_slice ho
  subst hv
  have HOx := Lib.hid (ho.low HA.out.gr.size)
  have HEx := Lib.hid (HA.out.next hg hr)
  clear hg hr ho
  generalize hx : ev X.e X.l f (a) p (d + 1) (tick d s) = qx at *
  obtain ⟨⟨xk, xe, xl, xf, xt⟩, xs⟩ := qx
  dsimp only [resCells] at *
  have HV : Hid (ev X.e X.l (f + 1) (.not a) p d s = (if xk = 1 then .zero else .mat p, xs)) := by show _ = _; rw [ev_not _ _ _ HS.out, hx]
  clear hx HOx HA b0
  have hfd := field77
  by_cases hk : xk = 1
  · have hkb : (xk == (1 : Int)) = true := by rw [hk]; rfl
    obtain ⟨⟨z0, z1, z2, z3, z4⟩, y0, y1, y2, y3, y4⟩ := HEx.out.at_
    go_wp2
    clear z0 z1 z2 z3 z4 y0 y1 y2 y3 y4
    (try simp only [Exit.inBlock, Exit.then])
    show bodyPost _ _ _ _ _ (set5 w1 (w.heap.size + 1) (.int .i64 0) (.int .i64 ((0 : Nat) : Int)) (.string ⟨#[]⟩) (.slice none 0 0) (.int .i64 ((0 : Nat) : Int)))
    obtain ⟨wz, hwz⟩ : ∃ wz, wz = set5 w1 (w.heap.size + 1) (.int .i64 0) (.int .i64 ((0 : Nat) : Int)) (.string ⟨#[]⟩) (.slice none 0 0) (.int .i64 ((0 : Nat) : Int)) := ⟨_, rfl⟩
    rw [← hwz]
    obtain ⟨hT, hB⟩ := (HEx.out).put (OwnF.nil _ _) hwz
    obtain ⟨⟨r0, r1, r2, r3, r4⟩, _⟩ := blk5 hB
    clear hwz hB
    refine bodyPost_ret (v := .agg (resCells 0 (0) ⟨#[]⟩ (.slice none 0 0) (0)).toArray) (by simp [results, resCells, Tryd.results86, go_sem, r0, r1, r2, r3, r4]) rfl ?_
    rw [HV.out, if_pos hk]
    exact hT
  · have hkb : (xk == (1 : Int)) = false := beq_eq_false_iff_ne.2 hk
    go_wp2_with (fail)
    refine (matched.calls p _).mono ?_
    rintro e w2 ⟨rfl, hg⟩
    have H2 := Lib.hid (HEx.out.more hg)
    clear HEx hg
    dsimp only [resCells]
    obtain ⟨⟨z0, z1, z2, z3, z4⟩, y0, y1, y2, y3, y4⟩ := H2.out.at_
    go_wp2
    clear z0 z1 z2 z3 z4 y0 y1 y2 y3 y4
    (try simp only [Exit.inBlock, Exit.then])
    show bodyPost _ _ _ _ _ (set5 w2 (w.heap.size + 1) (.int .i64 1) (.int .i64 ((p : Nat) : Int)) (.string ⟨#[]⟩) (.slice none 0 0) (.int .i64 ((0 : Nat) : Int)))
    obtain ⟨wz, hwz⟩ : ∃ wz, wz = set5 w2 (w.heap.size + 1) (.int .i64 1) (.int .i64 ((p : Nat) : Int)) (.string ⟨#[]⟩) (.slice none 0 0) (.int .i64 ((0 : Nat) : Int)) := ⟨_, rfl⟩
    rw [← hwz]
    obtain ⟨hT, hB⟩ := (H2.out).put (OwnF.nil _ _) hwz
    obtain ⟨⟨r0, r1, r2, r3, r4⟩, _⟩ := blk5 hB
    clear hwz hB
    refine bodyPost_ret (v := .agg (resCells 1 (p) ⟨#[]⟩ (.slice none 0 0) (0)).toArray) (by simp [results, resCells, Tryd.results86, go_sem, r0, r1, r2, r3, r4]) rfl ?_
    rw [HV.out, if_neg hk]
    exact hT
set_option maxRecDepth 100000 in
set_option maxHeartbeats 4000000 in
theorem alt.calls (X : Cx) (F : Fix X) (f : Nat) (IH : StepC X f) (a b : T) : EvalC X f (.alt a b) := by
  intro p d s w hf hl hp hd hd2 hs2 hs hn
  have HF := Lib.hid F; clear F
  have HIH := Lib.hid IH; clear IH
  have HS := Lib.hid hs; clear hs
  have HZ := Lib.hid (ES.start hn 96 [tv a, tv b]); clear hn
  have HL : Hid (low X.N (.alt a b)) := hl
  have HI := Lib.hid (fun t => in_step (p := p) hf hs2 hd hd2 t)
  have HP := Lib.hid hp
  have HF2 : Hid (2 * (X.l.steps - (tick d s).steps) + 2 ≤ f) := by show _ ≤ _; simp only [tick]; omega
  have HD : Hid (d ≤ X.l.depth ∧ d ≤ 1048576 ∧ p ≤ 1048576) := ⟨hd, Nat.le_trans hd HF.out.depth, Nat.le_trans hp HF.out.short⟩
  clear hf hl hp hd hd2 hs2
  show Calls Tryd.prog 84 #[.agg #[tv a, tv b], .pointer (some ⟨X.rb, 0, none⟩), .int .i64 (p : Nat), .int .i64 (d : Nat)] w (Told X w (ev X.e X.l (f + 1) (.alt a b) p d s))
  go_enter Tryd.func84, Tryd.ntmps84
  go_upto_region 1 with (fail)
  generalize hwa : (w.alloc (.cells #[tv a, tv b] 96)).alloc (.cells #[.int .i64 0, .int .i64 0, .string ⟨#[]⟩, .slice none 0 0, .int .i64 0] 75) = wa
  have HA : Hid (ES X (tick d s) (tick d s) w wa 96 [tv a, tv b]) := by rw [← hwa]; exact HZ.out
  clear hwa HZ
  have b0 : wa.cell? ⟨w.heap.size, 0, none⟩ = some (tv a) := HA.out.box.cell 0
  have hdw : wrap64 ((d : Int) + 1) = ((d + 1 : Nat) : Int) := by have := HD.out.2.1; rw [IntWalk.wrap64_in _ (by omega)]; rfl
  go_wp2_with (fail)
  refine (HIH.out (a) (p) (d + 1) (tick d s) _ (HI.out a).1 HL.out.1 HP.out (by have := HD.out.1; omega) (HI.out a).2.1 (HI.out a).2.2.1 HA.out.rn).mono ?_
  rintro e w1 ⟨v1, rfl, hg, hr, ho⟩
  obtain ⟨ax, cx, hv⟩ := Go.X.own_slice ho
  subst hv
  have HOx := Lib.hid (ho.low HA.out.gr.size)
  have HEx := Lib.hid (HA.out.next hg hr)
  clear hg hr ho
  generalize hx : ev X.e X.l f (a) p (d + 1) (tick d s) = qx at *
  obtain ⟨⟨xk, xe, xl, xf, xt⟩, xs⟩ := qx
  dsimp only [resCells] at *
  have hok := (HI.out a).2.2.2
  rw [hx] at hok
  have HJ := Lib.hid (second (HI.out a).1 (HI.out a).2.1 (HI.out a).2.2.1 hok)
  clear hok b0 HA
  have HX := Lib.hid hx; clear hx
  have HKx' : ∀ wk : World, wk = w1.alloc (.cells #[.int .i64 xk, .int .i64 (xe : Nat), .string xl, .slice ax xf.length cx, .int .i64 (xt : Nat)] 75) → Hid (ES X (tick d s) xs w wk 96 [tv a, tv b] ∧ Blk wk w1.heap.size 75 (resCells xk xe xl (.slice ax xf.length cx) xt) ∧ OwnF wk w.heap.size (.slice ax xf.length cx) xf ∧ w.heap.size + 1 < w1.heap.size) := by
    rintro wk rfl
    have g := World.grownBy_alloc w1 (.cells #[.int .i64 xk, .int .i64 (xe : Nat), .string xl, .slice ax xf.length cx, .int .i64 (xt : Nat)] 75) none
    exact ⟨HEx.out.more g, Blk.alloc w1 _ _, HOx.out.more g, HEx.out.res.lt⟩
  go_upto_region 2 with (fail)
  generalize hwk : w1.alloc (.cells #[.int .i64 xk, .int .i64 (xe : Nat), .string xl, .slice ax xf.length cx, .int .i64 (xt : Nat)] 75) = wk
  have HKx := HKx' wk hwk.symm
  clear HKx' hwk HEx HOx
  generalize w1.heap.size = bx at *
  obtain ⟨⟨x0, x1, x2, x3, x4⟩, xf1, xf3, xf4⟩ := blk5 HKx.out.2.1
  by_cases hk : xk = 0
  · have hkb : (xk == (0 : Int)) = true := by rw [hk]; rfl
    have b1 : wk.cell? ⟨w.heap.size, 1, none⟩ = some (tv b) := HKx.out.1.box.cell 1
    go_wp2_with (fail)
    refine (HIH.out (b) (p) (d + 1) (xs) _ HJ.out.1 HL.out.2 HP.out (by have := HD.out.1; omega) HJ.out.2.1 HJ.out.2.2 HKx.out.1.rn).mono ?_
    rintro e w2 ⟨v1, rfl, hg, hr, ho⟩
    obtain ⟨ay, cy, hv⟩ := Go.X.own_slice ho
    subst hv
    have HOy := Lib.hid (ho.low HKx.out.1.gr.size)
    have HEy := Lib.hid (HKx.out.1.next hg hr)
    clear hg hr ho
    generalize hy : ev X.e X.l f b p (d + 1) xs = qy at *
    obtain ⟨⟨yk, ye, yl, yf, yt⟩, ys⟩ := qy
    dsimp only [resCells] at *
    have HV : Hid (ev X.e X.l (f + 1) (.alt a b) p d s = (⟨yk, ye, yl, yf, yt⟩, ys)) := by show _ = _; rw [ev_alt _ _ _ _ HS.out, HX.out, if_neg (by simp [hk]), hy]
    clear hy HKx b1 x0 x1 x2 x3 x4 xf1 xf3 xf4
    obtain ⟨⟨z0, z1, z2, z3, z4⟩, y0, y1, y2, y3, y4⟩ := HEy.out.at_
    go_wp2
    clear z0 z1 z2 z3 z4 y0 y1 y2 y3 y4
    (try simp only [Exit.inBlock, Exit.then])
    show bodyPost _ _ _ _ _ (set5 w2 (w.heap.size + 1) (.int .i64 yk) (.int .i64 ((ye : Nat) : Int)) (.string yl) (.slice ay yf.length cy) (.int .i64 ((yt : Nat) : Int)))
    obtain ⟨wz, hwz⟩ : ∃ wz, wz = set5 w2 (w.heap.size + 1) (.int .i64 yk) (.int .i64 ((ye : Nat) : Int)) (.string yl) (.slice ay yf.length cy) (.int .i64 ((yt : Nat) : Int)) := ⟨_, rfl⟩
    rw [← hwz]
    obtain ⟨hT, hB⟩ := (HEy.out).put HOy.out hwz
    obtain ⟨⟨r0, r1, r2, r3, r4⟩, _⟩ := blk5 hB
    clear hwz hB
    refine bodyPost_ret (v := .agg (resCells yk (ye) yl (.slice ay yf.length cy) (yt)).toArray) (by simp [results, resCells, Tryd.results84, go_sem, r0, r1, r2, r3, r4]) rfl ?_
    rw [HV.out]
    exact hT
  · have hkb : (xk == (0 : Int)) = false := beq_eq_false_iff_ne.2 hk
    have HV : Hid (ev X.e X.l (f + 1) (.alt a b) p d s = (⟨xk, xe, xl, xf, xt⟩, xs)) := by show _ = _; rw [ev_alt _ _ _ _ HS.out, HX.out, if_pos hk]
    obtain ⟨⟨z0, z1, z2, z3, z4⟩, y0, y1, y2, y3, y4⟩ := HKx.out.1.at_
    go_wp2
    clear z0 z1 z2 z3 z4 y0 y1 y2 y3 y4
    (try simp only [Exit.inBlock, Exit.then])
    show bodyPost _ _ _ _ _ (set5 wk (w.heap.size + 1) (.int .i64 xk) (.int .i64 ((xe : Nat) : Int)) (.string xl) (.slice ax xf.length cx) (.int .i64 ((xt : Nat) : Int)))
    obtain ⟨wz, hwz⟩ : ∃ wz, wz = set5 wk (w.heap.size + 1) (.int .i64 xk) (.int .i64 ((xe : Nat) : Int)) (.string xl) (.slice ax xf.length cx) (.int .i64 ((xt : Nat) : Int)) := ⟨_, rfl⟩
    rw [← hwz]
    obtain ⟨hT, hB⟩ := (HKx.out.1).put HKx.out.2.2.1 hwz
    obtain ⟨⟨r0, r1, r2, r3, r4⟩, _⟩ := blk5 hB
    clear hwz hB
    refine bodyPost_ret (v := .agg (resCells xk (xe) xl (.slice ax xf.length cx) (xt)).toArray) (by simp [results, resCells, Tryd.results84, go_sem, r0, r1, r2, r3, r4]) rfl ?_
    rw [HV.out]
    exact hT
set_option maxRecDepth 100000 in
set_option maxHeartbeats 4000000 in
theorem seq.calls (X : Cx) (F : Fix X) (f : Nat) (IH : StepC X f) (a b : T) : EvalC X f (.seq a b) := by
  intro p d s w hf hl hp hd hd2 hs2 hs hn
  have HF := Lib.hid F; clear F
  have HIH := Lib.hid IH; clear IH
  have HS := Lib.hid hs; clear hs
  have HZ := Lib.hid (ES.start hn 95 [tv a, tv b]); clear hn
  have HL : Hid (low X.N (.seq a b)) := hl
  have HI := Lib.hid (fun t => in_step (p := p) hf hs2 hd hd2 t)
  have HP := Lib.hid hp
  have HF2 : Hid (2 * (X.l.steps - (tick d s).steps) + 2 ≤ f) := by show _ ≤ _; simp only [tick]; omega
  have HD : Hid (d ≤ X.l.depth ∧ d ≤ 1048576 ∧ p ≤ 1048576) := ⟨hd, Nat.le_trans hd HF.out.depth, Nat.le_trans hp HF.out.short⟩
  clear hf hl hp hd hd2 hs2
  show Calls Tryd.prog 83 #[.agg #[tv a, tv b], .pointer (some ⟨X.rb, 0, none⟩), .int .i64 (p : Nat), .int .i64 (d : Nat)] w (Told X w (ev X.e X.l (f + 1) (.seq a b) p d s))
  go_enter Tryd.func83, Tryd.ntmps83
  go_upto_region 1 with (fail)
  generalize hwa : (w.alloc (.cells #[tv a, tv b] 95)).alloc (.cells #[.int .i64 0, .int .i64 0, .string ⟨#[]⟩, .slice none 0 0, .int .i64 0] 75) = wa
  have HA : Hid (ES X (tick d s) (tick d s) w wa 95 [tv a, tv b]) := by rw [← hwa]; exact HZ.out
  clear hwa HZ
  have b0 : wa.cell? ⟨w.heap.size, 0, none⟩ = some (tv a) := HA.out.box.cell 0
  have hdw : wrap64 ((d : Int) + 1) = ((d + 1 : Nat) : Int) := by have := HD.out.2.1; rw [IntWalk.wrap64_in _ (by omega)]; rfl
  go_wp2_with (fail)
  refine (HIH.out (a) (p) (d + 1) (tick d s) _ (HI.out a).1 HL.out.1 HP.out (by have := HD.out.1; omega) (HI.out a).2.1 (HI.out a).2.2.1 HA.out.rn).mono ?_
  rintro e w1 ⟨v1, rfl, hg, hr, ho⟩
  obtain ⟨ax, cx, hv⟩ := Go.X.own_slice ho
  subst hv
  have HOx := Lib.hid (ho.low HA.out.gr.size)
  have HEx := Lib.hid (HA.out.next hg hr)
  clear hg hr ho
  generalize hx : ev X.e X.l f (a) p (d + 1) (tick d s) = qx at *
  obtain ⟨⟨xk, xe, xl, xf, xt⟩, xs⟩ := qx
  dsimp only [resCells] at *
  have hok := (HI.out a).2.2.2
  rw [hx] at hok
  have HJ := Lib.hid (second (HI.out a).1 (HI.out a).2.1 (HI.out a).2.2.1 hok)
  have HXE : Hid (xe ≤ X.inp.size) := by have h1 := hok.en; have h2 := HP.out; have h3 := HF.out.len; simp only at h1; show _ ≤ _; omega
  have HOK := Lib.hid hok
  clear hok b0 HA
  have HX := Lib.hid hx; clear hx
  have HKx' : ∀ wk : World, wk = w1.alloc (.cells #[.int .i64 xk, .int .i64 (xe : Nat), .string xl, .slice ax xf.length cx, .int .i64 (xt : Nat)] 75) → Hid (ES X (tick d s) xs w wk 95 [tv a, tv b] ∧ Blk wk w1.heap.size 75 (resCells xk xe xl (.slice ax xf.length cx) xt) ∧ OwnF wk w.heap.size (.slice ax xf.length cx) xf ∧ w.heap.size + 1 < w1.heap.size) := by
    rintro wk rfl
    have g := World.grownBy_alloc w1 (.cells #[.int .i64 xk, .int .i64 (xe : Nat), .string xl, .slice ax xf.length cx, .int .i64 (xt : Nat)] 75) none
    exact ⟨HEx.out.more g, Blk.alloc w1 _ _, HOx.out.more g, HEx.out.res.lt⟩
  go_upto_region 2 with (fail)
  generalize hwk : w1.alloc (.cells #[.int .i64 xk, .int .i64 (xe : Nat), .string xl, .slice ax xf.length cx, .int .i64 (xt : Nat)] 75) = wk
  have HKx := HKx' wk hwk.symm
  clear HKx' hwk HEx HOx
  generalize w1.heap.size = bx at *
  obtain ⟨⟨x0, x1, x2, x3, x4⟩, xf1, xf3, xf4⟩ := blk5 HKx.out.2.1
  by_cases hk : xk = 1
  · have hkb : (xk == (1 : Int)) = true := by rw [hk]; rfl
    have b1 : wk.cell? ⟨w.heap.size, 1, none⟩ = some (tv b) := HKx.out.1.box.cell 1
    go_wp2_with (fail)
    refine (HIH.out (b) (xe) (d + 1) (xs) _ HJ.out.1 HL.out.2 HXE.out (by have := HD.out.1; omega) HJ.out.2.1 HJ.out.2.2 HKx.out.1.rn).mono ?_
    rintro e w2 ⟨v1, rfl, hg, hr, ho⟩
    obtain ⟨ay, cy, hv⟩ := Go.X.own_slice ho
    subst hv
    have HOy := Lib.hid (ho.low HKx.out.1.gr.size)
    have HEy := Lib.hid (HKx.out.1.next hg hr)
    have HC : Hid (Blk w2 bx 75 (resCells xk xe xl (.slice ax xf.length cx) xt) ∧ OwnF w2 w.heap.size (.slice ax xf.length cx) xf ∧ w.heap.size + 1 < bx) :=
      ⟨HKx.out.2.1.grown hg (by have := HKx.out.1.rn0.rec_.lt; have := HKx.out.2.2.2; intro e; injection e with e; omega), HKx.out.2.2.1.kept hg HKx.out.1.rn.rec_ (by decide), HKx.out.2.2.2⟩
    clear hg hr ho
    generalize hy : ev X.e X.l f b xe (d + 1) xs = qy at *
    obtain ⟨⟨yk, ye, yl, yf, yt⟩, ys⟩ := qy
    dsimp only [resCells] at *
    have hoky := ev_ok X.e X.l f b xe (d + 1) xs HJ.out.1
    rw [hy] at hoky
    have HNUM : Hid (xf.length + yf.length ≤ 1048576 ∧ yt + xt ≤ 1048576) := by
      have h1 := HOK.out.few
      have h2 := hoky.few
      have h3 := hoky.max (HOK.out.max (HI.out a).2.2.1)
      have h4 := hoky.tr
      have h5 := HOK.out.tr
      have h6 := HF.out.steps
      simp only at h1 h2 h3 h4 h5
      show _ ∧ _
      omega
    have HV : Hid (ev X.e X.l (f + 1) (.seq a b) p d s = if yk = 1 then (⟨yk, ye, yl, xf ++ yf, yt + xt⟩, ys) else (⟨yk, ye, yl, yf, yt⟩, ys)) := by show _ = _; rw [ev_seq _ _ _ _ HS.out, HX.out, if_neg (by simp [hk])]; simp only; rw [hy]
    clear hoky hy HKx b1 x0 x1 x2 x3 x4 xf1 xf3 xf4
    have HKy' : ∀ wk : World, wk = w2.alloc (.cells #[.int .i64 yk, .int .i64 (ye : Nat), .string yl, .slice ay yf.length cy, .int .i64 (yt : Nat)] 75) → Hid (ES X (tick d s) ys w wk 95 [tv a, tv b] ∧ Blk wk w2.heap.size 75 (resCells yk ye yl (.slice ay yf.length cy) yt) ∧ OwnF wk w.heap.size (.slice ay yf.length cy) yf ∧ w.heap.size + 1 < w2.heap.size) := by
      rintro wk rfl
      have g := World.grownBy_alloc w2 (.cells #[.int .i64 yk, .int .i64 (ye : Nat), .string yl, .slice ay yf.length cy, .int .i64 (yt : Nat)] 75) none
      exact ⟨HEy.out.more g, Blk.alloc w2 _ _, HOy.out.more g, HEy.out.res.lt⟩
    have HC' : ∀ wm : World, wm = w2.alloc (.cells #[.int .i64 yk, .int .i64 (ye : Nat), .string yl, .slice ay yf.length cy, .int .i64 (yt : Nat)] 75) → Hid (Blk wm bx 75 (resCells xk xe xl (.slice ax xf.length cx) xt) ∧ OwnF wm w.heap.size (.slice ax xf.length cx) xf ∧ w.heap.size + 1 < bx ∧ bx < w2.heap.size) := by
      rintro wm rfl
      have g := World.grownBy_alloc w2 (.cells #[.int .i64 yk, .int .i64 (ye : Nat), .string yl, .slice ay yf.length cy, .int .i64 (yt : Nat)] 75) none
      exact ⟨HC.out.1.grown g (by simp), HC.out.2.1.more g, HC.out.2.2, HC.out.1.lt⟩
    go_upto_region 5 with (fail)
    generalize hwk : w2.alloc (.cells #[.int .i64 yk, .int .i64 (ye : Nat), .string yl, .slice ay yf.length cy, .int .i64 (yt : Nat)] 75) = wm
    have HKy := HKy' wm hwk.symm
    have HCm := HC' wm hwk.symm
    clear HC HC'
    clear HKy' hwk HEy HOy
    generalize w2.heap.size = by' at *
    obtain ⟨⟨y0, y1, y2, y3, y4⟩, yf1, yf3, yf4⟩ := blk5 HKy.out.2.1
    by_cases hk2 : yk = 1
    · have hkb2 : (yk == (1 : Int)) = true := by rw [hk2]; rfl
      obtain ⟨⟨x0, x1, x2, x3, x4⟩, _, _, _⟩ := blk5 HCm.out.1
      go_wp2_with (first
        | (at_builtin; refine appendRow rfl (.tmp 34) (.tmp 36) 29 49 rfl w.heap.size _ _ 4 40 Tryd.underlying29 info49' rfl _ xf.length _ rfl HCm.out.2.1 _ yf.length _ rfl HKy.out.2.2.1 (capsOf_one _) ?_ ?_ ?_ ?_)
        | fail)
      · have := HNUM.out.1; simp only [maxLen]; omega
      · have := HNUM.out.1; omega
      · exact HKy.out.1.gr.size
      intro v' w3 hown hap
      obtain ⟨a9, c9, hv9⟩ := Go.X.own_slice hown
      subst hv9
      have HG : Hid (ES X (tick d s) ys w w3 95 [tv a, tv b] ∧ OwnF w3 w.heap.size (.slice a9 (xf.length + yf.length) c9) (xf ++ yf) ∧ Blk w3 by' 75 (resCells yk ye yl (.slice ay yf.length cy) yt) ∧ Blk w3 bx 75 (resCells xk xe xl (.slice ax xf.length cx) xt) ∧ w.heap.size + 1 < by' ∧ bx < by' ∧ w.heap.size + 1 < bx) :=
        ⟨HKy.out.1.row HCm.out.2.1 hap.grown (by decide), OwnF.appended hown, hap.keeps_lt HKy.out.2.1 (fun e => own_other HCm.out.2.1 HKy.out.2.1 (by decide) e.symm), hap.keeps_lt HCm.out.1 (fun e => own_other HCm.out.2.1 HCm.out.1 (by decide) e.symm), HKy.out.2.2.2, HCm.out.2.2.2, HCm.out.2.2.1⟩
      clear hown hap HKy HCm x0 x1 x2 x3 x4 y0 y1 y2 y3 y4 yf1 yf3 yf4
      obtain ⟨⟨x0, x1, x2, x3, x4⟩, _, _, _⟩ := blk5 HG.out.2.2.2.1
      obtain ⟨⟨y0, y1, y2, y3, y4⟩, y5, y6, y7⟩ := blk5 HG.out.2.2.1
      obtain ⟨⟨z0, z1, z2, z3, z4⟩, u0, u1, u2, u3, u4⟩ := HG.out.1.at_
      have n1 : ¬ by' = w.heap.size + 1 := by have := HG.out.2.2.2.2.1; omega
      have n2 : ¬ w.heap.size + 1 = by' := by have := HG.out.2.2.2.2.1; omega
      have n3 : ¬ by' = bx := by have := HG.out.2.2.2.2.2.1; omega
      have n4 : ¬ bx = by' := by have := HG.out.2.2.2.2.2.1; omega
      have hwt : wrap64 ((yt : Int) + (xt : Int)) = ((yt + xt : Nat) : Int) := by have := HNUM.out.2; rw [IntWalk.wrap64_in _ (by omega)]; rfl
      go_wp2
      clear x0 x1 x2 x3 x4 y0 y1 y2 y3 y4 y5 y6 y7 z0 z1 z2 z3 z4 u0 u1 u2 u3 u4 n1 n2 n3 n4 hwt
      rw [show (yt : Int) + (xt : Int) = ((yt + xt : Nat) : Int) from rfl]
      have HFIN : Hid (ES X (tick d s) ys w ((w3.setCell ⟨by', 3, none⟩ (.slice a9 (xf.length + yf.length) c9)).setCell ⟨by', 4, none⟩ (.int .i64 ((yt + xt : Nat) : Int))) 95 [tv a, tv b] ∧ OwnF ((w3.setCell ⟨by', 3, none⟩ (.slice a9 (xf.length + yf.length) c9)).setCell ⟨by', 4, none⟩ (.int .i64 ((yt + xt : Nat) : Int))) w.heap.size (.slice a9 (xf.length + yf.length) c9) (xf ++ yf)) := by
        have g := Fr4.grown2 (grown_setCell w3 ⟨by', 3, none⟩ (.slice a9 (xf.length + yf.length) c9)) (grown_setCell _ ⟨by', 4, none⟩ (.int .i64 ((yt + xt : Nat) : Int)))
        exact ⟨HG.out.1.own g HG.out.2.2.2.2.1, HG.out.2.1.kept g HG.out.2.2.1 (by decide)⟩
      (try simp only [Exit.inBlock, Exit.then])
      show bodyPost _ _ _ _ _ (set5 ((w3.setCell ⟨by', 3, none⟩ (.slice a9 (xf.length + yf.length) c9)).setCell ⟨by', 4, none⟩ (.int .i64 ((yt + xt : Nat) : Int))) (w.heap.size + 1) (.int .i64 1) (.int .i64 ((ye : Nat) : Int)) (.string yl) (.slice a9 (xf.length + yf.length) c9) (.int .i64 ((yt + xt : Nat) : Int)))
      obtain ⟨wz, hwz⟩ : ∃ wz, wz = set5 ((w3.setCell ⟨by', 3, none⟩ (.slice a9 (xf.length + yf.length) c9)).setCell ⟨by', 4, none⟩ (.int .i64 ((yt + xt : Nat) : Int))) (w.heap.size + 1) (.int .i64 1) (.int .i64 ((ye : Nat) : Int)) (.string yl) (.slice a9 (xf.length + yf.length) c9) (.int .i64 ((yt + xt : Nat) : Int)) := ⟨_, rfl⟩
      rw [← hwz]
      obtain ⟨hT, hB⟩ := (HFIN.out.1).put HFIN.out.2 hwz
      obtain ⟨⟨r0, r1, r2, r3, r4⟩, _⟩ := blk5 hB
      clear hwz hB
      refine bodyPost_ret (v := .agg (resCells 1 (ye) yl (.slice a9 (xf.length + yf.length) c9) (yt + xt)).toArray) (by simp [results, resCells, Tryd.results83, go_sem, r0, r1, r2, r3, r4]) rfl ?_
      rw [HV.out, if_pos hk2, hk2]
      exact hT
    · have hkb2 : (yk == (1 : Int)) = false := beq_eq_false_iff_ne.2 hk2
      obtain ⟨⟨z0, z1, z2, z3, z4⟩, y0, y1, y2, y3, y4⟩ := HKy.out.1.at_
      go_wp2
      clear z0 z1 z2 z3 z4 y0 y1 y2 y3 y4
      (try simp only [Exit.inBlock, Exit.then])
      show bodyPost _ _ _ _ _ (set5 wm (w.heap.size + 1) (.int .i64 yk) (.int .i64 ((ye : Nat) : Int)) (.string yl) (.slice ay yf.length cy) (.int .i64 ((yt : Nat) : Int)))
      obtain ⟨wz, hwz⟩ : ∃ wz, wz = set5 wm (w.heap.size + 1) (.int .i64 yk) (.int .i64 ((ye : Nat) : Int)) (.string yl) (.slice ay yf.length cy) (.int .i64 ((yt : Nat) : Int)) := ⟨_, rfl⟩
      rw [← hwz]
      obtain ⟨hT, hB⟩ := (HKy.out.1).put HKy.out.2.2.1 hwz
      obtain ⟨⟨r0, r1, r2, r3, r4⟩, _⟩ := blk5 hB
      clear hwz hB
      refine bodyPost_ret (v := .agg (resCells yk (ye) yl (.slice ay yf.length cy) (yt)).toArray) (by simp [results, resCells, Tryd.results83, go_sem, r0, r1, r2, r3, r4]) rfl ?_
      rw [HV.out, if_neg hk2]
      exact hT
  · have hkb : (xk == (1 : Int)) = false := beq_eq_false_iff_ne.2 hk
    have HV : Hid (ev X.e X.l (f + 1) (.seq a b) p d s = (⟨xk, xe, xl, xf, xt⟩, xs)) := by show _ = _; rw [ev_seq _ _ _ _ HS.out, HX.out, if_pos hk]
    obtain ⟨⟨z0, z1, z2, z3, z4⟩, y0, y1, y2, y3, y4⟩ := HKx.out.1.at_
    go_wp2
    clear z0 z1 z2 z3 z4 y0 y1 y2 y3 y4
    (try simp only [Exit.inBlock, Exit.then])
    show bodyPost _ _ _ _ _ (set5 wk (w.heap.size + 1) (.int .i64 xk) (.int .i64 ((xe : Nat) : Int)) (.string xl) (.slice ax xf.length cx) (.int .i64 ((xt : Nat) : Int)))
    obtain ⟨wz, hwz⟩ : ∃ wz, wz = set5 wk (w.heap.size + 1) (.int .i64 xk) (.int .i64 ((xe : Nat) : Int)) (.string xl) (.slice ax xf.length cx) (.int .i64 ((xt : Nat) : Int)) := ⟨_, rfl⟩
    rw [← hwz]
    obtain ⟨hT, hB⟩ := (HKx.out.1).put HKx.out.2.2.1 hwz
    obtain ⟨⟨r0, r1, r2, r3, r4⟩, _⟩ := blk5 hB
    clear hwz hB
    refine bodyPost_ret (v := .agg (resCells xk (xe) xl (.slice ax xf.length cx) (xt)).toArray) (by simp [results, resCells, Tryd.results83, go_sem, r0, r1, r2, r3, r4]) rfl ?_
    rw [HV.out]
    exact hT
set_option maxRecDepth 100000 in
set_option maxHeartbeats 4000000 in
theorem cap.calls (X : Cx) (F : Fix X) (f : Nat) (IH : StepC X f) (nm : ByteArray) (a : T) : EvalC X f (.cap nm a) := by
  intro p d s w hf hl hp hd hd2 hs2 hs hn
  have HF := Lib.hid F; clear F
  have HIH := Lib.hid IH; clear IH
  have HS := Lib.hid hs; clear hs
  have HZ := Lib.hid (ES.start hn 101 [.string nm, tv a]); clear hn
  have HL : Hid (low X.N (.cap nm a)) := hl
  have HI := Lib.hid (fun t => in_step (p := p) hf hs2 hd hd2 t)
  have HP := Lib.hid hp
  have HF2 : Hid (2 * (X.l.steps - (tick d s).steps) + 2 ≤ f) := by show _ ≤ _; simp only [tick]; omega
  have HD : Hid (d ≤ X.l.depth ∧ d ≤ 1048576 ∧ p ≤ 1048576) := ⟨hd, Nat.le_trans hd HF.out.depth, Nat.le_trans hp HF.out.short⟩
  clear hf hl hp hd hd2 hs2
  show Calls Tryd.prog 87 #[.agg #[.string nm, tv a], .pointer (some ⟨X.rb, 0, none⟩), .int .i64 (p : Nat), .int .i64 (d : Nat)] w (Told X w (ev X.e X.l (f + 1) (.cap nm a) p d s))
  go_enter Tryd.func87, Tryd.ntmps87
  go_upto_region 1 with (fail)
  generalize hwa : (w.alloc (.cells #[.string nm, tv a] 101)).alloc (.cells #[.int .i64 0, .int .i64 0, .string ⟨#[]⟩, .slice none 0 0, .int .i64 0] 75) = wa
  have HA : Hid (ES X (tick d s) (tick d s) w wa 101 [.string nm, tv a]) := by rw [← hwa]; exact HZ.out
  clear hwa HZ
  have b1 : wa.cell? ⟨w.heap.size, 1, none⟩ = some (tv a) := HA.out.box.cell 1
  have hdw : wrap64 ((d : Int) + 1) = ((d + 1 : Nat) : Int) := by have := HD.out.2.1; rw [IntWalk.wrap64_in _ (by omega)]; rfl
  go_wp2_with (fail)
  refine (HIH.out (a) (p) (d + 1) (tick d s) _ (HI.out a).1 HL.out HP.out (by have := HD.out.1; omega) (HI.out a).2.1 (HI.out a).2.2.1 HA.out.rn).mono ?_
  rintro e w1 ⟨v1, rfl, hg, hr, ho⟩
  obtain ⟨ax, cx, hv⟩ := Go.X.own_slice ho
  subst hv
  have HOx := Lib.hid (ho.low HA.out.gr.size)
  have HEx := Lib.hid (HA.out.next hg hr)
  clear hg hr ho
  generalize hx : ev X.e X.l f (a) p (d + 1) (tick d s) = qx at *
  obtain ⟨⟨xk, xe, xl, xf, xt⟩, xs⟩ := qx
  dsimp only [resCells] at *
  have hok := (HI.out a).2.2.2
  rw [hx] at hok
  have HLEN : Hid (xf.length ≤ 1048576) := by
    have h1 := hok.few
    have h2 := hok.max (HI.out a).2.2.1
    have h3 := HF.out.steps
    simp only at h1 h2
    show _ ≤ _
    omega
  clear hok b1 HA
  have HX := Lib.hid hx; clear hx
  have HKx' : ∀ wk : World, wk = w1.alloc (.cells #[.int .i64 xk, .int .i64 (xe : Nat), .string xl, .slice ax xf.length cx, .int .i64 (xt : Nat)] 75) → Hid (ES X (tick d s) xs w wk 101 [.string nm, tv a] ∧ Blk wk w1.heap.size 75 (resCells xk xe xl (.slice ax xf.length cx) xt) ∧ OwnF wk w.heap.size (.slice ax xf.length cx) xf ∧ w.heap.size + 1 < w1.heap.size) := by
    rintro wk rfl
    have g := World.grownBy_alloc w1 (.cells #[.int .i64 xk, .int .i64 (xe : Nat), .string xl, .slice ax xf.length cx, .int .i64 (xt : Nat)] 75) none
    exact ⟨HEx.out.more g, Blk.alloc w1 _ _, HOx.out.more g, HEx.out.res.lt⟩
  go_upto_region 2 with (fail)
  generalize hwk : w1.alloc (.cells #[.int .i64 xk, .int .i64 (xe : Nat), .string xl, .slice ax xf.length cx, .int .i64 (xt : Nat)] 75) = wk
  have HKx := HKx' wk hwk.symm
  clear HKx' hwk HEx HOx
  generalize w1.heap.size = bx at *
  obtain ⟨⟨x0, x1, x2, x3, x4⟩, xf1, xf3, xf4⟩ := blk5 HKx.out.2.1
  by_cases hk : xk = 1
  · have hkb : (xk == (1 : Int)) = true := by rw [hk]; rfl
    have HV : Hid (ev X.e X.l (f + 1) (.cap nm a) p d s = (⟨xk, xe, xl, ⟨nm, p, xe, xt⟩ :: xf, 1⟩, xs)) := by show _ = _; rw [ev_cap _ _ _ _ HS.out, HX.out, if_neg (by simp [hk])]
    have hwl : wrap64 ((xf.length : Int) + 1) = ((xf.length + 1 : Nat) : Int) := by have := HLEN.out; rw [IntWalk.wrap64_in _ (by omega)]; rfl
    have HLT : Hid (∀ k, (Value.slice ax xf.length cx).ownBlock = some k → k < wk.heap.size) := fun k hk => (World.ownsRow.lt HKx.out.2.2.1 k hk).2
    go_wp2_with (first
      | (at_make; refine Go.X.make0 rfl _ _ 29 rfl w.heap.size 49 _ 4 40 Tryd.underlying29 info49' .i64 .i64 _ (xf.length + 1) rfl rfl ?_ ?_ ?_ ?_ ?_)
      | fail)
    · first | rfl | exact hwl
    · have := HLEN.out; clear hwl; omega
    · have := HLEN.out; clear hwl; simp only [maxLen]; omega
    · exact HKx.out.1.gr.size
    intro w3 hown hg
    have HM : Hid (ES X (tick d s) xs w w3 101 [.string nm, tv a] ∧ OwnF w3 w.heap.size (.slice (some ⟨wk.heap.size, 0, none⟩) 0 (xf.length + 1)) [] ∧ Blk w3 bx 75 (resCells xk xe xl (.slice ax xf.length cx) xt) ∧ OwnF w3 w.heap.size (.slice ax xf.length cx) xf ∧ w.heap.size + 1 < bx) :=
      ⟨HKx.out.1.more hg, hown, HKx.out.2.1.grown hg (by simp), HKx.out.2.2.1.more hg, HKx.out.2.2.2⟩
    clear hown hg HKx x0 x1 x2 x3 x4 xf1 xf3 xf4 hwl
    generalize wk.heap.size = bg at *
    have HBG : Hid ((Value.slice (some ⟨bg, 0, none⟩) 0 (xf.length + 1)).ownBlock = some bg) := rfl
    obtain ⟨am, ham⟩ : ∃ am, (some ⟨bg, 0, none⟩ : Option Addr) = am := ⟨_, rfl⟩
    rw [ham] at HM HBG ⊢
    clear ham
    obtain ⟨⟨x0, x1, x2, x3, x4⟩, _, _, _⟩ := blk5 HM.out.2.2.1
    have b0 : w3.cell? ⟨w.heap.size, 0, none⟩ = some (.string nm) := HM.out.1.box.cell 0
    have HOWN : Hid (w3.ownsRow w.heap.size 49 4 (.slice am 0 (xf.length + 1)) 0 []) := HM.out.2.1
    go_wp2_with (first
      | (at_builtin; refine Go.X.append1 rfl (.tmp 27) (.tmp 36) 29 49 rfl w.heap.size _ 4 40 Tryd.underlying29 info49' rfl _ 0 [] rfl HOWN.out [.string nm, .int .i64 (p : Nat), .int .i64 (xe : Nat), .int .i64 (xt : Nat)] rfl rfl ?_ ?_ ?_ ?_ ?_)
      | fail)
    · first
        | exact ⟨rfl, rfl, rfl, rfl⟩
        | (intro u hu; simp at hu; rcases hu with rfl | rfl | rfl | rfl <;> rfl)
    · simp [maxLen]
    · omega
    · exact HM.out.1.gr.size
    intro v' w4 hown hap
    obtain ⟨a8, c8, hv8⟩ := Go.X.own_slice hown
    subst hv8
    have HQ : Hid (ES X (tick d s) xs w w4 101 [.string nm, tv a] ∧ OwnF w4 w.heap.size (.slice a8 1 c8) [⟨nm, p, xe, xt⟩] ∧ Blk w4 bx 75 (resCells xk xe xl (.slice ax xf.length cx) xt) ∧ OwnF w4 w.heap.size (.slice ax xf.length cx) xf ∧ w.heap.size + 1 < bx) := by
      have g := World.grownBy_alloc w3 (.cells ([.string nm, .int .i64 (p : Nat), .int .i64 (xe : Nat), .int .i64 (xt : Nat)]).toArray 49) none
      have o0 := OwnF.more HM.out.2.1 g
      refine ⟨(HM.out.1.more g).row o0 hap.grown (by decide), hown, hap.keeps_lt (HM.out.2.2.1.grown g (by simp)) (fun e => own_other o0 (HM.out.2.2.1.grown g (by simp)) (by decide) e.symm), hap.keeps _ _ _ _ _ _ (HM.out.2.2.2.1.more g) ?_, HM.out.2.2.2.2⟩
      cases hb : (Value.slice ax xf.length cx).ownBlock with
      | none => exact .inl rfl
      | some k =>
        refine .inr (.inl ?_)
        have := HLT.out k hb
        rw [HBG.out]
        intro e
        injection e with e
        omega
    clear hown hap HM HOWN x0 x1 x2 x3 x4 b0 HLT
    obtain ⟨⟨x0, x1, x2, x3, x4⟩, _, _, _⟩ := blk5 HQ.out.2.2.1
    go_wp2_with (first
      | (at_builtin; refine appendRow rfl (.tmp 38) (.tmp 40) 29 49 rfl w.heap.size _ _ 4 40 Tryd.underlying29 info49' rfl _ 1 _ rfl HQ.out.2.1 _ xf.length _ rfl HQ.out.2.2.2.1 (capsOf_one _) ?_ ?_ ?_ ?_)
      | fail)
    · have := HLEN.out; simp only [maxLen]; omega
    · have := HLEN.out; omega
    · exact HQ.out.1.gr.size
    intro v' w5 hown hap
    obtain ⟨a9, c9, hv9⟩ := Go.X.own_slice hown
    subst hv9
    have HG : Hid (ES X (tick d s) xs w w5 101 [.string nm, tv a] ∧ OwnF w5 w.heap.size (.slice a9 (1 + xf.length) c9) (⟨nm, p, xe, xt⟩ :: xf) ∧ Blk w5 bx 75 (resCells xk xe xl (.slice ax xf.length cx) xt) ∧ w.heap.size + 1 < bx) :=
      ⟨HQ.out.1.row HQ.out.2.1 hap.grown (by decide), OwnF.appended (F := [⟨nm, p, xe, xt⟩]) hown, hap.keeps_lt HQ.out.2.2.1 (fun e => own_other HQ.out.2.1 HQ.out.2.2.1 (by decide) e.symm), HQ.out.2.2.2.2⟩
    clear hown hap HQ x0 x1 x2 x3 x4
    obtain ⟨⟨x0, x1, x2, x3, x4⟩, x5, x6, x7⟩ := blk5 HG.out.2.2.1
    obtain ⟨⟨z0, z1, z2, z3, z4⟩, u0, u1, u2, u3, u4⟩ := HG.out.1.at_
    have n1 : ¬ bx = w.heap.size + 1 := by have := HG.out.2.2.2; omega
    have n2 : ¬ w.heap.size + 1 = bx := by have := HG.out.2.2.2; omega
    go_wp2
    clear x0 x1 x2 x3 x4 x5 x6 x7 z0 z1 z2 z3 z4 u0 u1 u2 u3 u4 n1 n2
    have HFIN : Hid (ES X (tick d s) xs w ((w5.setCell ⟨bx, 3, none⟩ (.slice a9 (1 + xf.length) c9)).setCell ⟨bx, 4, none⟩ (.int .i64 1)) 101 [.string nm, tv a] ∧ OwnF ((w5.setCell ⟨bx, 3, none⟩ (.slice a9 (1 + xf.length) c9)).setCell ⟨bx, 4, none⟩ (.int .i64 1)) w.heap.size (.slice a9 (1 + xf.length) c9) (⟨nm, p, xe, xt⟩ :: xf)) := by
      have g := Fr4.grown2 (grown_setCell w5 ⟨bx, 3, none⟩ (.slice a9 (1 + xf.length) c9)) (grown_setCell _ ⟨bx, 4, none⟩ (.int .i64 1))
      exact ⟨HG.out.1.own g HG.out.2.2.2, HG.out.2.1.kept g HG.out.2.2.1 (by decide)⟩
    (try simp only [Exit.inBlock, Exit.then])
    show bodyPost _ _ _ _ _ (set5 ((w5.setCell ⟨bx, 3, none⟩ (.slice a9 (1 + xf.length) c9)).setCell ⟨bx, 4, none⟩ (.int .i64 1)) (w.heap.size + 1) (.int .i64 1) (.int .i64 ((xe : Nat) : Int)) (.string xl) (.slice a9 (1 + xf.length) c9) (.int .i64 ((1 : Nat) : Int)))
    obtain ⟨wz, hwz⟩ : ∃ wz, wz = set5 ((w5.setCell ⟨bx, 3, none⟩ (.slice a9 (1 + xf.length) c9)).setCell ⟨bx, 4, none⟩ (.int .i64 1)) (w.heap.size + 1) (.int .i64 1) (.int .i64 ((xe : Nat) : Int)) (.string xl) (.slice a9 (1 + xf.length) c9) (.int .i64 ((1 : Nat) : Int)) := ⟨_, rfl⟩
    rw [← hwz]
    obtain ⟨hT, hB⟩ := (HFIN.out.1).put HFIN.out.2 hwz
    obtain ⟨⟨r0, r1, r2, r3, r4⟩, _⟩ := blk5 hB
    clear hwz hB
    refine bodyPost_ret (v := .agg (resCells 1 (xe) xl (.slice a9 (1 + xf.length) c9) (1)).toArray) (by simp [results, resCells, Tryd.results87, go_sem, r0, r1, r2, r3, r4]) rfl ?_
    rw [HV.out, hk]
    exact hT
  · have hkb : (xk == (1 : Int)) = false := beq_eq_false_iff_ne.2 hk
    have HV : Hid (ev X.e X.l (f + 1) (.cap nm a) p d s = (⟨xk, xe, xl, xf, xt⟩, xs)) := by show _ = _; rw [ev_cap _ _ _ _ HS.out, HX.out, if_pos hk]
    obtain ⟨⟨z0, z1, z2, z3, z4⟩, y0, y1, y2, y3, y4⟩ := HKx.out.1.at_
    go_wp2
    clear z0 z1 z2 z3 z4 y0 y1 y2 y3 y4
    (try simp only [Exit.inBlock, Exit.then])
    show bodyPost _ _ _ _ _ (set5 wk (w.heap.size + 1) (.int .i64 xk) (.int .i64 ((xe : Nat) : Int)) (.string xl) (.slice ax xf.length cx) (.int .i64 ((xt : Nat) : Int)))
    obtain ⟨wz, hwz⟩ : ∃ wz, wz = set5 wk (w.heap.size + 1) (.int .i64 xk) (.int .i64 ((xe : Nat) : Int)) (.string xl) (.slice ax xf.length cx) (.int .i64 ((xt : Nat) : Int)) := ⟨_, rfl⟩
    rw [← hwz]
    obtain ⟨hT, hB⟩ := (HKx.out.1).put HKx.out.2.2.1 hwz
    obtain ⟨⟨r0, r1, r2, r3, r4⟩, _⟩ := blk5 hB
    clear hwz hB
    refine bodyPost_ret (v := .agg (resCells xk (xe) xl (.slice ax xf.length cx) (xt)).toArray) (by simp [results, resCells, Tryd.results87, go_sem, r0, r1, r2, r3, r4]) rfl ?_
    rw [HV.out]
    exact hT
set_option maxRecDepth 100000 in
set_option maxHeartbeats 4000000 in
theorem star.calls (X : Cx) (F : Fix X) (f : Nat) (IH : ∀ g, g ≤ f → StepC X g) (a : T) : EvalC X f (.star a) := by
  intro p d s w hf hl hp hd hd2 hs2 hs hn
  have HF := Lib.hid F; clear F
  have HIH := Lib.hid IH; clear IH
  have HS := Lib.hid hs; clear hs
  have HZ := Lib.hid (ES.start hn 98 [tv a]); clear hn
  have HL : Hid (low X.N (.star a)) := hl
  have HI := Lib.hid (fun t => in_step (p := p) hf hs2 hd hd2 t)
  have HP := Lib.hid hp
  have HF2 : Hid (2 * (X.l.steps - (tick d s).steps) + 2 ≤ f) := by show _ ≤ _; simp only [tick]; omega
  have HD : Hid (d ≤ X.l.depth ∧ d ≤ 1048576 ∧ p ≤ 1048576) := ⟨hd, Nat.le_trans hd HF.out.depth, Nat.le_trans hp HF.out.short⟩
  clear hf hl hp hd hd2 hs2
  show Calls Tryd.prog 85 #[.agg #[tv a], .pointer (some ⟨X.rb, 0, none⟩), .int .i64 (p : Nat), .int .i64 (d : Nat)] w (Told X w (ev X.e X.l (f + 1) (.star a) p d s))
  go_enter Tryd.func85, Tryd.ntmps85
  go_upto_region 1 with (fail)
  generalize hwa : (w.alloc (.cells #[tv a] 98)).alloc (.cells #[.int .i64 0, .int .i64 0, .string ⟨#[]⟩, .slice none 0 0, .int .i64 0] 75) = wa
  have HA : Hid (ES X (tick d s) (tick d s) w wa 98 [tv a]) := by rw [← hwa]; exact HZ.out
  clear hwa HZ
  go_wp2_with (fail)
  refine (matched.calls p _).mono ?_
  rintro e w1 ⟨rfl, hg⟩
  have H1 := Lib.hid (HA.out.more hg)
  clear HA hg
  dsimp only [resCells]
  have HK' : ∀ wk : World, wk = w1.alloc (.cells #[.int .i64 1, .int .i64 (p : Nat), .string ⟨#[]⟩, .slice none 0 0, .int .i64 ((0 : Nat) : Int)] 75) → Hid (ES X (tick d s) (tick d s) w wk 98 [tv a] ∧ Blk wk w1.heap.size 75 (resCells 1 p ⟨#[]⟩ (.slice none 0 0) 0) ∧ w.heap.size + 1 < w1.heap.size) := by
    rintro wk rfl
    exact ⟨H1.out.more (World.grownBy_alloc w1 _ none), Blk.alloc w1 _ _, H1.out.res.lt⟩
  go_wp2
  rw [show (Value.int .i64 0) = .int .i64 ((0 : Nat) : Int) from rfl]
  generalize hwk : w1.alloc (.cells #[.int .i64 1, .int .i64 (p : Nat), .string ⟨#[]⟩, .slice none 0 0, .int .i64 ((0 : Nat) : Int)] 75) = wk
  have HK := HK' wk hwk.symm
  clear HK' hwk H1
  generalize w1.heap.size = b9 at *
  go_loopg [10] f (fun q v10 wr => ∃ (en : Nat) (fo : List Cap) (tr : Nat) (s' : St) (am : Option Addr) (cm : Nat), Hid (lp X.e X.l q a en fo tr d s' = lp X.e X.l f a p [] 0 d (tick d s)) ∧
    Hid ((s'.err = 0 → 2 * (X.l.steps - s'.steps) + 2 ≤ q) ∧ 1 ≤ q ∧ q ≤ f ∧ en ≤ X.inp.size ∧ s'.depth ≤ X.l.depth ∧ s'.steps ≤ X.l.steps ∧ fo.length ≤ s'.steps ∧ tr ≤ fo.length) ∧
    Hid (ES X (tick d s) s' w wr 98 [tv a] ∧ Blk wr b9 75 (resCells 1 en ⟨#[]⟩ (.slice am fo.length cm) tr) ∧ OwnF wr w.heap.size (.slice am fo.length cm) fo ∧ w.heap.size + 1 < b9))
  case atStart =>
    exact ⟨p, [], 0, tick d s, none, 0, rfl, ⟨fun _ => HF2.out, by have := HF2.out; omega, Nat.le_refl _, HP.out, (HI.out a).2.1, (HI.out a).2.2.1, Nat.zero_le _, Nat.le_refl _⟩, HK.out.1, HK.out.2.1, OwnF.nil _ _, HK.out.2.2⟩
  case round =>
    clear HK
    obtain ⟨en, fo, tr, s', am, cm, HLP, HN, HR⟩ := hrel
    obtain ⟨q, hq⟩ : ∃ q, gk = q + 1 := ⟨gk - 1, by have := HN.out.2.1; omega⟩
    subst hq
    have c6 : wr.cell? ⟨X.rb, 6, none⟩ = some (.int .i64 s'.err) := HR.out.1.rn.rec_.cell 6
    by_cases he : s'.err = 0
    · have heb : (s'.err == (0 : Int)) = true := by rw [he]; rfl
      have HIQ := Lib.hid (HIH.out q (by have := HN.out.2.2.1; omega))
      have HFU : Hid (2 * (X.l.steps - s'.steps) + 1 ≤ q) := by have := HN.out.1 he; show _ ≤ _; omega
      have HHE := Lib.hid he; clear he
      have b0 : wr.cell? ⟨w.heap.size, 0, none⟩ = some (tv a) := HR.out.1.box.cell 0
      obtain ⟨⟨m0, m1, m2, m3, m4⟩, _, _, _⟩ := blk5 HR.out.2.1
      have hdw : wrap64 ((d : Int) + 1) = ((d + 1 : Nat) : Int) := by have := HD.out.2.1; rw [IntWalk.wrap64_in _ (by omega)]; rfl
      go_wp2_with (fail)
      refine (HIQ.out (a) (en) (d + 1) (s') _ HFU.out HL.out HN.out.2.2.2.1 (by have := HD.out.1; omega) HN.out.2.2.2.2.1 HN.out.2.2.2.2.2.1 HR.out.1.rn).mono ?_
      rintro e w2 ⟨v1, rfl, hg, hr, ho⟩
      obtain ⟨ax, cx, hv⟩ := Go.X.own_slice ho
      subst hv
      have HOx := Lib.hid (ho.low HR.out.1.gr.size)
      have HEx := Lib.hid (HR.out.1.next hg hr)
      have HC : Hid (Blk w2 b9 75 (resCells 1 en ⟨#[]⟩ (.slice am fo.length cm) tr) ∧ OwnF w2 w.heap.size (.slice am fo.length cm) fo ∧ w.heap.size + 1 < b9) :=
        ⟨HR.out.2.1.grown hg (by have := HR.out.1.rn0.rec_.lt; have := HR.out.2.2.2; intro e; injection e with e; omega), HR.out.2.2.1.kept hg HR.out.1.rn.rec_ (by decide), HR.out.2.2.2⟩
      clear hg hr ho
      generalize hx : ev X.e X.l q a en (d + 1) s' = qx at *
      obtain ⟨⟨xk, xe, xl, xf, xt⟩, xs⟩ := qx
      dsimp only [resCells] at *
      have hok := ev_ok X.e X.l q a en (d + 1) s' HFU.out
      rw [hx] at hok
      have HOK := Lib.hid hok
      have HX := Lib.hid hx
      clear hok hx HR c6 heb b0 m0 m1 m2 m3 m4 HIQ
      have HKx' : ∀ wk : World, wk = w2.alloc (.cells #[.int .i64 xk, .int .i64 (xe : Nat), .string xl, .slice ax xf.length cx, .int .i64 (xt : Nat)] 75) → Hid (ES X (tick d s) xs w wk 98 [tv a] ∧ Blk wk w2.heap.size 75 (resCells xk xe xl (.slice ax xf.length cx) xt) ∧ OwnF wk w.heap.size (.slice ax xf.length cx) xf ∧ w.heap.size + 1 < w2.heap.size) := by
        rintro wk rfl
        have g := World.grownBy_alloc w2 (.cells #[.int .i64 xk, .int .i64 (xe : Nat), .string xl, .slice ax xf.length cx, .int .i64 (xt : Nat)] 75) none
        exact ⟨HEx.out.more g, Blk.alloc w2 _ _, HOx.out.more g, HEx.out.res.lt⟩
      have HC' : ∀ wm : World, wm = w2.alloc (.cells #[.int .i64 xk, .int .i64 (xe : Nat), .string xl, .slice ax xf.length cx, .int .i64 (xt : Nat)] 75) → Hid (Blk wm b9 75 (resCells 1 en ⟨#[]⟩ (.slice am fo.length cm) tr) ∧ OwnF wm w.heap.size (.slice am fo.length cm) fo ∧ w.heap.size + 1 < b9 ∧ b9 < w2.heap.size) := by
        rintro wm rfl
        have g := World.grownBy_alloc w2 (.cells #[.int .i64 xk, .int .i64 (xe : Nat), .string xl, .slice ax xf.length cx, .int .i64 (xt : Nat)] 75) none
        exact ⟨HC.out.1.grown g (by simp), HC.out.2.1.more g, HC.out.2.2, HC.out.1.lt⟩
      go_upto_region 4 with (fail)
      generalize hwk : w2.alloc (.cells #[.int .i64 xk, .int .i64 (xe : Nat), .string xl, .slice ax xf.length cx, .int .i64 (xt : Nat)] 75) = wm
      have HKx := HKx' wm hwk.symm
      have HCm := HC' wm hwk.symm
      clear HC HC'
      clear HKx' hwk HEx HOx
      generalize w2.heap.size = bx at *
      obtain ⟨⟨x0, x1, x2, x3, x4⟩, xf1, xf3, xf4⟩ := blk5 HKx.out.2.1
      obtain ⟨⟨m0, m1, m2, m3, m4⟩, m5, m6, m7⟩ := blk5 HCm.out.1
      by_cases hk0 : xk = 0
      · have hkb : (xk == (0 : Int)) = true := by rw [hk0]; rfl
        have HV : Hid (ev X.e X.l (f + 1) (.star a) p d s = (⟨1, en, ⟨#[]⟩, fo, tr⟩, xs)) := by show _ = _; rw [ev_star _ _ _ HS.out, ← HLP.out, lp_go _ _ _ _ _ _ HHE.out, HX.out, if_pos hk0]
        obtain ⟨⟨z0, z1, z2, z3, z4⟩, y0, y1, y2, y3, y4⟩ := HKx.out.1.at_
        go_wp2
        clear z0 z1 z2 z3 z4 y0 y1 y2 y3 y4
        (try simp only [Exit.inBlock, Exit.then])
        show bodyPost _ _ _ _ _ (set5 wm (w.heap.size + 1) (.int .i64 1) (.int .i64 ((en : Nat) : Int)) (.string ⟨#[]⟩) (.slice am fo.length cm) (.int .i64 ((tr : Nat) : Int)))
        obtain ⟨wz, hwz⟩ : ∃ wz, wz = set5 wm (w.heap.size + 1) (.int .i64 1) (.int .i64 ((en : Nat) : Int)) (.string ⟨#[]⟩) (.slice am fo.length cm) (.int .i64 ((tr : Nat) : Int)) := ⟨_, rfl⟩
        rw [← hwz]
        obtain ⟨hT, hB⟩ := (HKx.out.1).put HCm.out.2.1 hwz
        obtain ⟨⟨r0, r1, r2, r3, r4⟩, _⟩ := blk5 hB
        clear hwz hB
        refine bodyPost_ret (v := .agg (resCells 1 (en) ⟨#[]⟩ (.slice am fo.length cm) (tr)).toArray) (by simp [results, resCells, Tryd.results85, go_sem, r0, r1, r2, r3, r4]) rfl ?_
        rw [HV.out]
        exact hT
      have hkb : (xk == (0 : Int)) = false := beq_eq_false_iff_ne.2 hk0
      by_cases hk2 : xk = 2
      · have hkb2 : (xk == (2 : Int)) = true := by rw [hk2]; rfl
        have HV : Hid (ev X.e X.l (f + 1) (.star a) p d s = (⟨xk, xe, xl, xf, xt⟩, xs)) := by show _ = _; rw [ev_star _ _ _ HS.out, ← HLP.out, lp_go _ _ _ _ _ _ HHE.out, HX.out, if_neg hk0, if_pos hk2]
        obtain ⟨⟨z0, z1, z2, z3, z4⟩, y0, y1, y2, y3, y4⟩ := HKx.out.1.at_
        go_wp2
        clear z0 z1 z2 z3 z4 y0 y1 y2 y3 y4
        (try simp only [Exit.inBlock, Exit.then])
        show bodyPost _ _ _ _ _ (set5 wm (w.heap.size + 1) (.int .i64 2) (.int .i64 ((xe : Nat) : Int)) (.string xl) (.slice ax xf.length cx) (.int .i64 ((xt : Nat) : Int)))
        obtain ⟨wz, hwz⟩ : ∃ wz, wz = set5 wm (w.heap.size + 1) (.int .i64 2) (.int .i64 ((xe : Nat) : Int)) (.string xl) (.slice ax xf.length cx) (.int .i64 ((xt : Nat) : Int)) := ⟨_, rfl⟩
        rw [← hwz]
        obtain ⟨hT, hB⟩ := (HKx.out.1).put HKx.out.2.2.1 hwz
        obtain ⟨⟨r0, r1, r2, r3, r4⟩, _⟩ := blk5 hB
        clear hwz hB
        refine bodyPost_ret (v := .agg (resCells 2 (xe) xl (.slice ax xf.length cx) (xt)).toArray) (by simp [results, resCells, Tryd.results85, go_sem, r0, r1, r2, r3, r4]) rfl ?_
        rw [HV.out, hk2]
        exact hT
      have hkb2 : (xk == (2 : Int)) = false := beq_eq_false_iff_ne.2 hk2
      have HLPN : Hid (lp X.e X.l q a xe (fo ++ xf) (tr + xt) d xs = lp X.e X.l f a p [] 0 d (tick d s)) := by show _ = _; rw [← HLP.out, lp_go _ _ _ _ _ _ HHE.out, HX.out, if_neg hk0, if_neg hk2]
      have HNUM : Hid (fo.length + xf.length ≤ 1048576 ∧ tr + xt ≤ 1048576 ∧ ((xs.err = 0 → 2 * (X.l.steps - xs.steps) + 2 ≤ q) ∧ 1 ≤ q ∧ q ≤ f ∧ xe ≤ X.inp.size ∧ xs.depth ≤ X.l.depth ∧ xs.steps ≤ X.l.steps ∧ (fo ++ xf).length ≤ xs.steps ∧ tr + xt ≤ (fo ++ xf).length)) := by
        obtain ⟨a1, a2, a3, a4, a5, a6, a7, a8⟩ := HN.out
        have h1 := HOK.out.few
        have h2 := HOK.out.tr
        have h3 := HOK.out.max a6
        have h4 := HOK.out.deep a5
        have h5 := HOK.out.en
        have h6 := HF.out.len
        have h7 := HF.out.steps
        have h8 := HOK.out.more
        have h9 := a1 HHE.out
        simp only [List.length_append] at *
        refine ⟨by omega, by omega, fun h => ?_, by omega, by omega, by omega, h4, h3, by omega, by omega⟩
        have := h8 h
        omega
      clear HLP HOK HX HN
      have HW : Hid (ES X (tick d s) xs w (wm.setCell ⟨b9, 1, none⟩ (.int .i64 (xe : Nat))) 98 [tv a] ∧ Blk (wm.setCell ⟨b9, 1, none⟩ (.int .i64 (xe : Nat))) b9 75 (resCells 1 xe ⟨#[]⟩ (.slice am fo.length cm) tr) ∧
          OwnF (wm.setCell ⟨b9, 1, none⟩ (.int .i64 (xe : Nat))) w.heap.size (.slice am fo.length cm) fo ∧ Blk (wm.setCell ⟨b9, 1, none⟩ (.int .i64 (xe : Nat))) bx 75 (resCells xk xe xl (.slice ax xf.length cx) xt) ∧ OwnF (wm.setCell ⟨b9, 1, none⟩ (.int .i64 (xe : Nat))) w.heap.size (.slice ax xf.length cx) xf ∧ w.heap.size + 1 < b9 ∧ b9 < bx) := by
        have g := grown_setCell wm ⟨b9, 1, none⟩ (.int .i64 (xe : Nat))
        obtain ⟨c1, c2, c3, c4⟩ := HCm.out
        exact ⟨HKx.out.1.own g c3, c1.setCell 1 _, c2.kept g c1 (by decide), HKx.out.2.1.grown g (by intro e; injection e with e; simp only at e; omega), HKx.out.2.2.1.kept g c1 (by decide), c3, c4⟩
      have n1 : ¬ b9 = bx := by have := HCm.out.2.2.2; omega
      have n2 : ¬ bx = b9 := by have := HCm.out.2.2.2; omega
      clear HKx HCm
      go_wp2_with (first
        | (at_builtin; refine appendRow rfl (.tmp 38) (.tmp 40) 29 49 rfl w.heap.size _ _ 4 40 Tryd.underlying29 info49' rfl _ fo.length _ rfl HW.out.2.2.1 _ xf.length _ rfl HW.out.2.2.2.2.1 (capsOf_one _) ?_ ?_ ?_ ?_)
        | fail)
      · have := HNUM.out.1; simp only [maxLen]; omega
      · have := HNUM.out.1; omega
      · exact HW.out.1.gr.size
      intro v' w5 hown hap
      obtain ⟨a9, c9, hv9⟩ := Go.X.own_slice hown
      subst hv9
      have HG : Hid (ES X (tick d s) xs w w5 98 [tv a] ∧ OwnF w5 w.heap.size (.slice a9 (fo.length + xf.length) c9) (fo ++ xf) ∧ Blk w5 b9 75 (resCells 1 xe ⟨#[]⟩ (.slice am fo.length cm) tr) ∧ Blk w5 bx 75 (resCells xk xe xl (.slice ax xf.length cx) xt) ∧ w.heap.size + 1 < b9) :=
        ⟨HW.out.1.row HW.out.2.2.1 hap.grown (by decide), OwnF.appended hown, hap.keeps_lt HW.out.2.1 (fun e => own_other HW.out.2.2.1 HW.out.2.1 (by decide) e.symm), hap.keeps_lt HW.out.2.2.2.1 (fun e => own_other HW.out.2.2.1 HW.out.2.2.2.1 (by decide) e.symm), HW.out.2.2.2.2.2.1⟩
      clear hown hap HW x0 x1 x2 x3 x4 xf1 xf3 xf4 m0 m1 m2 m3 m4 m5 m6 m7
      obtain ⟨⟨x0, x1, x2, x3, x4⟩, _, _, _⟩ := blk5 HG.out.2.2.2.1
      obtain ⟨⟨m0, m1, m2, m3, m4⟩, m5, m6, m7⟩ := blk5 HG.out.2.2.1
      have hwt : wrap64 ((tr : Int) + (xt : Int)) = ((tr + xt : Nat) : Int) := by have := HNUM.out.2.1; rw [IntWalk.wrap64_in _ (by omega)]; rfl
      go_wp2
      clear x0 x1 x2 x3 x4 m0 m1 m2 m3 m4 m5 m6 m7 hwt n1 n2
      rw [show (tr : Int) + (xt : Int) = ((tr + xt : Nat) : Int) from rfl]
      have HFIN : Hid (ES X (tick d s) xs w ((w5.setCell ⟨b9, 3, none⟩ (.slice a9 (fo.length + xf.length) c9)).setCell ⟨b9, 4, none⟩ (.int .i64 ((tr + xt : Nat) : Int))) 98 [tv a] ∧
          Blk ((w5.setCell ⟨b9, 3, none⟩ (.slice a9 (fo.length + xf.length) c9)).setCell ⟨b9, 4, none⟩ (.int .i64 ((tr + xt : Nat) : Int))) b9 75 (resCells 1 xe ⟨#[]⟩ (.slice a9 (fo ++ xf).length c9) (tr + xt)) ∧
          OwnF ((w5.setCell ⟨b9, 3, none⟩ (.slice a9 (fo.length + xf.length) c9)).setCell ⟨b9, 4, none⟩ (.int .i64 ((tr + xt : Nat) : Int))) w.heap.size (.slice a9 (fo ++ xf).length c9) (fo ++ xf) ∧ w.heap.size + 1 < b9) := by
        have g := Fr4.grown2 (grown_setCell w5 ⟨b9, 3, none⟩ (.slice a9 (fo.length + xf.length) c9)) (grown_setCell _ ⟨b9, 4, none⟩ (.int .i64 ((tr + xt : Nat) : Int)))
        refine ⟨HG.out.1.own g HG.out.2.2.2.2, ?_, ?_, HG.out.2.2.2.2⟩
        · rw [List.length_append]
          exact (HG.out.2.2.1.setCell 3 _).setCell 4 _
        · rw [List.length_append]
          exact HG.out.2.1.kept g HG.out.2.2.1 (by decide)
      go_roundg q
      case measure => exact Nat.lt_succ_self _
      case rel => exact ⟨xe, fo ++ xf, tr + xt, xs, a9, c9, HLPN.out, HNUM.out.2.2, HFIN.out⟩
    · have heb : (s'.err == (0 : Int)) = false := beq_eq_false_iff_ne.2 he
      have HV : Hid (ev X.e X.l (f + 1) (.star a) p d s = (.zero, s')) := by show _ = _; rw [ev_star _ _ _ HS.out, ← HLP.out, lp_err _ _ _ _ _ _ he]
      obtain ⟨⟨z0, z1, z2, z3, z4⟩, y0, y1, y2, y3, y4⟩ := HR.out.1.at_
      go_wp2
      clear z0 z1 z2 z3 z4 y0 y1 y2 y3 y4
      (try simp only [Exit.inBlock, Exit.then])
      show bodyPost _ _ _ _ _ (set5 wr (w.heap.size + 1) (.int .i64 0) (.int .i64 ((0 : Nat) : Int)) (.string ⟨#[]⟩) (.slice none 0 0) (.int .i64 ((0 : Nat) : Int)))
      obtain ⟨wz, hwz⟩ : ∃ wz, wz = set5 wr (w.heap.size + 1) (.int .i64 0) (.int .i64 ((0 : Nat) : Int)) (.string ⟨#[]⟩) (.slice none 0 0) (.int .i64 ((0 : Nat) : Int)) := ⟨_, rfl⟩
      rw [← hwz]
      obtain ⟨hT, hB⟩ := (HR.out.1).put (OwnF.nil _ _) hwz
      obtain ⟨⟨r0, r1, r2, r3, r4⟩, _⟩ := blk5 hB
      clear hwz hB
      refine bodyPost_ret (v := .agg (resCells 0 (0) ⟨#[]⟩ (.slice none 0 0) (0)).toArray) (by simp [results, resCells, Tryd.results85, go_sem, r0, r1, r2, r3, r4]) rfl ?_
      rw [HV.out]
      exact hT
set_option maxRecDepth 100000 in
set_option maxHeartbeats 4000000 in
theorem rule.calls (X : Cx) (F : Fix X) (f : Nat) (IH : StepC X f) (n : Nat) : EvalC X f (.rule n) := by
  intro p d s w hf hl hp hd hd2 hs2 hs hn
  have HF := Lib.hid F; clear F
  have HIH := Lib.hid IH; clear IH
  have HS := Lib.hid hs; clear hs
  have HZ := Lib.hid (ES.start hn 91 [.int .i64 (n : Int)]); clear hn
  have HL : Hid (low X.N (.rule n)) := hl
  have HI := Lib.hid (fun t => in_step (p := p) hf hs2 hd hd2 t)
  have HP := Lib.hid hp
  have HF2 : Hid (2 * (X.l.steps - (tick d s).steps) + 2 ≤ f) := by show _ ≤ _; simp only [tick]; omega
  have HD : Hid (d ≤ X.l.depth ∧ d ≤ 1048576 ∧ p ≤ 1048576) := ⟨hd, Nat.le_trans hd HF.out.depth, Nat.le_trans hp HF.out.short⟩
  clear hf hl hp hd hd2 hs2
  show Calls Tryd.prog 81 #[.agg #[.int .i64 (n : Int)], .pointer (some ⟨X.rb, 0, none⟩), .int .i64 (p : Nat), .int .i64 (d : Nat)] w (Told X w (ev X.e X.l (f + 1) (.rule n) p d s))
  go_enter Tryd.func81, Tryd.ntmps81
  go_upto_region 1 with (fail)
  generalize hwa : (w.alloc (.cells #[.int .i64 (n : Int)] 91)).alloc (.cells #[.int .i64 0, .int .i64 0, .string ⟨#[]⟩, .slice none 0 0, .int .i64 0] 75) = wa
  have HA : Hid (ES X (tick d s) (tick d s) w wa 91 [.int .i64 (n : Int)]) := by rw [← hwa]; exact HZ.out
  clear hwa HZ
  have b0 : wa.cell? ⟨w.heap.size, 0, none⟩ = some (.int .i64 (n : Int)) := HA.out.box.cell 0
  have hln : n < X.N := HL.out
  have c1 : wa.cell? ⟨X.rb, 1, none⟩ = some (.slice (some X.A) X.N X.cR) := HA.out.rn.rec_.cell 1
  have cn : wa.cell? (X.A.add n) = some (tv (X.e.rules n)) := HA.out.rn.rules n hln
  have HLR : Hid (low X.N (X.e.rules n)) := HF.out.low n hln
  have hn0 : (0 : Int) ≤ (n : Int) := Int.natCast_nonneg _
  have hn1 : (n : Int) < (X.N : Int) := Int.ofNat_lt.2 hln
  have HNE : Hid (w.heap.size ≠ w.heap.size + 1 ∧ X.rb ≠ w.heap.size + 1 ∧ (X.A.add n).block ≠ w.heap.size + 1) := by
    have h1 := HA.out.rn0.rec_.lt
    have h2 := World.block_lt_of_cell? w _ (HA.out.rn0.rules n hln)
    exact ⟨by omega, by omega, by omega⟩
  have HV := Lib.hid (ev_rule X.e X.l (f := f) (p := p) n HS.out)
  have HBD : Hid (ES X (tick d s) (tick d s) w wa.drew 91 [.int .i64 (n : Int)]) := HA.out.more (Go.X.grown_of_below (Below.drewQ ⟨1, rfl⟩) none)
  obtain ⟨rx, hrx⟩ : ∃ rx, X.e.rules n = rx := ⟨_, rfl⟩
  have hdw2 : IntKind.i64.wrap ((d : Int) + 1) = ((d + 1 : Nat) : Int) := by have := HD.out.2.1; rw [IntWalk.i64_in _ (by omega)]; rfl
  have HRU : Hid (∀ w' s', Rn X s' w' → w'.cell? (X.A.add n) = some (tv rx)) := fun w' s' h => by rw [← hrx]; exact h.rules n hln
  rw [hrx] at cn HLR HV
  have HI' := Lib.hid (HI.out rx)
  clear hrx
  have hdw : wrap64 ((d : Int) + 1) = ((d + 1 : Nat) : Int) := by have := HD.out.2.1; rw [IntWalk.wrap64_in _ (by omega)]; rfl
  clear hdw
  go_region_held3 (fun w' => w'.cell? ⟨w.heap.size, 0, none⟩ = some (.int .i64 (n : Int)) ∧ w'.cell? ⟨X.rb, 1, none⟩ = some (.slice (some X.A) X.N X.cR) ∧ w'.cell? (X.A.add n) = some (tv rx))
    (first
      | with_reducible exact ⟨k0, k1, k2⟩
      | with_reducible exact ⟨far5 HNE.out.1 k0, far5 HNE.out.2.1 k1, far5 HNE.out.2.2 k2⟩
      | go_keep)
    (first
      | (go_at_call 29; refine (HIH.out rx p (d + 1) (tick d s) _ HI'.out.1 HLR.out HP.out (by have := HD.out.1; omega) HI'.out.2.1 HI'.out.2.2.1 HBD.out.rn).mono ?_; rintro e w1 ⟨v1, rfl, hg, hr, ho⟩
         generalize hx : ev X.e X.l f rx p (d + 1) (tick d s) = qx at hr ho ⊢
         obtain ⟨⟨xk, xe, xl, xf, xt⟩, xs⟩ := qx
         have HXX := Lib.hid hx
         clear hx
         dsimp only at hr ho
         obtain ⟨ax, cx, hv⟩ := Go.X.own_slice ho
         subst hv
         have HOx := Lib.hid (ho.low HBD.out.gr.size)
         have HEx := Lib.hid (HBD.out.next hg hr)
         clear hg hr ho
         dsimp only [resCells]
         have k0 : w1.cell? ⟨w.heap.size, 0, none⟩ = some (.int .i64 (n : Int)) := HEx.out.box.cell 0
         have k1 : w1.cell? ⟨X.rb, 1, none⟩ = some (.slice (some X.A) X.N X.cR) := HEx.out.rn.rec_.cell 1
         have k2 : w1.cell? (X.A.add n) = some (tv rx) := HRU.out w1 xs HEx.out.rn
         obtain ⟨⟨z0, z1, z2, z3, z4⟩, y0, y1, y2, y3, y4⟩ := HEx.out.at_))
  rename_i hHeld
  clear hHeld k0 k1 k2 z0 z1 z2 z3 z4 y0 y1 y2 y3 y4 hdw2
  have HVV : Hid (ev X.e X.l (f + 1) (.rule n) p d s = (⟨xk, xe, xl, xf, xt⟩, xs)) := HV.out.trans HXX.out
  go_wp2
  (try simp only [Exit.inBlock, Exit.then])
  show bodyPost _ _ _ _ _ (set5 w1 (w.heap.size + 1) (.int .i64 xk) (.int .i64 ((xe : Nat) : Int)) (.string xl) (.slice ax xf.length cx) (.int .i64 ((xt : Nat) : Int)))
  obtain ⟨wz, hwz⟩ : ∃ wz, wz = set5 w1 (w.heap.size + 1) (.int .i64 xk) (.int .i64 ((xe : Nat) : Int)) (.string xl) (.slice ax xf.length cx) (.int .i64 ((xt : Nat) : Int)) := ⟨_, rfl⟩
  rw [← hwz]
  obtain ⟨hT, hB⟩ := (HEx.out).put HOx.out hwz
  obtain ⟨⟨r0, r1, r2, r3, r4⟩, _⟩ := blk5 hB
  clear hwz hB
  refine bodyPost_ret (v := .agg (resCells xk (xe) xl (.slice ax xf.length cx) (xt)).toArray) (by simp [results, resCells, Tryd.results81, go_sem, r0, r1, r2, r3, r4]) rfl ?_
  rw [HVV.out]
  exact hT
set_option maxRecDepth 100000 in
set_option maxHeartbeats 4000000 in
theorem set.calls (X : Cx) (F : Fix X) (f : Nat) (IH : StepC X f) (c : Cls) : EvalC X f (.set c) := by
  intro p d s w hf hl hp hd hd2 hs2 hs hn
  have HF := Lib.hid F; clear F
  have HIH := Lib.hid IH; clear IH
  have HS := Lib.hid hs; clear hs
  have HZ := Lib.hid (ES.start hn 89 [.int .u64 c.c0, .int .u64 c.c1, .int .u64 c.c2, .int .u64 c.c3]); clear hn
  have HL : Hid (low X.N (.set c)) := hl
  have HI := Lib.hid (fun t => in_step (p := p) hf hs2 hd hd2 t)
  have HP := Lib.hid hp
  have HF2 : Hid (2 * (X.l.steps - (tick d s).steps) + 2 ≤ f) := by show _ ≤ _; simp only [tick]; omega
  have HD : Hid (d ≤ X.l.depth ∧ d ≤ 1048576 ∧ p ≤ 1048576) := ⟨hd, Nat.le_trans hd HF.out.depth, Nat.le_trans hp HF.out.short⟩
  clear hf hl hp hd hd2 hs2
  show Calls Tryd.prog 79 #[.agg #[.int .u64 c.c0, .int .u64 c.c1, .int .u64 c.c2, .int .u64 c.c3], .pointer (some ⟨X.rb, 0, none⟩), .int .i64 (p : Nat), .int .i64 (d : Nat)] w (Told X w (ev X.e X.l (f + 1) (.set c) p d s))
  go_enter Tryd.func79, Tryd.ntmps79
  go_upto_region 1 with (fail)
  generalize hwa : (w.alloc (.cells #[.int .u64 c.c0, .int .u64 c.c1, .int .u64 c.c2, .int .u64 c.c3] 89)).alloc (.cells #[.int .i64 0, .int .i64 0, .string ⟨#[]⟩, .slice none 0 0, .int .i64 0] 75) = wa
  have HA : Hid (ES X (tick d s) (tick d s) w wa 89 [.int .u64 c.c0, .int .u64 c.c1, .int .u64 c.c2, .int .u64 c.c3]) := by rw [← hwa]; exact HZ.out
  clear hwa HZ
  have b0 : wa.cell? ⟨w.heap.size, 0, none⟩ = some (.int .u64 c.c0) := HA.out.box.cell 0
  have b1 : wa.cell? ⟨w.heap.size, 1, none⟩ = some (.int .u64 c.c1) := HA.out.box.cell 1
  have b2 : wa.cell? ⟨w.heap.size, 2, none⟩ = some (.int .u64 c.c2) := HA.out.box.cell 2
  have b3 : wa.cell? ⟨w.heap.size, 3, none⟩ = some (.int .u64 c.c3) := HA.out.box.cell 3
  have c0 : wa.cell? ⟨X.rb, 0, none⟩ = some (.string X.inp) := HA.out.rn.rec_.cell 0
  have hp0 : (0 : Int) ≤ (p : Int) := Int.natCast_nonneg _
  have hp1 : (p : Int) ≤ (X.inp.size : Int) := Int.ofNat_le.2 HP.out
  by_cases hlt : p < X.inp.size
  · have hlt' : (p : Int) < (X.inp.size : Int) := Int.ofNat_lt.2 hlt
    have hg1 : decide ((p : Int) < (X.inp.size : Int)) = true := decide_eq_true hlt'
    have HBD : Hid (ES X (tick d s) (tick d s) w wa.drew 89 [.int .u64 c.c0, .int .u64 c.c1, .int .u64 c.c2, .int .u64 c.c3]) := HA.out.more (Go.X.grown_of_below (Below.drewQ ⟨1, rfl⟩) none)
    go_region_held3 (fun w' => w'.cell? ⟨w.heap.size, 0, none⟩ = some (.int .u64 c.c0) ∧ w'.cell? ⟨w.heap.size, 1, none⟩ = some (.int .u64 c.c1) ∧ w'.cell? ⟨w.heap.size, 2, none⟩ = some (.int .u64 c.c2) ∧ w'.cell? ⟨w.heap.size, 3, none⟩ = some (.int .u64 c.c3) ∧ w'.cell? ⟨X.rb, 0, none⟩ = some (.string X.inp))
      (first
        | exact ⟨k0, k1, k2, k3, k4⟩
        | go_keep)
      (first
        | (go_at_call 80; refine (has.calls c _ (Int.natCast_nonneg _) (by have := UInt8.toNat_lt (X.inp[p]'hlt); omega) _).mono ?_; rintro e w1 ⟨rfl, hg⟩
           have HEx : Hid (ES X (tick d s) (tick d s) w w1 89 [.int .u64 c.c0, .int .u64 c.c1, .int .u64 c.c2, .int .u64 c.c3]) := HBD.out.more hg
           clear hg
           have k0 : w1.cell? ⟨w.heap.size, 0, none⟩ = some (.int .u64 c.c0) := HEx.out.box.cell 0
           have k1 : w1.cell? ⟨w.heap.size, 1, none⟩ = some (.int .u64 c.c1) := HEx.out.box.cell 1
           have k2 : w1.cell? ⟨w.heap.size, 2, none⟩ = some (.int .u64 c.c2) := HEx.out.box.cell 2
           have k3 : w1.cell? ⟨w.heap.size, 3, none⟩ = some (.int .u64 c.c3) := HEx.out.box.cell 3
           have k4 : w1.cell? ⟨X.rb, 0, none⟩ = some (.string X.inp) := HEx.out.rn.rec_.cell 0))
    rename_i hHeld
    clear hHeld k0 k1 k2 k3 k4 b0 b1 b2 b3 c0 HA HBD
    have HV : Hid (ev X.e X.l (f + 1) (.set c) p d s = (if clsHas c ((X.inp[p]'hlt).toNat : Int) = true then .mat (p + 1) else .zero, tick d s)) := by
      show _ = _
      rw [ev_set _ _ _ HS.out]
      have h1 := HF.out.has c p hlt
      have h2 : p < X.e.len := by rw [HF.out.len]; exact hlt
      by_cases h3 : clsHas c ((X.inp[p]'hlt).toNat : Int) = true
      · rw [if_pos ⟨h2, by rw [h1]; exact h3⟩, if_pos h3]
      · rw [if_neg (fun h => h3 (by rw [← h1]; exact h.2)), if_neg h3]
    generalize clsHas c ((X.inp[p]'hlt).toNat : Int) = ch at *
    cases ch
    · skip
      obtain ⟨⟨z0, z1, z2, z3, z4⟩, y0, y1, y2, y3, y4⟩ := HEx.out.at_
      go_wp2
      clear z0 z1 z2 z3 z4 y0 y1 y2 y3 y4
      (try simp only [Exit.inBlock, Exit.then])
      show bodyPost _ _ _ _ _ (set5 w1 (w.heap.size + 1) (.int .i64 0) (.int .i64 ((0 : Nat) : Int)) (.string ⟨#[]⟩) (.slice none 0 0) (.int .i64 ((0 : Nat) : Int)))
      obtain ⟨wz, hwz⟩ : ∃ wz, wz = set5 w1 (w.heap.size + 1) (.int .i64 0) (.int .i64 ((0 : Nat) : Int)) (.string ⟨#[]⟩) (.slice none 0 0) (.int .i64 ((0 : Nat) : Int)) := ⟨_, rfl⟩
      rw [← hwz]
      obtain ⟨hT, hB⟩ := (HEx.out).put (OwnF.nil _ _) hwz
      obtain ⟨⟨r0, r1, r2, r3, r4⟩, _⟩ := blk5 hB
      clear hwz hB
      refine bodyPost_ret (v := .agg (resCells 0 (0) ⟨#[]⟩ (.slice none 0 0) (0)).toArray) (by simp [results, resCells, Tryd.results79, go_sem, r0, r1, r2, r3, r4]) rfl ?_
      rw [HV.out, if_neg (by decide)]
      exact hT
    · have hpw : wrap64 ((p : Int) + 1) = ((p + 1 : Nat) : Int) := by have := HD.out.2.2; rw [IntWalk.wrap64_in _ (by omega)]; rfl
      go_wp2_with (fail)
      refine (matched.calls (p + 1) _).mono ?_
      rintro e w2 ⟨rfl, hg⟩
      have H2 := Lib.hid (HEx.out.more hg)
      clear HEx hg hpw
      dsimp only [resCells]
      obtain ⟨⟨z0, z1, z2, z3, z4⟩, y0, y1, y2, y3, y4⟩ := H2.out.at_
      go_wp2
      clear z0 z1 z2 z3 z4 y0 y1 y2 y3 y4
      (try simp only [Exit.inBlock, Exit.then])
      show bodyPost _ _ _ _ _ (set5 w2 (w.heap.size + 1) (.int .i64 1) (.int .i64 ((p + 1 : Nat) : Int)) (.string ⟨#[]⟩) (.slice none 0 0) (.int .i64 ((0 : Nat) : Int)))
      obtain ⟨wz, hwz⟩ : ∃ wz, wz = set5 w2 (w.heap.size + 1) (.int .i64 1) (.int .i64 ((p + 1 : Nat) : Int)) (.string ⟨#[]⟩) (.slice none 0 0) (.int .i64 ((0 : Nat) : Int)) := ⟨_, rfl⟩
      rw [← hwz]
      obtain ⟨hT, hB⟩ := (H2.out).put (OwnF.nil _ _) hwz
      obtain ⟨⟨r0, r1, r2, r3, r4⟩, _⟩ := blk5 hB
      clear hwz hB
      refine bodyPost_ret (v := .agg (resCells 1 (p + 1) ⟨#[]⟩ (.slice none 0 0) (0)).toArray) (by simp [results, resCells, Tryd.results79, go_sem, r0, r1, r2, r3, r4]) rfl ?_
      rw [HV.out, if_pos trivial]
      exact hT
  · have hlt' : ¬ (p : Int) < (X.inp.size : Int) := fun h => hlt (Int.ofNat_lt.1 h)
    have hg1 : decide ((p : Int) < (X.inp.size : Int)) = false := decide_eq_false hlt'
    have HV : Hid (ev X.e X.l (f + 1) (.set c) p d s = (.zero, tick d s)) := by show _ = _; rw [ev_set _ _ _ HS.out, if_neg (fun h => hlt (by have := HF.out.len; omega))]
    go_quiet (fail)
    have HQ : Hid (ES X (tick d s) (tick d s) w (wa.drewN nq) 89 [.int .u64 c.c0, .int .u64 c.c1, .int .u64 c.c2, .int .u64 c.c3]) := HA.out.more (Go.X.grown_of_below (Below.drewQ ⟨_, rfl⟩) none)
    generalize wa.drewN nq = wq at *
    clear HA b0 b1 b2 b3 c0
    obtain ⟨⟨z0, z1, z2, z3, z4⟩, y0, y1, y2, y3, y4⟩ := HQ.out.at_
    go_wp2
    clear z0 z1 z2 z3 z4 y0 y1 y2 y3 y4
    (try simp only [Exit.inBlock, Exit.then])
    show bodyPost _ _ _ _ _ (set5 wq (w.heap.size + 1) (.int .i64 0) (.int .i64 ((0 : Nat) : Int)) (.string ⟨#[]⟩) (.slice none 0 0) (.int .i64 ((0 : Nat) : Int)))
    obtain ⟨wz, hwz⟩ : ∃ wz, wz = set5 wq (w.heap.size + 1) (.int .i64 0) (.int .i64 ((0 : Nat) : Int)) (.string ⟨#[]⟩) (.slice none 0 0) (.int .i64 ((0 : Nat) : Int)) := ⟨_, rfl⟩
    rw [← hwz]
    obtain ⟨hT, hB⟩ := (HQ.out).put (OwnF.nil _ _) hwz
    obtain ⟨⟨r0, r1, r2, r3, r4⟩, _⟩ := blk5 hB
    clear hwz hB
    refine bodyPost_ret (v := .agg (resCells 0 (0) ⟨#[]⟩ (.slice none 0 0) (0)).toArray) (by simp [results, resCells, Tryd.results79, go_sem, r0, r1, r2, r3, r4]) rfl ?_
    rw [HV.out]
    exact hT
/-- step comes to ev. -/
theorem step.calls (X : Cx) (F : Fix X) : ∀ f, ∀ g, g ≤ f → StepC X g
  | 0, g, hg => fun t p d s w h _ _ _ _ _ _ => by omega
  | f + 1, g, hg => by
    by_cases h : g ≤ f
    · exact step.calls X F f g h
    · obtain rfl : g = f + 1 := by omega
      have IH := step.calls X F f
      intro t p d s w h1 h2 h3 h4 h5 h6 h7
      refine step1 X F f t ?_ p d s w h1 h2 h3 h4 h5 h6 h7
      match t with
      | .emp => exact emp.calls X F f (IH f (Nat.le_refl f))
      | .set c => exact set.calls X F f (IH f (Nat.le_refl f)) c
      | .rule n => exact rule.calls X F f (IH f (Nat.le_refl f)) n
      | .thr x => exact thr.calls X F f (IH f (Nat.le_refl f)) x
      | .seq a b => exact seq.calls X F f (IH f (Nat.le_refl f)) a b
      | .alt a b => exact alt.calls X F f (IH f (Nat.le_refl f)) a b
      | .star a => exact star.calls X F f IH a
      | .not a => exact not.calls X F f (IH f (Nat.le_refl f)) a
      | .cap nm a => exact cap.calls X F f (IH f (Nat.le_refl f)) nm a
end Go.Proofs.YtmpkkphohilkoaaDoor.B
