/- Texts joined and shortened (wip/tools/shrink.py): MNode. -/
import Derived.Test.YtmpkkphohilkoaaQt4
import Derived.Test.YtmpkkphohilkoaaQt5
import Derived.Test.YtmpkkphohilkoaaQt0
/- dowelref14.node, walked: each kind of node over the contract of its parts (printed by wip/tools/gennode.py). -/
namespace Go.Proofs.Ytmpkkphohilkoaa.B
open Go Go.RowKit Go.X Go.Ma Go.Proofs.YtmpkkphohilkoaaW.PrintWords Go.Proofs.YtmpkkphohilkoaaW.PrintLast Go.Proofs.YtmpkkphohilkoaaW.PrintMore Go.Proofs.Ytmpkkphohilkoaa.F
theorem max2_nat (k : IntKind) (x y : Nat) : Builtin.max2 (.int k (x : Int)) (.int k (y : Int)) = pure (.int k ((max x y : Nat) : Int)) := by
  rw [max2_int]
  congr 2
  omega
attribute [local go_sem] max2_nat max_two

/-- What the document's evaluation is of. -/
structure Cy where
  inp : ByteArray
  A : Option Addr
  cR : Nat
  st : Int
  PA : Addr
  cP : Nat
  rb : Nat
  l : Lim
  rs : List S45
  W0 : World
def Cy.e (Y : Cy) : Env := envOf Y.rs Y.inp
def Cy.b (Y : Cy) (r : Nat) : List CN := bod Y.rs r
def Cy.n (Y : Cy) (r : Nat) : Nat := (cr Y.rs r).f1.length
def evCells (Y : Cy) (s : St) : List Value := [.slice Y.A Y.rs.length Y.cR, .int .i64 Y.st, .slice (some Y.PA) Y.rs.length Y.cP, .string Y.inp, .int .i64 (Y.l.depth : Nat), .int .i64 (Y.l.steps : Nat), .int .i64 (s.depth : Nat), .int .i64 (s.steps : Nat), .int .i64 s.err]
/-- Its record and the parts' rows in memory. -/
structure Rm (Y : Cy) (s : St) (w : World) : Prop where
  rec_ : Blk w Y.rb 81 (evCells Y s)
  bel : Below Y.W0.heap.size Y.W0 w
  lo : Y.W0.heap.size ≤ Y.rb
  ne : Y.PA.block ≠ Y.rb
  parts : ∀ n, n < Y.rs.length → ∃ q, q ≠ Y.rb ∧ w.cell? (Y.PA.add n) = some (.slice (some ⟨q, 0, none⟩) (Y.n n) (Y.n n)) ∧ ∀ j, j < Y.n n → w.cell? ⟨q, j * 2, none⟩ = some (.int .i64 (pa (Y.b n) j)) ∧ w.cell? ⟨q, j * 2 + 1, none⟩ = some (.int .i64 (pb (Y.b n) j))
/-- What is fixed of it. -/
structure Fy (Y : Cy) : Prop where
  C : Kd.C k45 Y.W0 Y.A Y.rs.length Y.rs
  good : Good Y.rs
  steps : Y.l.steps ≤ 1048576
  depth : Y.l.depth ≤ 1048576
  short : Y.inp.size ≤ 1048576
def rsC (k : Int) (en : Nat) (lb : ByteArray) (v : Value) : List Value := [.int .i64 k, .int .i64 (en : Nat), .string lb, v]
/-- An outcome told. -/
def ToldM (Y : Cy) (w : World) (x : Res × St) (e : Ending) (w' : World) : Prop :=
  ∃ v, e = .returned (.agg (rsC x.1.kind x.1.en x.1.label v).toArray) ∧ w.grownBy w' (some Y.rb) ∧ Rm Y x.2 w' ∧ OwnF w' w.heap.size v x.1.forest
/-- node comes to ev, with this fuel. -/
def NodeC (Y : Cy) (f : Nat) : Prop := ∀ (r i p d : Nat) (s : St) (w : World), r < Y.rs.length → i < Y.n r → low Y.rs.length (tr (Y.b r) i) → 2 * (Y.l.steps - s.steps) + 1 ≤ f → p ≤ Y.inp.size → d ≤ Y.l.depth + 1 → s.depth ≤ Y.l.depth → s.steps ≤ Y.l.steps → Rm Y s w →
  Calls Try.prog 21 #[.pointer (some ⟨Y.rb, 0, none⟩), .int .i64 (r : Nat), .int .i64 (i : Nat), .int .i64 (p : Nat), .int .i64 (d : Nat)] w (ToldM Y w (ev Y.e Y.l f (tr (Y.b r) i) p d s))
/-- star comes to lp. -/
def StarC (Y : Cy) (f : Nat) : Prop := ∀ (r m p d : Nat) (s : St) (w : World), r < Y.rs.length → m < Y.n r → low Y.rs.length (tr (Y.b r) m) → 2 * (Y.l.steps - s.steps) + 2 ≤ f → p ≤ Y.inp.size → d ≤ Y.l.depth → s.depth ≤ Y.l.depth → s.steps ≤ Y.l.steps → Rm Y s w →
  Calls Try.prog 35 #[.pointer (some ⟨Y.rb, 0, none⟩), .int .i64 (r : Nat), .int .i64 (m : Nat), .int .i64 (p : Nat), .int .i64 (d : Nat)] w (ToldM Y w (lp Y.e Y.l f (tr (Y.b r) m) p [] 0 d s))
theorem Rm.other {Y : Cy} {s s' : St} {w w' : World} (h : Rm Y s w) (hg : w.grownBy w' (some Y.rb)) (hb : Blk w' Y.rb 81 (evCells Y s')) : Rm Y s' w' := by
  have K : ∀ {a : Addr} {v : Value}, a.block ≠ Y.rb → w.cell? a = some v → w'.cell? a = some v := fun hne hv => (cell_heap (hg.block _ (World.block_lt_of_cell? w _ hv) (by intro e; injection e with e; exact hne e))).trans hv
  refine ⟨hb, h.bel.grown hg h.bel.size (fun k hk => by injection hk with hk; rw [← hk]; exact h.lo), h.lo, h.ne, fun n hn => ?_⟩
  obtain ⟨q, h1, h2, h3⟩ := h.parts n hn
  exact ⟨q, h1, K (by rw [add_blk]; exact h.ne) h2, fun j hj => ⟨K h1 (h3 j hj).1, K h1 (h3 j hj).2⟩⟩
theorem Rm.grown {Y : Cy} {s : St} {w w' : World} (h : Rm Y s w) (hg : w.grownBy w' none) : Rm Y s w' := h.other (grown_more hg) (h.rec_.grown hg (by simp))
/-- Within node: the result's block. -/
structure NS (Y : Cy) (s0 s : St) (w wr : World) : Prop where
  rn0 : Rm Y s0 w
  gr : w.grownBy wr (some Y.rb)
  rec_ : Blk wr Y.rb 81 (evCells Y s)
  res : Blk wr w.heap.size 31 (rsC 0 0 ⟨#[]⟩ (.slice none 0 0))
  sz : w.heap.size < wr.heap.size
theorem NS.rn {Y : Cy} {s0 s : St} {w wr : World} (h : NS Y s0 s w wr) : Rm Y s wr := h.rn0.other h.gr h.rec_
theorem NS.start {Y : Cy} {s : St} {w : World} (h : Rm Y s w) : NS Y s s w (w.alloc (.cells #[.int .i64 0, .int .i64 0, .string ⟨#[]⟩, .slice none 0 0] 31)) :=
  have g := World.grownBy_alloc w (.cells #[.int .i64 0, .int .i64 0, .string ⟨#[]⟩, .slice none 0 0] 31) none
  ⟨h, grown_more g, h.rec_.grown g (by simp), Blk.alloc w #[.int .i64 0, .int .i64 0, .string ⟨#[]⟩, .slice none 0 0] 31, by simp⟩
theorem NS.next {Y : Cy} {s0 s s' : St} {w wr w' : World} (h : NS Y s0 s w wr) (hg : wr.grownBy w' (some Y.rb)) (hr : Blk w' Y.rb 81 (evCells Y s')) : NS Y s0 s' w w' :=
  ⟨h.rn0, grown_then h.gr hg (fun _ h => .inl h), hr, h.res.grown hg (by have := h.rn0.rec_.lt; intro e; injection e with e; omega), Nat.lt_of_lt_of_le h.sz hg.size⟩
theorem NS.more {Y : Cy} {s0 s : St} {w wr w' : World} (h : NS Y s0 s w wr) (hg : wr.grownBy w' none) : NS Y s0 s w w' := h.next (grown_more hg) (h.rec_.grown hg (by simp))
/-- Other blocks of the call's own change. -/
theorem NS.own {Y : Cy} {s0 s : St} {w wr w' : World} {b : Nat} (h : NS Y s0 s w wr) (hg : wr.grownBy w' (some b)) (hb : w.heap.size < b) : NS Y s0 s w w' :=
  have := h.rn0.rec_.lt
  ⟨h.rn0, grown_then h.gr hg (fun q hq => .inr (by injection hq with hq; omega)), h.rec_.grown hg (by intro e; injection e with e; omega), h.res.grown hg (by intro e; injection e with e; omega), Nat.lt_of_lt_of_le h.sz hg.size⟩
theorem NS.row {Y : Cy} {s0 s : St} {w wr w' : World} {v : Value} {F : List Cap} (h : NS Y s0 s w wr) (ho : OwnF wr w.heap.size v F) (hg : wr.grownBy w' v.ownBlock) : NS Y s0 s w w' := by
  cases hv : v.ownBlock with
  | none => rw [hv] at hg; exact h.more hg
  | some b =>
    rw [hv] at hg
    have h2 := own_other ho h.res (by decide)
    have h3 := (World.ownsRow.lt ho b hv).1
    rw [hv] at h2
    refine h.own hg ?_
    have h5 : b ≠ w.heap.size := fun e => h2 (by rw [e])
    omega
theorem set4_blk {w : World} {b : Nat} {t : TypeId} {c0 c1 c2 c3 : Value} (h : Blk w b t [c0, c1, c2, c3]) (x0 x1 x2 x3 : Value) : Blk (set4 w b x0 x1 x2 x3) b t [x0, x1, x2, x3] :=
  (((h.setCell 0 x0).setCell 1 x1).setCell 2 x2).setCell 3 x3
theorem set4_grown (w : World) (b : Nat) (x0 x1 x2 x3 : Value) : w.grownBy (set4 w b x0 x1 x2 x3) (some b) :=
  Fr4.grown2 (Fr4.grown2 (Fr4.grown2 (grown_setCell w _ _) (grown_setCell _ _ _)) (grown_setCell _ _ _)) (grown_setCell _ _ _)
theorem NS.put {Y : Cy} {s0 s : St} {w wr wz : World} {k : Int} {en : Nat} {lb : ByteArray} {v : Value} {tr : Nat} {F : List Cap} (h : NS Y s0 s w wr) (ho : OwnF wr w.heap.size v F)
    (hwz : wz = set4 wr w.heap.size (.int .i64 k) (.int .i64 (en : Nat)) (.string lb) v) : ToldM Y w (⟨k, en, lb, F, tr⟩, s) (.returned (.agg (rsC k en lb v).toArray)) wz ∧ Blk wz w.heap.size 31 (rsC k en lb v) := by
  subst hwz
  have hs := set4_grown wr w.heap.size (.int .i64 k) (.int .i64 (en : Nat)) (.string lb) v
  have hlt := h.rn0.rec_.lt
  have g := grown_then h.gr hs (fun q hq => .inr (by injection hq with hq; omega))
  exact ⟨⟨v, rfl, g, h.rn0.other g (h.rec_.grown hs (by intro e; injection e with e; omega)), ho.kept hs h.res (by decide)⟩, set4_blk h.res _ _ _ _⟩
theorem blk4 {w : World} {b : Nat} {k : Int} {en : Nat} {lb : ByteArray} {v : Value} (h : Blk w b 31 (rsC k en lb v)) :
    (w.cell? ⟨b, 0, none⟩ = some (.int .i64 k) ∧ w.cell? ⟨b, 1, none⟩ = some (.int .i64 (en : Nat)) ∧ w.cell? ⟨b, 2, none⟩ = some (.string lb) ∧ w.cell? ⟨b, 3, none⟩ = some v) ∧ (w.frozen? ⟨b, 0, none⟩ = false ∧ w.frozen? ⟨b, 1, none⟩ = false ∧ w.frozen? ⟨b, 2, none⟩ = false ∧ w.frozen? ⟨b, 3, none⟩ = false) :=
  ⟨⟨h.cell 0, h.cell 1, h.cell 2, h.cell 3⟩, h.frozen 0, h.frozen 1, h.frozen 2, h.frozen 3⟩
theorem rec9 {Y : Cy} {s : St} {w : World} (h : Blk w Y.rb 81 (evCells Y s)) :
    (w.cell? ⟨Y.rb, 4, none⟩ = some (.int .i64 (Y.l.depth : Nat)) ∧ w.cell? ⟨Y.rb, 5, none⟩ = some (.int .i64 (Y.l.steps : Nat)) ∧ w.cell? ⟨Y.rb, 6, none⟩ = some (.int .i64 (s.depth : Nat)) ∧ w.cell? ⟨Y.rb, 7, none⟩ = some (.int .i64 (s.steps : Nat)) ∧ w.cell? ⟨Y.rb, 8, none⟩ = some (.int .i64 s.err)) ∧
    (w.frozen? ⟨Y.rb, 6, none⟩ = false ∧ w.frozen? ⟨Y.rb, 7, none⟩ = false ∧ w.frozen? ⟨Y.rb, 8, none⟩ = false) :=
  ⟨⟨h.cell 4, h.cell 5, h.cell 6, h.cell 7, h.cell 8⟩, h.frozen 6, h.frozen 7, h.frozen 8⟩
theorem far4 {w : World} {b : Nat} {p : Addr} {v x0 x1 x2 x3 : Value} (h : p.block ≠ b) (hp : w.cell? p = some v) : ((((w.setCell ⟨b, 0, none⟩ x0).setCell ⟨b, 1, none⟩ x1).setCell ⟨b, 2, none⟩ x2).setCell ⟨b, 3, none⟩ x3).cell? p = some v :=
  far1 h.symm (far1 h.symm (far1 h.symm (far1 h.symm hp)))
/-- The numbers of a step within a step. -/
theorem in_stepM {Y : Cy} {f d : Nat} {s : St} (hf : 2 * (Y.l.steps - s.steps) + 1 ≤ f + 1) (hs2 : s.steps < Y.l.steps) (hd : d ≤ Y.l.depth) (hd2 : s.depth ≤ Y.l.depth) :
    (2 * (Y.l.steps - (tick d s).steps) + 1 ≤ f ∧ (tick d s).depth ≤ Y.l.depth ∧ (tick d s).steps ≤ Y.l.steps) ∧ ∀ t p, OK Y.e Y.l p (tick d s) (ev Y.e Y.l f t p (d + 1) (tick d s)) := by
  have h1 : 2 * (Y.l.steps - (tick d s).steps) + 1 ≤ f := by simp only [tick]; omega
  exact ⟨⟨h1, by simp only [tick]; omega, by simp only [tick]; omega⟩, fun t p => ev_ok _ _ _ _ _ _ _ h1⟩
theorem secondM {Y : Cy} {f p : Nat} {s : St} {x : Res × St} (h1 : 2 * (Y.l.steps - s.steps) + 1 ≤ f) (h2 : s.depth ≤ Y.l.depth) (h3 : s.steps ≤ Y.l.steps) (h : OK Y.e Y.l p s x) :
    2 * (Y.l.steps - x.2.steps) + 1 ≤ f ∧ x.2.depth ≤ Y.l.depth ∧ x.2.steps ≤ Y.l.steps :=
  ⟨by have := h.steps; omega, h.deep h2, h.max h3⟩
/-- A node's kind. -/
theorem cn_op {Y : Cy} {r i : Nat} (hi : i < Y.n r) : cn (Y.b r) i = cnOf (cd (cr Y.rs r).f1 i) := cn_cd _ _ hi
theorem tickM {Y : Cy} {s : St} {d : Nat} {x y : Int} (hx : x = ((s.steps + 1 : Nat) : Int)) (hy : y = ((max s.depth d : Nat) : Int)) : ((evCells Y s).set 7 (.int .i64 x)).set 6 (.int .i64 y) = evCells Y (tick d s) := by
  subst hx; subst hy
  rfl
set_option maxRecDepth 100000 in
set_option maxHeartbeats 4000000 in
theorem node_stop (Y : Cy) (f r i p d : Nat) (s : St) (w : World) (hs : stop Y.l d s = true) (hn : Rm Y s w) : Calls Try.prog 21 #[.pointer (some ⟨Y.rb, 0, none⟩), .int .i64 (r : Nat), .int .i64 (i : Nat), .int .i64 (p : Nat), .int .i64 (d : Nat)] w (ToldM Y w (ev Y.e Y.l (f + 1) (tr (Y.b r) i) p d s)) := by
  have HZ := Lib.hid (NS.start hn); clear hn
  have HV : Hid (ev Y.e Y.l (f + 1) (tr (Y.b r) i) p d s = (.zero, halt Y.l d s)) := ev_stop _ _ _ hs
  have HS := Lib.hid hs; clear hs
  go_enter Try.func21, Try.ntmps21
  go_upto_region 1 with (fail)
  generalize hwa : w.alloc (.cells #[.int .i64 0, .int .i64 0, .string ⟨#[]⟩, .slice none 0 0] 31) = wa
  have HA : Hid (NS Y s s w wa) := by rw [← hwa]; exact HZ.out
  clear hwa HZ
  obtain ⟨⟨c4, c5, c6, c7, c8⟩, f6, f7, f8⟩ := rec9 HA.out.rec_
  obtain ⟨⟨z0, z1, z2, z3⟩, y0, y1, y2, y3⟩ := blk4 HA.out.res
  have hne : ¬ w.heap.size = Y.rb := fun e => by have := HA.out.rn0.rec_.lt; omega
  have hne' : ¬ Y.rb = w.heap.size := fun e => by have := HA.out.rn0.rec_.lt; omega
  have HW : ∀ (nq : Nat) (er : Int), halt Y.l d s = { s with err := er } → Hid (NS Y s (halt Y.l d s) w ((wa.drewN nq).setCell ⟨Y.rb, 8, none⟩ (.int .i64 er))) := by
    intro nq er he
    rw [he]
    have h1 := HA.out.more (Go.X.grown_of_below (Below.drewQ ⟨nq, rfl⟩) none)
    exact h1.next (grown_setCell _ _ _) (h1.rec_.setCell 8 _)
  by_cases h1 : s.err = 0
  · by_cases h2 : Y.l.depth < d
    · have h2' : (Y.l.depth : Int) < (d : Int) := by omega
      have HH : Hid (halt Y.l d s = { s with err := 3 }) := by show _ = _; rw [halt, if_neg (by simp [h1]), if_pos h2]
      have HX : Hid (NS Y s (halt Y.l d s) w (wa.setCell ⟨Y.rb, 8, none⟩ (.int .i64 3))) := HW 0 3 HH.out
      clear HW
      go_wp2
      clear z0 z1 z2 z3 y0 y1 y2 y3 c4 c5 c6 c7 c8 f6 f7 f8
      (try simp only [Exit.inBlock, Exit.then])
      show bodyPost _ _ _ _ _ (set4 (wa.setCell ⟨Y.rb, 8, none⟩ (.int .i64 3)) w.heap.size (.int .i64 0) (.int .i64 ((0 : Nat) : Int)) (.string ⟨#[]⟩) (.slice none 0 0))
      obtain ⟨wz, hwz⟩ : ∃ wz, wz = set4 (wa.setCell ⟨Y.rb, 8, none⟩ (.int .i64 3)) w.heap.size (.int .i64 0) (.int .i64 ((0 : Nat) : Int)) (.string ⟨#[]⟩) (.slice none 0 0) := ⟨_, rfl⟩
      rw [← hwz]
      obtain ⟨hT, hB⟩ := NS.put (tr := 0) (HX.out) (OwnF.nil _ _) hwz
      obtain ⟨⟨r0, r1, r2, r3⟩, _⟩ := blk4 hB
      clear hwz hB
      refine bodyPost_ret (v := .agg (rsC 0 (0) ⟨#[]⟩ (.slice none 0 0)).toArray) (by simp [results, rsC, Try.results21, go_sem, r0, r1, r2, r3]) rfl ?_
      rw [HV.out]
      exact hT
    · have h2' : ¬ (Y.l.depth : Int) < (d : Int) := by omega
      have h3' : (Y.l.steps : Int) ≤ (s.steps : Int) := by
        have h3 : s.err ≠ 0 ∨ Y.l.depth < d ∨ Y.l.steps ≤ s.steps := of_decide_eq_true HS.out
        omega
      have HH : Hid (halt Y.l d s = { s with err := 4 }) := by show _ = _; rw [halt, if_neg (by simp [h1]), if_neg h2]
      go_wp2
      go_quiet (fail)
      have HX := HW nq 4 HH.out
      clear HW
      go_wp2
      clear z0 z1 z2 z3 y0 y1 y2 y3 c4 c5 c6 c7 c8 f6 f7 f8
      (try simp only [Exit.inBlock, Exit.then])
      show bodyPost _ _ _ _ _ (set4 ((wa.drewN nq).setCell ⟨Y.rb, 8, none⟩ (.int .i64 4)) w.heap.size (.int .i64 0) (.int .i64 ((0 : Nat) : Int)) (.string ⟨#[]⟩) (.slice none 0 0))
      obtain ⟨wz, hwz⟩ : ∃ wz, wz = set4 ((wa.drewN nq).setCell ⟨Y.rb, 8, none⟩ (.int .i64 4)) w.heap.size (.int .i64 0) (.int .i64 ((0 : Nat) : Int)) (.string ⟨#[]⟩) (.slice none 0 0) := ⟨_, rfl⟩
      rw [← hwz]
      obtain ⟨hT, hB⟩ := NS.put (tr := 0) (HX.out) (OwnF.nil _ _) hwz
      obtain ⟨⟨r0, r1, r2, r3⟩, _⟩ := blk4 hB
      clear hwz hB
      refine bodyPost_ret (v := .agg (rsC 0 (0) ⟨#[]⟩ (.slice none 0 0)).toArray) (by simp [results, rsC, Try.results21, go_sem, r0, r1, r2, r3]) rfl ?_
      rw [HV.out]
      exact hT
  · have hb1 : (s.err == (0 : Int)) = false := beq_eq_false_iff_ne.2 h1
    have HH : Hid (halt Y.l d s = s) := by show _ = _; rw [halt, if_pos h1]
    clear HW
    go_wp2
    clear z0 z1 z2 z3 y0 y1 y2 y3 c4 c5 c6 c7 c8 f6 f7 f8
    (try simp only [Exit.inBlock, Exit.then])
    show bodyPost _ _ _ _ _ (set4 wa w.heap.size (.int .i64 0) (.int .i64 ((0 : Nat) : Int)) (.string ⟨#[]⟩) (.slice none 0 0))
    obtain ⟨wz, hwz⟩ : ∃ wz, wz = set4 wa w.heap.size (.int .i64 0) (.int .i64 ((0 : Nat) : Int)) (.string ⟨#[]⟩) (.slice none 0 0) := ⟨_, rfl⟩
    rw [← hwz]
    obtain ⟨hT, hB⟩ := NS.put (tr := 0) (HA.out) (OwnF.nil _ _) hwz
    obtain ⟨⟨r0, r1, r2, r3⟩, _⟩ := blk4 hB
    clear hwz hB
    refine bodyPost_ret (v := .agg (rsC 0 (0) ⟨#[]⟩ (.slice none 0 0)).toArray) (by simp [results, rsC, Try.results21, go_sem, r0, r1, r2, r3]) rfl ?_
    rw [HV.out, HH.out]
    exact hT
set_option maxRecDepth 100000 in
set_option maxHeartbeats 4000000 in
theorem node_emp (Y : Cy) (F : Fy Y) (f : Nat) (IH : NodeC Y f) (r i p d : Nat) (s : St) (w : World) (hr : r < Y.rs.length) (hi : i < Y.n r) (hlw : low Y.rs.length (tr (Y.b r) i)) (hop : (cd (cr Y.rs r).f1 i).f0 = 0) (hf : 2 * (Y.l.steps - s.steps) + 1 ≤ f + 1) (hp : p ≤ Y.inp.size) (hd : d ≤ Y.l.depth) (hd2 : s.depth ≤ Y.l.depth) (hs2 : s.steps < Y.l.steps) (hs : ¬ stop Y.l d s = true) (hn : Rm Y s w) : Calls Try.prog 21 #[.pointer (some ⟨Y.rb, 0, none⟩), .int .i64 (r : Nat), .int .i64 (i : Nat), .int .i64 (p : Nat), .int .i64 (d : Nat)] w (ToldM Y w (ev Y.e Y.l (f + 1) (tr (Y.b r) i) p d s)) := by
  have HF := Lib.hid F; clear F
  have HIH := Lib.hid IH; clear IH
  have HG := Lib.hid (go_on hs)
  have HS := Lib.hid hs; clear hs
  have HZ := Lib.hid (NS.start hn); clear hn
  have HI := Lib.hid (in_stepM hf hs2 hd hd2)
  have HP := Lib.hid hp
  have HF2 : Hid (2 * (Y.l.steps - (tick d s).steps) + 2 ≤ f) := by show _ ≤ _; simp only [tick]; omega
  have HDD : Hid (d ≤ Y.l.depth ∧ d ≤ 1048576 ∧ p ≤ 1048576 ∧ Y.l.depth ≤ 1048576 ∧ Y.l.steps ≤ 1048576) := ⟨hd, Nat.le_trans hd HF.out.depth, Nat.le_trans hp HF.out.short, HF.out.depth, HF.out.steps⟩
  have HN : Hid (r < Y.rs.length ∧ i < Y.n r ∧ Y.n r ≤ 1048576 ∧ Y.rs.length ≤ 1048576) := ⟨hr, hi, HF.out.good.len r hr, HF.out.good.few.2⟩
  have HB : Hid (fits (Y.b r) (i + 1)) := (HF.out.good.fits r hr).low hi
  have HCN : Hid (cn (Y.b r) i = cnOf (cd (cr Y.rs r).f1 i)) := cn_op hi
  have HLOW := Lib.hid hlw; clear hlw
  have HA0 : Hid (ar (cn (Y.b r) i).op = 0) := by show _ = _; rw [HCN.out]; simp [cnOf, ar, hop]
  have HPT : Hid (pa (Y.b r) i = -1 ∧ pb (Y.b r) i = -1) := by rw [pa, pb, HA0.out]; exact ⟨rfl, rfl⟩
  have HTR : Hid (tr (Y.b r) i = mk (cn (Y.b r) i) .emp .emp) := (part0 HA0.out).1
  have e1 : s.err = 0 := HG.out.1
  have h2' : ¬ (Y.l.depth : Int) < (d : Int) := by have := HG.out.2.1; omega
  have h3' : ¬ (Y.l.steps : Int) ≤ (s.steps : Int) := by have := HG.out.2.2; omega
  have hws : wrap64 ((s.steps : Int) + 1) = ((s.steps + 1 : Nat) : Int) := by have := HDD.out; have := HG.out.2.2; rw [IntWalk.wrap64_in _ (by omega)]; rfl
  clear hf hp hd hd2 hs2 hr hi
  go_enter Try.func21, Try.ntmps21
  go_upto_region 1 with (fail)
  generalize hwa : w.alloc (.cells #[.int .i64 0, .int .i64 0, .string ⟨#[]⟩, .slice none 0 0] 31) = wa
  have HA : Hid (NS Y s s w wa) := by rw [← hwa]; exact HZ.out
  clear hwa HZ
  obtain ⟨⟨c4, c5, c6, c7, c8⟩, f6, f7, f8⟩ := rec9 HA.out.rec_
  go_wp2
  go_quiet (fail)
  have HW : ∀ x y : Int, x = ((s.steps + 1 : Nat) : Int) → y = ((max s.depth d : Nat) : Int) → Hid (NS Y s (tick d s) w (((wa.drewN nq).setCell ⟨Y.rb, 7, none⟩ (.int .i64 x)).setCell ⟨Y.rb, 6, none⟩ (.int .i64 y))) := by
    intro x y hx hy
    have h1 := HA.out.more (Go.X.grown_of_below (Below.drewQ ⟨nq, rfl⟩) none)
    refine h1.next (Fr4.grown2 (grown_setCell _ ⟨Y.rb, 7, none⟩ _) (grown_setCell _ ⟨Y.rb, 6, none⟩ _)) ?_
    rw [← tickM hx hy]
    exact (h1.rec_.setCell 7 _).setCell 6 _
  go_upto_region 11 with (fail)
  generalize hwb : ((wa.drewN nq).setCell ⟨Y.rb, 7, none⟩ _).setCell ⟨Y.rb, 6, none⟩ _ = wb
  have HB1 : Hid (NS Y s (tick d s) w wb) := by
    rw [← hwb]
    refine HW _ _ ?_ ?_
    · omega
    · omega
  clear hwb HW c4 c5 c6 c7 c8 f6 f7 f8 e1 h2' h3' hws HA
  obtain ⟨ad, A1, c1, eA, e0, e1, hl1, hc1⟩ := cr_at (Kd.C_below HF.out.C HB1.out.rn.bel) r HN.out.1
  obtain ⟨a1, eA1, n0, n1, n2, n3, n4, n5, n6⟩ := cd_at hc1 i HN.out.2.1
  subst eA1
  have hbx : w.heap.size < wb.heap.size := HB1.out.sz
  rw [hop] at n0
  obtain ⟨nd, hnd⟩ : ∃ nd, cd (cr Y.rs r).f1 i = nd := ⟨_, rfl⟩
  rw [hnd] at HCN hop n1 n2 n3 n4 n5 n6
  have HOP := Lib.hid hop
  have HND := Lib.hid hnd
  have hr0 : (0 : Int) ≤ (r : Int) := Int.natCast_nonneg _
  have hr1 : (r : Int) < (Y.rs.length : Int) := Int.ofNat_lt.2 HN.out.1
  have hi0 : (0 : Int) ≤ (i : Int) := Int.natCast_nonneg _
  have hi1 : (i : Int) < (Y.n r : Int) := Int.ofNat_lt.2 HN.out.2.1
  have c0 : wb.cell? ⟨Y.rb, 0, none⟩ = some (.slice (some ad) Y.rs.length Y.cR) := by rw [← eA]; exact HB1.out.rec_.cell 0
  have e1' : wb.cell? ⟨(ad.add (r * 2)).block, (ad.add (r * 2)).off + 1, none⟩ = some (.slice (some a1) (Y.n r) c1) := e1
  have HWC : ∀ wc : World, wc = wb.alloc (.cells #[.int .i64 0, .int .u64 nd.f1.f0, .int .u64 nd.f1.f1, .int .u64 nd.f1.f2, .int .u64 nd.f1.f3, .int .i64 nd.f2, .string nd.f3] 55) → Hid (NS Y s (tick d s) w wc ∧ Blk wc wb.heap.size 55 [.int .i64 0, .int .u64 nd.f1.f0, .int .u64 nd.f1.f1, .int .u64 nd.f1.f2, .int .u64 nd.f1.f3, .int .i64 nd.f2, .string nd.f3] ∧ w.heap.size < wb.heap.size) := by
    rintro wc rfl
    exact ⟨HB1.out.more (World.grownBy_alloc wb _ none), Blk.alloc wb _ _, HB1.out.sz⟩
  clear hnd hop e0 e1 hl1 hc1 hbx eA
  go_upto_region 12 with (fail)
  generalize hwc : wb.alloc _ = wc
  have HC := HWC wc hwc.symm
  clear hwc HWC c0 e1' n0 n1 n2 n3 n4 n5 n6 HB1 hi1
  generalize wb.heap.size = bx at *
  obtain ⟨q, hq, g1, g2⟩ := HC.out.1.rn.parts r HN.out.1
  obtain ⟨g3, g4⟩ := g2 i HN.out.2.1
  rw [HPT.out.1] at g3
  rw [HPT.out.2] at g4
  have c2 : wc.cell? ⟨Y.rb, 2, none⟩ = some (.slice (some Y.PA) Y.rs.length Y.cP) := HC.out.1.rec_.cell 2
  have hi1 : (i : Int) < (Y.n r : Int) := Int.ofNat_lt.2 HN.out.2.1
  have b0 : wc.cell? ⟨bx, 0, none⟩ = some (.int .i64 0) := HC.out.2.1.cell 0
  clear g2
  go_quiet (fail)
  have HD : Hid (NS Y s (tick d s) w (wc.drewN nq) ∧ Blk (wc.drewN nq) bx 55 [.int .i64 0, .int .u64 nd.f1.f0, .int .u64 nd.f1.f1, .int .u64 nd.f1.f2, .int .u64 nd.f1.f3, .int .i64 nd.f2, .string nd.f3] ∧ w.heap.size < bx) := by
    have g := Go.X.grown_of_below (Below.drewQ (w := wc) ⟨nq, rfl⟩) none
    exact ⟨HC.out.1.more g, HC.out.2.1.grown g (by simp), HC.out.2.2⟩
  clear b0 c2 g1 g3 g4 hr0 hr1 hi0 hi1 HC
  generalize wc.drewN nq = wd at *
  have b0 : wd.cell? ⟨bx, 0, none⟩ = some (.int .i64 0) := HD.out.2.1.cell 0
  have HTR' : Hid (tr (Y.b r) i = .emp) := by show _ = _; rw [HTR.out, HCN.out]; simp [cnOf, mk, HOP.out]
  have HV : Hid (ev Y.e Y.l (f + 1) (tr (Y.b r) i) p d s = (.mat p, tick d s)) := by show _ = _; rw [HTR'.out, ev_emp _ _ HS.out]
  obtain ⟨⟨z0, z1, z2, z3⟩, y0, y1, y2, y3⟩ := blk4 (HD.out.1).res
  go_wp2
  clear z0 z1 z2 z3 y0 y1 y2 y3
  (try simp only [Exit.inBlock, Exit.then])
  show bodyPost _ _ _ _ _ (set4 wd w.heap.size (.int .i64 1) (.int .i64 ((p : Nat) : Int)) (.string ⟨#[]⟩) (.slice none 0 0))
  obtain ⟨wz, hwz⟩ : ∃ wz, wz = set4 wd w.heap.size (.int .i64 1) (.int .i64 ((p : Nat) : Int)) (.string ⟨#[]⟩) (.slice none 0 0) := ⟨_, rfl⟩
  rw [← hwz]
  obtain ⟨hT, hB⟩ := NS.put (tr := 0) (HD.out.1) (OwnF.nil _ _) hwz
  obtain ⟨⟨r0, r1, r2, r3⟩, _⟩ := blk4 hB
  clear hwz hB
  refine bodyPost_ret (v := .agg (rsC 1 (p) ⟨#[]⟩ (.slice none 0 0)).toArray) (by simp [results, rsC, Try.results21, go_sem, r0, r1, r2, r3]) rfl ?_
  rw [HV.out]
  exact hT
set_option maxRecDepth 100000 in
set_option maxHeartbeats 4000000 in
theorem node_thr (Y : Cy) (F : Fy Y) (f : Nat) (IH : NodeC Y f) (r i p d : Nat) (s : St) (w : World) (hr : r < Y.rs.length) (hi : i < Y.n r) (hlw : low Y.rs.length (tr (Y.b r) i)) (hop : (cd (cr Y.rs r).f1 i).f0 = 3) (hf : 2 * (Y.l.steps - s.steps) + 1 ≤ f + 1) (hp : p ≤ Y.inp.size) (hd : d ≤ Y.l.depth) (hd2 : s.depth ≤ Y.l.depth) (hs2 : s.steps < Y.l.steps) (hs : ¬ stop Y.l d s = true) (hn : Rm Y s w) : Calls Try.prog 21 #[.pointer (some ⟨Y.rb, 0, none⟩), .int .i64 (r : Nat), .int .i64 (i : Nat), .int .i64 (p : Nat), .int .i64 (d : Nat)] w (ToldM Y w (ev Y.e Y.l (f + 1) (tr (Y.b r) i) p d s)) := by
  have HF := Lib.hid F; clear F
  have HIH := Lib.hid IH; clear IH
  have HG := Lib.hid (go_on hs)
  have HS := Lib.hid hs; clear hs
  have HZ := Lib.hid (NS.start hn); clear hn
  have HI := Lib.hid (in_stepM hf hs2 hd hd2)
  have HP := Lib.hid hp
  have HF2 : Hid (2 * (Y.l.steps - (tick d s).steps) + 2 ≤ f) := by show _ ≤ _; simp only [tick]; omega
  have HDD : Hid (d ≤ Y.l.depth ∧ d ≤ 1048576 ∧ p ≤ 1048576 ∧ Y.l.depth ≤ 1048576 ∧ Y.l.steps ≤ 1048576) := ⟨hd, Nat.le_trans hd HF.out.depth, Nat.le_trans hp HF.out.short, HF.out.depth, HF.out.steps⟩
  have HN : Hid (r < Y.rs.length ∧ i < Y.n r ∧ Y.n r ≤ 1048576 ∧ Y.rs.length ≤ 1048576) := ⟨hr, hi, HF.out.good.len r hr, HF.out.good.few.2⟩
  have HB : Hid (fits (Y.b r) (i + 1)) := (HF.out.good.fits r hr).low hi
  have HCN : Hid (cn (Y.b r) i = cnOf (cd (cr Y.rs r).f1 i)) := cn_op hi
  have HLOW := Lib.hid hlw; clear hlw
  have HA0 : Hid (ar (cn (Y.b r) i).op = 0) := by show _ = _; rw [HCN.out]; simp [cnOf, ar, hop]
  have HPT : Hid (pa (Y.b r) i = -1 ∧ pb (Y.b r) i = -1) := by rw [pa, pb, HA0.out]; exact ⟨rfl, rfl⟩
  have HTR : Hid (tr (Y.b r) i = mk (cn (Y.b r) i) .emp .emp) := (part0 HA0.out).1
  have e1 : s.err = 0 := HG.out.1
  have h2' : ¬ (Y.l.depth : Int) < (d : Int) := by have := HG.out.2.1; omega
  have h3' : ¬ (Y.l.steps : Int) ≤ (s.steps : Int) := by have := HG.out.2.2; omega
  have hws : wrap64 ((s.steps : Int) + 1) = ((s.steps + 1 : Nat) : Int) := by have := HDD.out; have := HG.out.2.2; rw [IntWalk.wrap64_in _ (by omega)]; rfl
  clear hf hp hd hd2 hs2 hr hi
  go_enter Try.func21, Try.ntmps21
  go_upto_region 1 with (fail)
  generalize hwa : w.alloc (.cells #[.int .i64 0, .int .i64 0, .string ⟨#[]⟩, .slice none 0 0] 31) = wa
  have HA : Hid (NS Y s s w wa) := by rw [← hwa]; exact HZ.out
  clear hwa HZ
  obtain ⟨⟨c4, c5, c6, c7, c8⟩, f6, f7, f8⟩ := rec9 HA.out.rec_
  go_wp2
  go_quiet (fail)
  have HW : ∀ x y : Int, x = ((s.steps + 1 : Nat) : Int) → y = ((max s.depth d : Nat) : Int) → Hid (NS Y s (tick d s) w (((wa.drewN nq).setCell ⟨Y.rb, 7, none⟩ (.int .i64 x)).setCell ⟨Y.rb, 6, none⟩ (.int .i64 y))) := by
    intro x y hx hy
    have h1 := HA.out.more (Go.X.grown_of_below (Below.drewQ ⟨nq, rfl⟩) none)
    refine h1.next (Fr4.grown2 (grown_setCell _ ⟨Y.rb, 7, none⟩ _) (grown_setCell _ ⟨Y.rb, 6, none⟩ _)) ?_
    rw [← tickM hx hy]
    exact (h1.rec_.setCell 7 _).setCell 6 _
  go_upto_region 11 with (fail)
  generalize hwb : ((wa.drewN nq).setCell ⟨Y.rb, 7, none⟩ _).setCell ⟨Y.rb, 6, none⟩ _ = wb
  have HB1 : Hid (NS Y s (tick d s) w wb) := by
    rw [← hwb]
    refine HW _ _ ?_ ?_
    · omega
    · omega
  clear hwb HW c4 c5 c6 c7 c8 f6 f7 f8 e1 h2' h3' hws HA
  obtain ⟨ad, A1, c1, eA, e0, e1, hl1, hc1⟩ := cr_at (Kd.C_below HF.out.C HB1.out.rn.bel) r HN.out.1
  obtain ⟨a1, eA1, n0, n1, n2, n3, n4, n5, n6⟩ := cd_at hc1 i HN.out.2.1
  subst eA1
  have hbx : w.heap.size < wb.heap.size := HB1.out.sz
  rw [hop] at n0
  obtain ⟨nd, hnd⟩ : ∃ nd, cd (cr Y.rs r).f1 i = nd := ⟨_, rfl⟩
  rw [hnd] at HCN hop n1 n2 n3 n4 n5 n6
  have HOP := Lib.hid hop
  have HND := Lib.hid hnd
  have hr0 : (0 : Int) ≤ (r : Int) := Int.natCast_nonneg _
  have hr1 : (r : Int) < (Y.rs.length : Int) := Int.ofNat_lt.2 HN.out.1
  have hi0 : (0 : Int) ≤ (i : Int) := Int.natCast_nonneg _
  have hi1 : (i : Int) < (Y.n r : Int) := Int.ofNat_lt.2 HN.out.2.1
  have c0 : wb.cell? ⟨Y.rb, 0, none⟩ = some (.slice (some ad) Y.rs.length Y.cR) := by rw [← eA]; exact HB1.out.rec_.cell 0
  have e1' : wb.cell? ⟨(ad.add (r * 2)).block, (ad.add (r * 2)).off + 1, none⟩ = some (.slice (some a1) (Y.n r) c1) := e1
  have HWC : ∀ wc : World, wc = wb.alloc (.cells #[.int .i64 3, .int .u64 nd.f1.f0, .int .u64 nd.f1.f1, .int .u64 nd.f1.f2, .int .u64 nd.f1.f3, .int .i64 nd.f2, .string nd.f3] 55) → Hid (NS Y s (tick d s) w wc ∧ Blk wc wb.heap.size 55 [.int .i64 3, .int .u64 nd.f1.f0, .int .u64 nd.f1.f1, .int .u64 nd.f1.f2, .int .u64 nd.f1.f3, .int .i64 nd.f2, .string nd.f3] ∧ w.heap.size < wb.heap.size) := by
    rintro wc rfl
    exact ⟨HB1.out.more (World.grownBy_alloc wb _ none), Blk.alloc wb _ _, HB1.out.sz⟩
  clear hnd hop e0 e1 hl1 hc1 hbx eA
  go_upto_region 12 with (fail)
  generalize hwc : wb.alloc _ = wc
  have HC := HWC wc hwc.symm
  clear hwc HWC c0 e1' n0 n1 n2 n3 n4 n5 n6 HB1 hi1
  generalize wb.heap.size = bx at *
  obtain ⟨q, hq, g1, g2⟩ := HC.out.1.rn.parts r HN.out.1
  obtain ⟨g3, g4⟩ := g2 i HN.out.2.1
  rw [HPT.out.1] at g3
  rw [HPT.out.2] at g4
  have c2 : wc.cell? ⟨Y.rb, 2, none⟩ = some (.slice (some Y.PA) Y.rs.length Y.cP) := HC.out.1.rec_.cell 2
  have hi1 : (i : Int) < (Y.n r : Int) := Int.ofNat_lt.2 HN.out.2.1
  have b0 : wc.cell? ⟨bx, 0, none⟩ = some (.int .i64 3) := HC.out.2.1.cell 0
  clear g2
  go_quiet (fail)
  have HD : Hid (NS Y s (tick d s) w (wc.drewN nq) ∧ Blk (wc.drewN nq) bx 55 [.int .i64 3, .int .u64 nd.f1.f0, .int .u64 nd.f1.f1, .int .u64 nd.f1.f2, .int .u64 nd.f1.f3, .int .i64 nd.f2, .string nd.f3] ∧ w.heap.size < bx) := by
    have g := Go.X.grown_of_below (Below.drewQ (w := wc) ⟨nq, rfl⟩) none
    exact ⟨HC.out.1.more g, HC.out.2.1.grown g (by simp), HC.out.2.2⟩
  clear b0 c2 g1 g3 g4 hr0 hr1 hi0 hi1 HC
  generalize wc.drewN nq = wd at *
  have b0 : wd.cell? ⟨bx, 0, none⟩ = some (.int .i64 3) := HD.out.2.1.cell 0
  have HTR' : Hid (tr (Y.b r) i = .thr nd.f3) := by show _ = _; rw [HTR.out, HCN.out]; simp [cnOf, mk, HOP.out]
  have HV : Hid (ev Y.e Y.l (f + 1) (tr (Y.b r) i) p d s = (⟨2, p, nd.f3, [], 0⟩, tick d s)) := by show _ = _; rw [HTR'.out, ev_thr _ _ _ HS.out]
  have b6 : wd.cell? ⟨bx, 6, none⟩ = some (.string nd.f3) := HD.out.2.1.cell 6
  obtain ⟨⟨z0, z1, z2, z3⟩, y0, y1, y2, y3⟩ := blk4 (HD.out.1).res
  go_wp2
  clear z0 z1 z2 z3 y0 y1 y2 y3
  (try simp only [Exit.inBlock, Exit.then])
  show bodyPost _ _ _ _ _ (set4 wd w.heap.size (.int .i64 2) (.int .i64 ((p : Nat) : Int)) (.string nd.f3) (.slice none 0 0))
  obtain ⟨wz, hwz⟩ : ∃ wz, wz = set4 wd w.heap.size (.int .i64 2) (.int .i64 ((p : Nat) : Int)) (.string nd.f3) (.slice none 0 0) := ⟨_, rfl⟩
  rw [← hwz]
  obtain ⟨hT, hB⟩ := NS.put (tr := 0) (HD.out.1) (OwnF.nil _ _) hwz
  obtain ⟨⟨r0, r1, r2, r3⟩, _⟩ := blk4 hB
  clear hwz hB
  refine bodyPost_ret (v := .agg (rsC 2 (p) nd.f3 (.slice none 0 0)).toArray) (by simp [results, rsC, Try.results21, go_sem, r0, r1, r2, r3]) rfl ?_
  rw [HV.out]
  exact hT
set_option maxRecDepth 100000 in
set_option maxHeartbeats 4000000 in
theorem node_not (Y : Cy) (F : Fy Y) (f : Nat) (IH : NodeC Y f) (r i p d : Nat) (s : St) (w : World) (hr : r < Y.rs.length) (hi : i < Y.n r) (hlw : low Y.rs.length (tr (Y.b r) i)) (hop : (cd (cr Y.rs r).f1 i).f0 = 7) (hf : 2 * (Y.l.steps - s.steps) + 1 ≤ f + 1) (hp : p ≤ Y.inp.size) (hd : d ≤ Y.l.depth) (hd2 : s.depth ≤ Y.l.depth) (hs2 : s.steps < Y.l.steps) (hs : ¬ stop Y.l d s = true) (hn : Rm Y s w) : Calls Try.prog 21 #[.pointer (some ⟨Y.rb, 0, none⟩), .int .i64 (r : Nat), .int .i64 (i : Nat), .int .i64 (p : Nat), .int .i64 (d : Nat)] w (ToldM Y w (ev Y.e Y.l (f + 1) (tr (Y.b r) i) p d s)) := by
  have HF := Lib.hid F; clear F
  have HIH := Lib.hid IH; clear IH
  have HG := Lib.hid (go_on hs)
  have HS := Lib.hid hs; clear hs
  have HZ := Lib.hid (NS.start hn); clear hn
  have HI := Lib.hid (in_stepM hf hs2 hd hd2)
  have HP := Lib.hid hp
  have HF2 : Hid (2 * (Y.l.steps - (tick d s).steps) + 2 ≤ f) := by show _ ≤ _; simp only [tick]; omega
  have HDD : Hid (d ≤ Y.l.depth ∧ d ≤ 1048576 ∧ p ≤ 1048576 ∧ Y.l.depth ≤ 1048576 ∧ Y.l.steps ≤ 1048576) := ⟨hd, Nat.le_trans hd HF.out.depth, Nat.le_trans hp HF.out.short, HF.out.depth, HF.out.steps⟩
  have HN : Hid (r < Y.rs.length ∧ i < Y.n r ∧ Y.n r ≤ 1048576 ∧ Y.rs.length ≤ 1048576) := ⟨hr, hi, HF.out.good.len r hr, HF.out.good.few.2⟩
  have HB : Hid (fits (Y.b r) (i + 1)) := (HF.out.good.fits r hr).low hi
  have HCN : Hid (cn (Y.b r) i = cnOf (cd (cr Y.rs r).f1 i)) := cn_op hi
  have HLOW := Lib.hid hlw; clear hlw
  have HA1 : Hid (ar (cn (Y.b r) i).op = 1) := by show _ = _; rw [HCN.out]; simp [cnOf, ar, hop]
  obtain ⟨m, hm⟩ : ∃ m, i = m + 1 := ⟨i - 1, by have := (part1 HB.out HA1.out).1; omega⟩
  have HPT : Hid (pa (Y.b r) i = (m : Int) ∧ pb (Y.b r) i = -1) := by rw [pa, pb, HA1.out, hm]; exact ⟨by simp, rfl⟩
  have HTR : Hid (tr (Y.b r) i = mk (cn (Y.b r) i) (tr (Y.b r) m) .emp) := by show _ = _; rw [(part1 HB.out HA1.out).2.1, hm, Nat.add_sub_cancel]
  have HMN : Hid (m < Y.n r) := by show _ < _; omega
  clear hm
  have e1 : s.err = 0 := HG.out.1
  have h2' : ¬ (Y.l.depth : Int) < (d : Int) := by have := HG.out.2.1; omega
  have h3' : ¬ (Y.l.steps : Int) ≤ (s.steps : Int) := by have := HG.out.2.2; omega
  have hws : wrap64 ((s.steps : Int) + 1) = ((s.steps + 1 : Nat) : Int) := by have := HDD.out; have := HG.out.2.2; rw [IntWalk.wrap64_in _ (by omega)]; rfl
  clear hf hp hd hd2 hs2 hr hi
  go_enter Try.func21, Try.ntmps21
  go_upto_region 1 with (fail)
  generalize hwa : w.alloc (.cells #[.int .i64 0, .int .i64 0, .string ⟨#[]⟩, .slice none 0 0] 31) = wa
  have HA : Hid (NS Y s s w wa) := by rw [← hwa]; exact HZ.out
  clear hwa HZ
  obtain ⟨⟨c4, c5, c6, c7, c8⟩, f6, f7, f8⟩ := rec9 HA.out.rec_
  go_wp2
  go_quiet (fail)
  have HW : ∀ x y : Int, x = ((s.steps + 1 : Nat) : Int) → y = ((max s.depth d : Nat) : Int) → Hid (NS Y s (tick d s) w (((wa.drewN nq).setCell ⟨Y.rb, 7, none⟩ (.int .i64 x)).setCell ⟨Y.rb, 6, none⟩ (.int .i64 y))) := by
    intro x y hx hy
    have h1 := HA.out.more (Go.X.grown_of_below (Below.drewQ ⟨nq, rfl⟩) none)
    refine h1.next (Fr4.grown2 (grown_setCell _ ⟨Y.rb, 7, none⟩ _) (grown_setCell _ ⟨Y.rb, 6, none⟩ _)) ?_
    rw [← tickM hx hy]
    exact (h1.rec_.setCell 7 _).setCell 6 _
  go_upto_region 11 with (fail)
  generalize hwb : ((wa.drewN nq).setCell ⟨Y.rb, 7, none⟩ _).setCell ⟨Y.rb, 6, none⟩ _ = wb
  have HB1 : Hid (NS Y s (tick d s) w wb) := by
    rw [← hwb]
    refine HW _ _ ?_ ?_
    · omega
    · omega
  clear hwb HW c4 c5 c6 c7 c8 f6 f7 f8 e1 h2' h3' hws HA
  obtain ⟨ad, A1, c1, eA, e0, e1, hl1, hc1⟩ := cr_at (Kd.C_below HF.out.C HB1.out.rn.bel) r HN.out.1
  obtain ⟨a1, eA1, n0, n1, n2, n3, n4, n5, n6⟩ := cd_at hc1 i HN.out.2.1
  subst eA1
  have hbx : w.heap.size < wb.heap.size := HB1.out.sz
  rw [hop] at n0
  obtain ⟨nd, hnd⟩ : ∃ nd, cd (cr Y.rs r).f1 i = nd := ⟨_, rfl⟩
  rw [hnd] at HCN hop n1 n2 n3 n4 n5 n6
  have HOP := Lib.hid hop
  have HND := Lib.hid hnd
  have hr0 : (0 : Int) ≤ (r : Int) := Int.natCast_nonneg _
  have hr1 : (r : Int) < (Y.rs.length : Int) := Int.ofNat_lt.2 HN.out.1
  have hi0 : (0 : Int) ≤ (i : Int) := Int.natCast_nonneg _
  have hi1 : (i : Int) < (Y.n r : Int) := Int.ofNat_lt.2 HN.out.2.1
  have c0 : wb.cell? ⟨Y.rb, 0, none⟩ = some (.slice (some ad) Y.rs.length Y.cR) := by rw [← eA]; exact HB1.out.rec_.cell 0
  have e1' : wb.cell? ⟨(ad.add (r * 2)).block, (ad.add (r * 2)).off + 1, none⟩ = some (.slice (some a1) (Y.n r) c1) := e1
  have HWC : ∀ wc : World, wc = wb.alloc (.cells #[.int .i64 7, .int .u64 nd.f1.f0, .int .u64 nd.f1.f1, .int .u64 nd.f1.f2, .int .u64 nd.f1.f3, .int .i64 nd.f2, .string nd.f3] 55) → Hid (NS Y s (tick d s) w wc ∧ Blk wc wb.heap.size 55 [.int .i64 7, .int .u64 nd.f1.f0, .int .u64 nd.f1.f1, .int .u64 nd.f1.f2, .int .u64 nd.f1.f3, .int .i64 nd.f2, .string nd.f3] ∧ w.heap.size < wb.heap.size) := by
    rintro wc rfl
    exact ⟨HB1.out.more (World.grownBy_alloc wb _ none), Blk.alloc wb _ _, HB1.out.sz⟩
  clear hnd hop e0 e1 hl1 hc1 hbx eA
  go_upto_region 12 with (fail)
  generalize hwc : wb.alloc _ = wc
  have HC := HWC wc hwc.symm
  clear hwc HWC c0 e1' n0 n1 n2 n3 n4 n5 n6 HB1 hi1
  generalize wb.heap.size = bx at *
  obtain ⟨q, hq, g1, g2⟩ := HC.out.1.rn.parts r HN.out.1
  obtain ⟨g3, g4⟩ := g2 i HN.out.2.1
  rw [HPT.out.1] at g3
  rw [HPT.out.2] at g4
  have c2 : wc.cell? ⟨Y.rb, 2, none⟩ = some (.slice (some Y.PA) Y.rs.length Y.cP) := HC.out.1.rec_.cell 2
  have hi1 : (i : Int) < (Y.n r : Int) := Int.ofNat_lt.2 HN.out.2.1
  have b0 : wc.cell? ⟨bx, 0, none⟩ = some (.int .i64 7) := HC.out.2.1.cell 0
  clear g2
  go_quiet (fail)
  have HD : Hid (NS Y s (tick d s) w (wc.drewN nq) ∧ Blk (wc.drewN nq) bx 55 [.int .i64 7, .int .u64 nd.f1.f0, .int .u64 nd.f1.f1, .int .u64 nd.f1.f2, .int .u64 nd.f1.f3, .int .i64 nd.f2, .string nd.f3] ∧ w.heap.size < bx) := by
    have g := Go.X.grown_of_below (Below.drewQ (w := wc) ⟨nq, rfl⟩) none
    exact ⟨HC.out.1.more g, HC.out.2.1.grown g (by simp), HC.out.2.2⟩
  clear b0 c2 g1 g3 g4 hr0 hr1 hi0 hi1 HC
  generalize wc.drewN nq = wd at *
  have b0 : wd.cell? ⟨bx, 0, none⟩ = some (.int .i64 7) := HD.out.2.1.cell 0
  have HTR' : Hid (tr (Y.b r) i = .not (tr (Y.b r) m)) := by show _ = _; rw [HTR.out, HCN.out]; simp [cnOf, mk, HOP.out]
  have HLW : Hid (low Y.rs.length (tr (Y.b r) m)) := by have := HLOW.out; rw [HTR'.out] at this; exact this
  have hdw : wrap64 ((d : Int) + 1) = ((d + 1 : Nat) : Int) := by have := HDD.out.2.1; rw [IntWalk.wrap64_in _ (by omega)]; rfl
  go_wp2_with (fail)
  refine (HIH.out r m (p) (d + 1) (tick d s) _ HN.out.1 HMN.out HLW.out HI.out.1.1 HP.out (by have := HDD.out.1; omega) HI.out.1.2.1 HI.out.1.2.2 HD.out.1.rn).mono ?_
  rintro e w1 ⟨v1, rfl, hg, hr, ho⟩
  obtain ⟨ax, cx, hv⟩ := Go.X.own_slice ho
  subst hv
  have HOx := Lib.hid (ho.low HD.out.1.gr.size)
  have HEx := Lib.hid (HD.out.1.next hg hr.rec_)
  clear hg hr ho
  generalize hx : ev Y.e Y.l f (tr (Y.b r) m) p (d + 1) (tick d s) = qx at *
  obtain ⟨⟨xk, xe, xl, xf, xt⟩, xs⟩ := qx
  dsimp only [rsC] at *
  have HV : Hid (ev Y.e Y.l (f + 1) (tr (Y.b r) i) p d s = (if xk = 1 then .zero else .mat p, xs)) := by show _ = _; rw [HTR'.out, ev_not _ _ _ HS.out, hx]
  clear hx hdw b0
  have HKx' : ∀ wk : World, wk = w1.alloc (.cells #[.int .i64 xk, .int .i64 (xe : Nat), .string xl, .slice ax xf.length cx] 31) → Hid (NS Y s xs w wk ∧ Blk wk w1.heap.size 31 (rsC xk xe xl (.slice ax xf.length cx)) ∧ OwnF wk w.heap.size (.slice ax xf.length cx) xf ∧ w.heap.size < w1.heap.size) := by
    rintro wk rfl
    have g := World.grownBy_alloc w1 (.cells #[.int .i64 xk, .int .i64 (xe : Nat), .string xl, .slice ax xf.length cx] 31) none
    exact ⟨HEx.out.more g, Blk.alloc w1 _ _, HOx.out.more g, HEx.out.sz⟩
  go_upto_region 41 with (fail)
  generalize hwk : w1.alloc (.cells #[.int .i64 xk, .int .i64 (xe : Nat), .string xl, .slice ax xf.length cx] 31) = wk
  have HKx := HKx' wk hwk.symm
  clear HKx' hwk HEx HOx
  generalize w1.heap.size = b9 at *
  obtain ⟨⟨x0, x1, x2, x3⟩, xf0, xf1, xf2, xf3⟩ := blk4 HKx.out.2.1
  by_cases hk : xk = 1
  · have hkb : (xk == (1 : Int)) = true := by rw [hk]; rfl
    obtain ⟨⟨z0, z1, z2, z3⟩, y0, y1, y2, y3⟩ := blk4 (HKx.out.1).res
    go_wp2
    clear z0 z1 z2 z3 y0 y1 y2 y3
    (try simp only [Exit.inBlock, Exit.then])
    show bodyPost _ _ _ _ _ (set4 wk w.heap.size (.int .i64 0) (.int .i64 ((0 : Nat) : Int)) (.string ⟨#[]⟩) (.slice none 0 0))
    obtain ⟨wz, hwz⟩ : ∃ wz, wz = set4 wk w.heap.size (.int .i64 0) (.int .i64 ((0 : Nat) : Int)) (.string ⟨#[]⟩) (.slice none 0 0) := ⟨_, rfl⟩
    rw [← hwz]
    obtain ⟨hT, hB⟩ := NS.put (tr := 0) (HKx.out.1) (OwnF.nil _ _) hwz
    obtain ⟨⟨r0, r1, r2, r3⟩, _⟩ := blk4 hB
    clear hwz hB
    refine bodyPost_ret (v := .agg (rsC 0 (0) ⟨#[]⟩ (.slice none 0 0)).toArray) (by simp [results, rsC, Try.results21, go_sem, r0, r1, r2, r3]) rfl ?_
    rw [HV.out, if_pos hk]
    exact hT
  · have hkb : (xk == (1 : Int)) = false := beq_eq_false_iff_ne.2 hk
    obtain ⟨⟨z0, z1, z2, z3⟩, y0, y1, y2, y3⟩ := blk4 (HKx.out.1).res
    go_wp2
    clear z0 z1 z2 z3 y0 y1 y2 y3
    (try simp only [Exit.inBlock, Exit.then])
    show bodyPost _ _ _ _ _ (set4 wk w.heap.size (.int .i64 1) (.int .i64 ((p : Nat) : Int)) (.string ⟨#[]⟩) (.slice none 0 0))
    obtain ⟨wz, hwz⟩ : ∃ wz, wz = set4 wk w.heap.size (.int .i64 1) (.int .i64 ((p : Nat) : Int)) (.string ⟨#[]⟩) (.slice none 0 0) := ⟨_, rfl⟩
    rw [← hwz]
    obtain ⟨hT, hB⟩ := NS.put (tr := 0) (HKx.out.1) (OwnF.nil _ _) hwz
    obtain ⟨⟨r0, r1, r2, r3⟩, _⟩ := blk4 hB
    clear hwz hB
    refine bodyPost_ret (v := .agg (rsC 1 (p) ⟨#[]⟩ (.slice none 0 0)).toArray) (by simp [results, rsC, Try.results21, go_sem, r0, r1, r2, r3]) rfl ?_
    rw [HV.out, if_neg hk]
    exact hT
set_option maxRecDepth 100000 in
set_option maxHeartbeats 4000000 in
theorem node_alt (Y : Cy) (F : Fy Y) (f : Nat) (IH : NodeC Y f) (r i p d : Nat) (s : St) (w : World) (hr : r < Y.rs.length) (hi : i < Y.n r) (hlw : low Y.rs.length (tr (Y.b r) i)) (hop : (cd (cr Y.rs r).f1 i).f0 = 5) (hf : 2 * (Y.l.steps - s.steps) + 1 ≤ f + 1) (hp : p ≤ Y.inp.size) (hd : d ≤ Y.l.depth) (hd2 : s.depth ≤ Y.l.depth) (hs2 : s.steps < Y.l.steps) (hs : ¬ stop Y.l d s = true) (hn : Rm Y s w) : Calls Try.prog 21 #[.pointer (some ⟨Y.rb, 0, none⟩), .int .i64 (r : Nat), .int .i64 (i : Nat), .int .i64 (p : Nat), .int .i64 (d : Nat)] w (ToldM Y w (ev Y.e Y.l (f + 1) (tr (Y.b r) i) p d s)) := by
  have HF := Lib.hid F; clear F
  have HIH := Lib.hid IH; clear IH
  have HG := Lib.hid (go_on hs)
  have HS := Lib.hid hs; clear hs
  have HZ := Lib.hid (NS.start hn); clear hn
  have HI := Lib.hid (in_stepM hf hs2 hd hd2)
  have HP := Lib.hid hp
  have HF2 : Hid (2 * (Y.l.steps - (tick d s).steps) + 2 ≤ f) := by show _ ≤ _; simp only [tick]; omega
  have HDD : Hid (d ≤ Y.l.depth ∧ d ≤ 1048576 ∧ p ≤ 1048576 ∧ Y.l.depth ≤ 1048576 ∧ Y.l.steps ≤ 1048576) := ⟨hd, Nat.le_trans hd HF.out.depth, Nat.le_trans hp HF.out.short, HF.out.depth, HF.out.steps⟩
  have HN : Hid (r < Y.rs.length ∧ i < Y.n r ∧ Y.n r ≤ 1048576 ∧ Y.rs.length ≤ 1048576) := ⟨hr, hi, HF.out.good.len r hr, HF.out.good.few.2⟩
  have HB : Hid (fits (Y.b r) (i + 1)) := (HF.out.good.fits r hr).low hi
  have HCN : Hid (cn (Y.b r) i = cnOf (cd (cr Y.rs r).f1 i)) := cn_op hi
  have HLOW := Lib.hid hlw; clear hlw
  have HA2 : Hid (ar (cn (Y.b r) i).op = 2) := by show _ = _; rw [HCN.out]; simp [cnOf, ar, hop]
  obtain ⟨m, hm⟩ : ∃ m, i = m + 1 := ⟨i - 1, by have := (part2 HB.out HA2.out).1; omega⟩
  obtain ⟨k, hk⟩ : ∃ k, beg (Y.b r) m = k + 1 := ⟨beg (Y.b r) m - 1, by have := (part2 HB.out HA2.out).2.1; rw [hm, Nat.add_sub_cancel] at this; omega⟩
  have HPT : Hid (pa (Y.b r) i = (k : Int) ∧ pb (Y.b r) i = (m : Int)) := by rw [pa, pb, HA2.out, hm, Nat.add_sub_cancel, hk]; exact ⟨by simp, by simp⟩
  have HTR : Hid (tr (Y.b r) i = mk (cn (Y.b r) i) (tr (Y.b r) k) (tr (Y.b r) m)) := by show _ = _; rw [(part2 HB.out HA2.out).2.2.2.1, hm, Nat.add_sub_cancel, hk, Nat.add_sub_cancel]
  have HMN : Hid (m < Y.n r ∧ k < Y.n r) := by have := (part2 HB.out HA2.out).2.2.1; rw [hm, Nat.add_sub_cancel, hk] at this; exact ⟨by omega, by omega⟩
  clear hm hk
  have e1 : s.err = 0 := HG.out.1
  have h2' : ¬ (Y.l.depth : Int) < (d : Int) := by have := HG.out.2.1; omega
  have h3' : ¬ (Y.l.steps : Int) ≤ (s.steps : Int) := by have := HG.out.2.2; omega
  have hws : wrap64 ((s.steps : Int) + 1) = ((s.steps + 1 : Nat) : Int) := by have := HDD.out; have := HG.out.2.2; rw [IntWalk.wrap64_in _ (by omega)]; rfl
  clear hf hp hd hd2 hs2 hr hi
  go_enter Try.func21, Try.ntmps21
  go_upto_region 1 with (fail)
  generalize hwa : w.alloc (.cells #[.int .i64 0, .int .i64 0, .string ⟨#[]⟩, .slice none 0 0] 31) = wa
  have HA : Hid (NS Y s s w wa) := by rw [← hwa]; exact HZ.out
  clear hwa HZ
  obtain ⟨⟨c4, c5, c6, c7, c8⟩, f6, f7, f8⟩ := rec9 HA.out.rec_
  go_wp2
  go_quiet (fail)
  have HW : ∀ x y : Int, x = ((s.steps + 1 : Nat) : Int) → y = ((max s.depth d : Nat) : Int) → Hid (NS Y s (tick d s) w (((wa.drewN nq).setCell ⟨Y.rb, 7, none⟩ (.int .i64 x)).setCell ⟨Y.rb, 6, none⟩ (.int .i64 y))) := by
    intro x y hx hy
    have h1 := HA.out.more (Go.X.grown_of_below (Below.drewQ ⟨nq, rfl⟩) none)
    refine h1.next (Fr4.grown2 (grown_setCell _ ⟨Y.rb, 7, none⟩ _) (grown_setCell _ ⟨Y.rb, 6, none⟩ _)) ?_
    rw [← tickM hx hy]
    exact (h1.rec_.setCell 7 _).setCell 6 _
  go_upto_region 11 with (fail)
  generalize hwb : ((wa.drewN nq).setCell ⟨Y.rb, 7, none⟩ _).setCell ⟨Y.rb, 6, none⟩ _ = wb
  have HB1 : Hid (NS Y s (tick d s) w wb) := by
    rw [← hwb]
    refine HW _ _ ?_ ?_
    · omega
    · omega
  clear hwb HW c4 c5 c6 c7 c8 f6 f7 f8 e1 h2' h3' hws HA
  obtain ⟨ad, A1, c1, eA, e0, e1, hl1, hc1⟩ := cr_at (Kd.C_below HF.out.C HB1.out.rn.bel) r HN.out.1
  obtain ⟨a1, eA1, n0, n1, n2, n3, n4, n5, n6⟩ := cd_at hc1 i HN.out.2.1
  subst eA1
  have hbx : w.heap.size < wb.heap.size := HB1.out.sz
  rw [hop] at n0
  obtain ⟨nd, hnd⟩ : ∃ nd, cd (cr Y.rs r).f1 i = nd := ⟨_, rfl⟩
  rw [hnd] at HCN hop n1 n2 n3 n4 n5 n6
  have HOP := Lib.hid hop
  have HND := Lib.hid hnd
  have hr0 : (0 : Int) ≤ (r : Int) := Int.natCast_nonneg _
  have hr1 : (r : Int) < (Y.rs.length : Int) := Int.ofNat_lt.2 HN.out.1
  have hi0 : (0 : Int) ≤ (i : Int) := Int.natCast_nonneg _
  have hi1 : (i : Int) < (Y.n r : Int) := Int.ofNat_lt.2 HN.out.2.1
  have c0 : wb.cell? ⟨Y.rb, 0, none⟩ = some (.slice (some ad) Y.rs.length Y.cR) := by rw [← eA]; exact HB1.out.rec_.cell 0
  have e1' : wb.cell? ⟨(ad.add (r * 2)).block, (ad.add (r * 2)).off + 1, none⟩ = some (.slice (some a1) (Y.n r) c1) := e1
  have HWC : ∀ wc : World, wc = wb.alloc (.cells #[.int .i64 5, .int .u64 nd.f1.f0, .int .u64 nd.f1.f1, .int .u64 nd.f1.f2, .int .u64 nd.f1.f3, .int .i64 nd.f2, .string nd.f3] 55) → Hid (NS Y s (tick d s) w wc ∧ Blk wc wb.heap.size 55 [.int .i64 5, .int .u64 nd.f1.f0, .int .u64 nd.f1.f1, .int .u64 nd.f1.f2, .int .u64 nd.f1.f3, .int .i64 nd.f2, .string nd.f3] ∧ w.heap.size < wb.heap.size) := by
    rintro wc rfl
    exact ⟨HB1.out.more (World.grownBy_alloc wb _ none), Blk.alloc wb _ _, HB1.out.sz⟩
  clear hnd hop e0 e1 hl1 hc1 hbx eA
  go_upto_region 12 with (fail)
  generalize hwc : wb.alloc _ = wc
  have HC := HWC wc hwc.symm
  clear hwc HWC c0 e1' n0 n1 n2 n3 n4 n5 n6 HB1 hi1
  generalize wb.heap.size = bx at *
  obtain ⟨q, hq, g1, g2⟩ := HC.out.1.rn.parts r HN.out.1
  obtain ⟨g3, g4⟩ := g2 i HN.out.2.1
  rw [HPT.out.1] at g3
  rw [HPT.out.2] at g4
  have c2 : wc.cell? ⟨Y.rb, 2, none⟩ = some (.slice (some Y.PA) Y.rs.length Y.cP) := HC.out.1.rec_.cell 2
  have hi1 : (i : Int) < (Y.n r : Int) := Int.ofNat_lt.2 HN.out.2.1
  have b0 : wc.cell? ⟨bx, 0, none⟩ = some (.int .i64 5) := HC.out.2.1.cell 0
  clear g2
  go_quiet (fail)
  have HD : Hid (NS Y s (tick d s) w (wc.drewN nq) ∧ Blk (wc.drewN nq) bx 55 [.int .i64 5, .int .u64 nd.f1.f0, .int .u64 nd.f1.f1, .int .u64 nd.f1.f2, .int .u64 nd.f1.f3, .int .i64 nd.f2, .string nd.f3] ∧ w.heap.size < bx) := by
    have g := Go.X.grown_of_below (Below.drewQ (w := wc) ⟨nq, rfl⟩) none
    exact ⟨HC.out.1.more g, HC.out.2.1.grown g (by simp), HC.out.2.2⟩
  clear b0 c2 g1 g3 g4 hr0 hr1 hi0 hi1 HC
  generalize wc.drewN nq = wd at *
  have b0 : wd.cell? ⟨bx, 0, none⟩ = some (.int .i64 5) := HD.out.2.1.cell 0
  have HTR' : Hid (tr (Y.b r) i = .alt (tr (Y.b r) k) (tr (Y.b r) m)) := by show _ = _; rw [HTR.out, HCN.out]; simp [cnOf, mk, HOP.out]
  have HLW : Hid (low Y.rs.length (tr (Y.b r) k) ∧ low Y.rs.length (tr (Y.b r) m)) := by have := HLOW.out; rw [HTR'.out] at this; exact this
  have hdw : wrap64 ((d : Int) + 1) = ((d + 1 : Nat) : Int) := by have := HDD.out.2.1; rw [IntWalk.wrap64_in _ (by omega)]; rfl
  go_wp2_with (fail)
  refine (HIH.out r k (p) (d + 1) (tick d s) _ HN.out.1 HMN.out.2 HLW.out.1 HI.out.1.1 HP.out (by have := HDD.out.1; omega) HI.out.1.2.1 HI.out.1.2.2 HD.out.1.rn).mono ?_
  rintro e w1 ⟨v1, rfl, hg, hr, ho⟩
  obtain ⟨ax, cx, hv⟩ := Go.X.own_slice ho
  subst hv
  have HOx := Lib.hid (ho.low HD.out.1.gr.size)
  have HEx := Lib.hid (HD.out.1.next hg hr.rec_)
  clear hg hr ho
  generalize hx : ev Y.e Y.l f (tr (Y.b r) k) p (d + 1) (tick d s) = qx at *
  obtain ⟨⟨xk, xe, xl, xf, xt⟩, xs⟩ := qx
  dsimp only [rsC] at *
  have hok := HI.out.2 (tr (Y.b r) k) p
  rw [hx] at hok
  have HJ := Lib.hid (secondM HI.out.1.1 HI.out.1.2.1 HI.out.1.2.2 hok)
  clear hok b0
  have HX := Lib.hid hx; clear hx
  have HKx' : ∀ wk : World, wk = w1.alloc (.cells #[.int .i64 xk, .int .i64 (xe : Nat), .string xl, .slice ax xf.length cx] 31) → Hid (NS Y s xs w wk ∧ Blk wk w1.heap.size 31 (rsC xk xe xl (.slice ax xf.length cx)) ∧ OwnF wk w.heap.size (.slice ax xf.length cx) xf ∧ w.heap.size < w1.heap.size) := by
    rintro wk rfl
    have g := World.grownBy_alloc w1 (.cells #[.int .i64 xk, .int .i64 (xe : Nat), .string xl, .slice ax xf.length cx] 31) none
    exact ⟨HEx.out.more g, Blk.alloc w1 _ _, HOx.out.more g, HEx.out.sz⟩
  go_upto_region 34 with (fail)
  generalize hwk : w1.alloc (.cells #[.int .i64 xk, .int .i64 (xe : Nat), .string xl, .slice ax xf.length cx] 31) = wk
  have HKx := HKx' wk hwk.symm
  clear HKx' hwk HEx HOx
  generalize w1.heap.size = b9 at *
  obtain ⟨⟨x0, x1, x2, x3⟩, xf0, xf1, xf2, xf3⟩ := blk4 HKx.out.2.1
  by_cases hk : xk = 0
  · have hkb : (xk == (0 : Int)) = true := by rw [hk]; rfl
    go_wp2_with (fail)
    refine (HIH.out r m (p) (d + 1) (xs) _ HN.out.1 HMN.out.1 HLW.out.2 HJ.out.1 HP.out (by have := HDD.out.1; omega) HJ.out.2.1 HJ.out.2.2 HKx.out.1.rn).mono ?_
    rintro e w2 ⟨v1, rfl, hg, hr, ho⟩
    obtain ⟨ay, cy, hv⟩ := Go.X.own_slice ho
    subst hv
    have HOy := Lib.hid (ho.low HKx.out.1.gr.size)
    have HEy := Lib.hid (HKx.out.1.next hg hr.rec_)
    clear hg hr ho
    generalize hy : ev Y.e Y.l f (tr (Y.b r) m) p (d + 1) xs = qy at *
    obtain ⟨⟨yk, ye, yl, yf, yt⟩, ys⟩ := qy
    dsimp only [rsC] at *
    have HV : Hid (ev Y.e Y.l (f + 1) (tr (Y.b r) i) p d s = (⟨yk, ye, yl, yf, yt⟩, ys)) := by show _ = _; rw [HTR'.out, ev_alt _ _ _ _ HS.out, HX.out, if_neg (by simp [hk]), hy]
    clear hy HKx x0 x1 x2 x3 xf0 xf1 xf2 xf3
    obtain ⟨⟨z0, z1, z2, z3⟩, y0, y1, y2, y3⟩ := blk4 (HEy.out).res
    go_wp2
    clear z0 z1 z2 z3 y0 y1 y2 y3
    (try simp only [Exit.inBlock, Exit.then])
    show bodyPost _ _ _ _ _ (set4 w2 w.heap.size (.int .i64 yk) (.int .i64 ((ye : Nat) : Int)) (.string yl) (.slice ay yf.length cy))
    obtain ⟨wz, hwz⟩ : ∃ wz, wz = set4 w2 w.heap.size (.int .i64 yk) (.int .i64 ((ye : Nat) : Int)) (.string yl) (.slice ay yf.length cy) := ⟨_, rfl⟩
    rw [← hwz]
    obtain ⟨hT, hB⟩ := NS.put (tr := yt) (HEy.out) HOy.out hwz
    obtain ⟨⟨r0, r1, r2, r3⟩, _⟩ := blk4 hB
    clear hwz hB
    refine bodyPost_ret (v := .agg (rsC yk (ye) yl (.slice ay yf.length cy)).toArray) (by simp [results, rsC, Try.results21, go_sem, r0, r1, r2, r3]) rfl ?_
    rw [HV.out]
    exact hT
  · have hkb : (xk == (0 : Int)) = false := beq_eq_false_iff_ne.2 hk
    have HV : Hid (ev Y.e Y.l (f + 1) (tr (Y.b r) i) p d s = (⟨xk, xe, xl, xf, xt⟩, xs)) := by show _ = _; rw [HTR'.out, ev_alt _ _ _ _ HS.out, HX.out, if_pos hk]
    obtain ⟨⟨z0, z1, z2, z3⟩, y0, y1, y2, y3⟩ := blk4 (HKx.out.1).res
    go_wp2
    clear z0 z1 z2 z3 y0 y1 y2 y3
    (try simp only [Exit.inBlock, Exit.then])
    show bodyPost _ _ _ _ _ (set4 wk w.heap.size (.int .i64 xk) (.int .i64 ((xe : Nat) : Int)) (.string xl) (.slice ax xf.length cx))
    obtain ⟨wz, hwz⟩ : ∃ wz, wz = set4 wk w.heap.size (.int .i64 xk) (.int .i64 ((xe : Nat) : Int)) (.string xl) (.slice ax xf.length cx) := ⟨_, rfl⟩
    rw [← hwz]
    obtain ⟨hT, hB⟩ := NS.put (tr := xt) (HKx.out.1) HKx.out.2.2.1 hwz
    obtain ⟨⟨r0, r1, r2, r3⟩, _⟩ := blk4 hB
    clear hwz hB
    refine bodyPost_ret (v := .agg (rsC xk (xe) xl (.slice ax xf.length cx)).toArray) (by simp [results, rsC, Try.results21, go_sem, r0, r1, r2, r3]) rfl ?_
    rw [HV.out]
    exact hT
set_option maxRecDepth 100000 in
set_option maxHeartbeats 4000000 in
theorem node_seq (Y : Cy) (F : Fy Y) (f : Nat) (IH : NodeC Y f) (r i p d : Nat) (s : St) (w : World) (hr : r < Y.rs.length) (hi : i < Y.n r) (hlw : low Y.rs.length (tr (Y.b r) i)) (hop : (cd (cr Y.rs r).f1 i).f0 = 4) (hf : 2 * (Y.l.steps - s.steps) + 1 ≤ f + 1) (hp : p ≤ Y.inp.size) (hd : d ≤ Y.l.depth) (hd2 : s.depth ≤ Y.l.depth) (hs2 : s.steps < Y.l.steps) (hs : ¬ stop Y.l d s = true) (hn : Rm Y s w) : Calls Try.prog 21 #[.pointer (some ⟨Y.rb, 0, none⟩), .int .i64 (r : Nat), .int .i64 (i : Nat), .int .i64 (p : Nat), .int .i64 (d : Nat)] w (ToldM Y w (ev Y.e Y.l (f + 1) (tr (Y.b r) i) p d s)) := by
  have HF := Lib.hid F; clear F
  have HIH := Lib.hid IH; clear IH
  have HG := Lib.hid (go_on hs)
  have HS := Lib.hid hs; clear hs
  have HZ := Lib.hid (NS.start hn); clear hn
  have HI := Lib.hid (in_stepM hf hs2 hd hd2)
  have HP := Lib.hid hp
  have HF2 : Hid (2 * (Y.l.steps - (tick d s).steps) + 2 ≤ f) := by show _ ≤ _; simp only [tick]; omega
  have HDD : Hid (d ≤ Y.l.depth ∧ d ≤ 1048576 ∧ p ≤ 1048576 ∧ Y.l.depth ≤ 1048576 ∧ Y.l.steps ≤ 1048576) := ⟨hd, Nat.le_trans hd HF.out.depth, Nat.le_trans hp HF.out.short, HF.out.depth, HF.out.steps⟩
  have HN : Hid (r < Y.rs.length ∧ i < Y.n r ∧ Y.n r ≤ 1048576 ∧ Y.rs.length ≤ 1048576) := ⟨hr, hi, HF.out.good.len r hr, HF.out.good.few.2⟩
  have HB : Hid (fits (Y.b r) (i + 1)) := (HF.out.good.fits r hr).low hi
  have HCN : Hid (cn (Y.b r) i = cnOf (cd (cr Y.rs r).f1 i)) := cn_op hi
  have HLOW := Lib.hid hlw; clear hlw
  have HA2 : Hid (ar (cn (Y.b r) i).op = 2) := by show _ = _; rw [HCN.out]; simp [cnOf, ar, hop]
  obtain ⟨m, hm⟩ : ∃ m, i = m + 1 := ⟨i - 1, by have := (part2 HB.out HA2.out).1; omega⟩
  obtain ⟨k, hk⟩ : ∃ k, beg (Y.b r) m = k + 1 := ⟨beg (Y.b r) m - 1, by have := (part2 HB.out HA2.out).2.1; rw [hm, Nat.add_sub_cancel] at this; omega⟩
  have HPT : Hid (pa (Y.b r) i = (k : Int) ∧ pb (Y.b r) i = (m : Int)) := by rw [pa, pb, HA2.out, hm, Nat.add_sub_cancel, hk]; exact ⟨by simp, by simp⟩
  have HTR : Hid (tr (Y.b r) i = mk (cn (Y.b r) i) (tr (Y.b r) k) (tr (Y.b r) m)) := by show _ = _; rw [(part2 HB.out HA2.out).2.2.2.1, hm, Nat.add_sub_cancel, hk, Nat.add_sub_cancel]
  have HMN : Hid (m < Y.n r ∧ k < Y.n r) := by have := (part2 HB.out HA2.out).2.2.1; rw [hm, Nat.add_sub_cancel, hk] at this; exact ⟨by omega, by omega⟩
  clear hm hk
  have e1 : s.err = 0 := HG.out.1
  have h2' : ¬ (Y.l.depth : Int) < (d : Int) := by have := HG.out.2.1; omega
  have h3' : ¬ (Y.l.steps : Int) ≤ (s.steps : Int) := by have := HG.out.2.2; omega
  have hws : wrap64 ((s.steps : Int) + 1) = ((s.steps + 1 : Nat) : Int) := by have := HDD.out; have := HG.out.2.2; rw [IntWalk.wrap64_in _ (by omega)]; rfl
  clear hf hp hd hd2 hs2 hr hi
  go_enter Try.func21, Try.ntmps21
  go_upto_region 1 with (fail)
  generalize hwa : w.alloc (.cells #[.int .i64 0, .int .i64 0, .string ⟨#[]⟩, .slice none 0 0] 31) = wa
  have HA : Hid (NS Y s s w wa) := by rw [← hwa]; exact HZ.out
  clear hwa HZ
  obtain ⟨⟨c4, c5, c6, c7, c8⟩, f6, f7, f8⟩ := rec9 HA.out.rec_
  go_wp2
  go_quiet (fail)
  have HW : ∀ x y : Int, x = ((s.steps + 1 : Nat) : Int) → y = ((max s.depth d : Nat) : Int) → Hid (NS Y s (tick d s) w (((wa.drewN nq).setCell ⟨Y.rb, 7, none⟩ (.int .i64 x)).setCell ⟨Y.rb, 6, none⟩ (.int .i64 y))) := by
    intro x y hx hy
    have h1 := HA.out.more (Go.X.grown_of_below (Below.drewQ ⟨nq, rfl⟩) none)
    refine h1.next (Fr4.grown2 (grown_setCell _ ⟨Y.rb, 7, none⟩ _) (grown_setCell _ ⟨Y.rb, 6, none⟩ _)) ?_
    rw [← tickM hx hy]
    exact (h1.rec_.setCell 7 _).setCell 6 _
  go_upto_region 11 with (fail)
  generalize hwb : ((wa.drewN nq).setCell ⟨Y.rb, 7, none⟩ _).setCell ⟨Y.rb, 6, none⟩ _ = wb
  have HB1 : Hid (NS Y s (tick d s) w wb) := by
    rw [← hwb]
    refine HW _ _ ?_ ?_
    · omega
    · omega
  clear hwb HW c4 c5 c6 c7 c8 f6 f7 f8 e1 h2' h3' hws HA
  obtain ⟨ad, A1, c1, eA, e0, e1, hl1, hc1⟩ := cr_at (Kd.C_below HF.out.C HB1.out.rn.bel) r HN.out.1
  obtain ⟨a1, eA1, n0, n1, n2, n3, n4, n5, n6⟩ := cd_at hc1 i HN.out.2.1
  subst eA1
  have hbx : w.heap.size < wb.heap.size := HB1.out.sz
  rw [hop] at n0
  obtain ⟨nd, hnd⟩ : ∃ nd, cd (cr Y.rs r).f1 i = nd := ⟨_, rfl⟩
  rw [hnd] at HCN hop n1 n2 n3 n4 n5 n6
  have HOP := Lib.hid hop
  have HND := Lib.hid hnd
  have hr0 : (0 : Int) ≤ (r : Int) := Int.natCast_nonneg _
  have hr1 : (r : Int) < (Y.rs.length : Int) := Int.ofNat_lt.2 HN.out.1
  have hi0 : (0 : Int) ≤ (i : Int) := Int.natCast_nonneg _
  have hi1 : (i : Int) < (Y.n r : Int) := Int.ofNat_lt.2 HN.out.2.1
  have c0 : wb.cell? ⟨Y.rb, 0, none⟩ = some (.slice (some ad) Y.rs.length Y.cR) := by rw [← eA]; exact HB1.out.rec_.cell 0
  have e1' : wb.cell? ⟨(ad.add (r * 2)).block, (ad.add (r * 2)).off + 1, none⟩ = some (.slice (some a1) (Y.n r) c1) := e1
  have HWC : ∀ wc : World, wc = wb.alloc (.cells #[.int .i64 4, .int .u64 nd.f1.f0, .int .u64 nd.f1.f1, .int .u64 nd.f1.f2, .int .u64 nd.f1.f3, .int .i64 nd.f2, .string nd.f3] 55) → Hid (NS Y s (tick d s) w wc ∧ Blk wc wb.heap.size 55 [.int .i64 4, .int .u64 nd.f1.f0, .int .u64 nd.f1.f1, .int .u64 nd.f1.f2, .int .u64 nd.f1.f3, .int .i64 nd.f2, .string nd.f3] ∧ w.heap.size < wb.heap.size) := by
    rintro wc rfl
    exact ⟨HB1.out.more (World.grownBy_alloc wb _ none), Blk.alloc wb _ _, HB1.out.sz⟩
  clear hnd hop e0 e1 hl1 hc1 hbx eA
  go_upto_region 12 with (fail)
  generalize hwc : wb.alloc _ = wc
  have HC := HWC wc hwc.symm
  clear hwc HWC c0 e1' n0 n1 n2 n3 n4 n5 n6 HB1 hi1
  generalize wb.heap.size = bx at *
  obtain ⟨q, hq, g1, g2⟩ := HC.out.1.rn.parts r HN.out.1
  obtain ⟨g3, g4⟩ := g2 i HN.out.2.1
  rw [HPT.out.1] at g3
  rw [HPT.out.2] at g4
  have c2 : wc.cell? ⟨Y.rb, 2, none⟩ = some (.slice (some Y.PA) Y.rs.length Y.cP) := HC.out.1.rec_.cell 2
  have hi1 : (i : Int) < (Y.n r : Int) := Int.ofNat_lt.2 HN.out.2.1
  have b0 : wc.cell? ⟨bx, 0, none⟩ = some (.int .i64 4) := HC.out.2.1.cell 0
  clear g2
  go_quiet (fail)
  have HD : Hid (NS Y s (tick d s) w (wc.drewN nq) ∧ Blk (wc.drewN nq) bx 55 [.int .i64 4, .int .u64 nd.f1.f0, .int .u64 nd.f1.f1, .int .u64 nd.f1.f2, .int .u64 nd.f1.f3, .int .i64 nd.f2, .string nd.f3] ∧ w.heap.size < bx) := by
    have g := Go.X.grown_of_below (Below.drewQ (w := wc) ⟨nq, rfl⟩) none
    exact ⟨HC.out.1.more g, HC.out.2.1.grown g (by simp), HC.out.2.2⟩
  clear b0 c2 g1 g3 g4 hr0 hr1 hi0 hi1 HC
  generalize wc.drewN nq = wd at *
  have b0 : wd.cell? ⟨bx, 0, none⟩ = some (.int .i64 4) := HD.out.2.1.cell 0
  have HTR' : Hid (tr (Y.b r) i = .seq (tr (Y.b r) k) (tr (Y.b r) m)) := by show _ = _; rw [HTR.out, HCN.out]; simp [cnOf, mk, HOP.out]
  have HLW : Hid (low Y.rs.length (tr (Y.b r) k) ∧ low Y.rs.length (tr (Y.b r) m)) := by have := HLOW.out; rw [HTR'.out] at this; exact this
  have hdw : wrap64 ((d : Int) + 1) = ((d + 1 : Nat) : Int) := by have := HDD.out.2.1; rw [IntWalk.wrap64_in _ (by omega)]; rfl
  go_wp2_with (fail)
  refine (HIH.out r k (p) (d + 1) (tick d s) _ HN.out.1 HMN.out.2 HLW.out.1 HI.out.1.1 HP.out (by have := HDD.out.1; omega) HI.out.1.2.1 HI.out.1.2.2 HD.out.1.rn).mono ?_
  rintro e w1 ⟨v1, rfl, hg, hr, ho⟩
  obtain ⟨ax, cx, hv⟩ := Go.X.own_slice ho
  subst hv
  have HOx := Lib.hid (ho.low HD.out.1.gr.size)
  have HEx := Lib.hid (HD.out.1.next hg hr.rec_)
  clear hg hr ho
  generalize hx : ev Y.e Y.l f (tr (Y.b r) k) p (d + 1) (tick d s) = qx at *
  obtain ⟨⟨xk, xe, xl, xf, xt⟩, xs⟩ := qx
  dsimp only [rsC] at *
  have hok := HI.out.2 (tr (Y.b r) k) p
  rw [hx] at hok
  have HJ := Lib.hid (secondM HI.out.1.1 HI.out.1.2.1 HI.out.1.2.2 hok)
  have HXE : Hid (xe ≤ Y.inp.size) := hok.en HP.out
  have HOK := Lib.hid hok
  clear hok b0
  have HX := Lib.hid hx; clear hx
  have HKx' : ∀ wk : World, wk = w1.alloc (.cells #[.int .i64 xk, .int .i64 (xe : Nat), .string xl, .slice ax xf.length cx] 31) → Hid (NS Y s xs w wk ∧ Blk wk w1.heap.size 31 (rsC xk xe xl (.slice ax xf.length cx)) ∧ OwnF wk w.heap.size (.slice ax xf.length cx) xf ∧ w.heap.size < w1.heap.size) := by
    rintro wk rfl
    have g := World.grownBy_alloc w1 (.cells #[.int .i64 xk, .int .i64 (xe : Nat), .string xl, .slice ax xf.length cx] 31) none
    exact ⟨HEx.out.more g, Blk.alloc w1 _ _, HOx.out.more g, HEx.out.sz⟩
  go_upto_region 26 with (fail)
  generalize hwk : w1.alloc (.cells #[.int .i64 xk, .int .i64 (xe : Nat), .string xl, .slice ax xf.length cx] 31) = wk
  have HKx := HKx' wk hwk.symm
  clear HKx' hwk HEx HOx
  generalize w1.heap.size = b9 at *
  obtain ⟨⟨x0, x1, x2, x3⟩, xf0, xf1, xf2, xf3⟩ := blk4 HKx.out.2.1
  by_cases hk : xk = 1
  · have hkb : (xk == (1 : Int)) = true := by rw [hk]; rfl
    go_wp2_with (fail)
    refine (HIH.out r m (xe) (d + 1) (xs) _ HN.out.1 HMN.out.1 HLW.out.2 HJ.out.1 HXE.out (by have := HDD.out.1; omega) HJ.out.2.1 HJ.out.2.2 HKx.out.1.rn).mono ?_
    rintro e w2 ⟨v1, rfl, hg, hr, ho⟩
    obtain ⟨ay, cy, hv⟩ := Go.X.own_slice ho
    subst hv
    have HOy := Lib.hid (ho.low HKx.out.1.gr.size)
    have HEy := Lib.hid (HKx.out.1.next hg hr.rec_)
    have HC : Hid (Blk w2 b9 31 (rsC xk xe xl (.slice ax xf.length cx)) ∧ OwnF w2 w.heap.size (.slice ax xf.length cx) xf ∧ w.heap.size < b9) :=
      ⟨HKx.out.2.1.grown hg (by have := HKx.out.1.rn0.rec_.lt; have := HKx.out.2.2.2; intro e; injection e with e; omega), HKx.out.2.2.1.kept hg HKx.out.1.rec_ (by decide), HKx.out.2.2.2⟩
    clear hg hr ho
    generalize hy : ev Y.e Y.l f (tr (Y.b r) m) xe (d + 1) xs = qy at *
    obtain ⟨⟨yk, ye, yl, yf, yt⟩, ys⟩ := qy
    dsimp only [rsC] at *
    have hoky := ev_ok Y.e Y.l f (tr (Y.b r) m) xe (d + 1) xs HJ.out.1
    rw [hy] at hoky
    have HNUM : Hid (xf.length + yf.length ≤ 1048576) := by
      have h1 := HOK.out.few
      have h2 := hoky.few
      have h3 := hoky.max (HOK.out.max HI.out.1.2.2)
      have h6 := HF.out.steps
      simp only at h1 h2 h3
      show _ ≤ _
      omega
    have HV : Hid (ev Y.e Y.l (f + 1) (tr (Y.b r) i) p d s = if yk = 1 then (⟨yk, ye, yl, xf ++ yf, yt + xt⟩, ys) else (⟨yk, ye, yl, yf, yt⟩, ys)) := by show _ = _; rw [HTR'.out, ev_seq _ _ _ _ HS.out, HX.out, if_neg (by simp [hk])]; simp only; rw [hy]
    clear hoky hy HKx x0 x1 x2 x3 xf0 xf1 xf2 xf3
    have HKy' : ∀ wk : World, wk = w2.alloc (.cells #[.int .i64 yk, .int .i64 (ye : Nat), .string yl, .slice ay yf.length cy] 31) → Hid (NS Y s ys w wk ∧ Blk wk w2.heap.size 31 (rsC yk ye yl (.slice ay yf.length cy)) ∧ OwnF wk w.heap.size (.slice ay yf.length cy) yf ∧ w.heap.size < w2.heap.size) := by
      rintro wk rfl
      have g := World.grownBy_alloc w2 (.cells #[.int .i64 yk, .int .i64 (ye : Nat), .string yl, .slice ay yf.length cy] 31) none
      exact ⟨HEy.out.more g, Blk.alloc w2 _ _, HOy.out.more g, HEy.out.sz⟩
    have HC' : ∀ wm : World, wm = w2.alloc (.cells #[.int .i64 yk, .int .i64 (ye : Nat), .string yl, .slice ay yf.length cy] 31) → Hid (Blk wm b9 31 (rsC xk xe xl (.slice ax xf.length cx)) ∧ OwnF wm w.heap.size (.slice ax xf.length cx) xf ∧ w.heap.size < b9 ∧ b9 < w2.heap.size) := by
      rintro wm rfl
      have g := World.grownBy_alloc w2 (.cells #[.int .i64 yk, .int .i64 (ye : Nat), .string yl, .slice ay yf.length cy] 31) none
      exact ⟨HC.out.1.grown g (by simp), HC.out.2.1.more g, HC.out.2.2, HC.out.1.lt⟩
    go_upto_region 29 with (fail)
    generalize hwk : w2.alloc (.cells #[.int .i64 yk, .int .i64 (ye : Nat), .string yl, .slice ay yf.length cy] 31) = wm
    have HKy := HKy' wm hwk.symm
    have HCm := HC' wm hwk.symm
    clear HC HC'
    clear HKy' hwk HEy HOy
    generalize w2.heap.size = b8 at *
    obtain ⟨⟨y0, y1, y2, y3⟩, yf0, yf1, yf2, yf3⟩ := blk4 HKy.out.2.1
    by_cases hk2 : yk = 1
    · have hkb2 : (yk == (1 : Int)) = true := by rw [hk2]; rfl
      obtain ⟨⟨x0, x1, x2, x3⟩, _, _, _, _⟩ := blk4 HCm.out.1
      go_wp2_with (first
        | (at_builtin; refine appendRow rfl (.tmp 187) (.tmp 189) 29 63 rfl w.heap.size _ _ 4 40 Try.underlying29 info63' rfl _ xf.length _ rfl HCm.out.2.1 _ yf.length _ rfl HKy.out.2.2.1 (capsOf_one _) ?_ ?_ ?_ ?_)
        | fail)
      · have := HNUM.out; simp only [maxLen]; omega
      · have := HNUM.out; omega
      · exact HKy.out.1.gr.size
      intro v' w3 hown hap
      obtain ⟨a9, c9, hv9⟩ := Go.X.own_slice hown
      subst hv9
      have HG : Hid (NS Y s ys w w3 ∧ OwnF w3 w.heap.size (.slice a9 (xf.length + yf.length) c9) (xf ++ yf) ∧ Blk w3 b8 31 (rsC yk ye yl (.slice ay yf.length cy)) ∧ w.heap.size < b8) :=
        ⟨HKy.out.1.row HCm.out.2.1 hap.grown, OwnF.appended hown, hap.keeps_lt HKy.out.2.1 (fun e => own_other HCm.out.2.1 HKy.out.2.1 (by decide) e.symm), HKy.out.2.2.2⟩
      clear hown hap HKy HCm x0 x1 x2 x3 y0 y1 y2 y3 yf0 yf1 yf2 yf3
      obtain ⟨⟨y0, y1, y2, y3⟩, y4, y5, y6, y7⟩ := blk4 HG.out.2.2.1
      obtain ⟨⟨z0, z1, z2, z3⟩, u0, u1, u2, u3⟩ := blk4 HG.out.1.res
      have n1 : ¬ b8 = w.heap.size := by have := HG.out.2.2.2; omega
      have n2 : ¬ w.heap.size = b8 := by have := HG.out.2.2.2; omega
      go_wp2
      clear y0 y1 y2 y3 y4 y5 y6 y7 z0 z1 z2 z3 u0 u1 u2 u3 n1 n2
      have HFIN : Hid (NS Y s ys w (w3.setCell ⟨b8, 3, none⟩ (.slice a9 (xf.length + yf.length) c9)) ∧ OwnF (w3.setCell ⟨b8, 3, none⟩ (.slice a9 (xf.length + yf.length) c9)) w.heap.size (.slice a9 (xf.length + yf.length) c9) (xf ++ yf)) := by
        have g := grown_setCell w3 ⟨b8, 3, none⟩ (.slice a9 (xf.length + yf.length) c9)
        exact ⟨HG.out.1.own g HG.out.2.2.2, HG.out.2.1.kept g HG.out.2.2.1 (by decide)⟩
      (try simp only [Exit.inBlock, Exit.then])
      show bodyPost _ _ _ _ _ (set4 (w3.setCell ⟨b8, 3, none⟩ (.slice a9 (xf.length + yf.length) c9)) w.heap.size (.int .i64 1) (.int .i64 ((ye : Nat) : Int)) (.string yl) (.slice a9 (xf.length + yf.length) c9))
      obtain ⟨wz, hwz⟩ : ∃ wz, wz = set4 (w3.setCell ⟨b8, 3, none⟩ (.slice a9 (xf.length + yf.length) c9)) w.heap.size (.int .i64 1) (.int .i64 ((ye : Nat) : Int)) (.string yl) (.slice a9 (xf.length + yf.length) c9) := ⟨_, rfl⟩
      rw [← hwz]
      obtain ⟨hT, hB⟩ := NS.put (tr := yt + xt) (HFIN.out.1) HFIN.out.2 hwz
      obtain ⟨⟨r0, r1, r2, r3⟩, _⟩ := blk4 hB
      clear hwz hB
      refine bodyPost_ret (v := .agg (rsC 1 (ye) yl (.slice a9 (xf.length + yf.length) c9)).toArray) (by simp [results, rsC, Try.results21, go_sem, r0, r1, r2, r3]) rfl ?_
      rw [HV.out, if_pos hk2, hk2]
      exact hT
    · have hkb2 : (yk == (1 : Int)) = false := beq_eq_false_iff_ne.2 hk2
      obtain ⟨⟨z0, z1, z2, z3⟩, y0, y1, y2, y3⟩ := blk4 (HKy.out.1).res
      go_wp2
      clear z0 z1 z2 z3 y0 y1 y2 y3
      (try simp only [Exit.inBlock, Exit.then])
      show bodyPost _ _ _ _ _ (set4 wm w.heap.size (.int .i64 yk) (.int .i64 ((ye : Nat) : Int)) (.string yl) (.slice ay yf.length cy))
      obtain ⟨wz, hwz⟩ : ∃ wz, wz = set4 wm w.heap.size (.int .i64 yk) (.int .i64 ((ye : Nat) : Int)) (.string yl) (.slice ay yf.length cy) := ⟨_, rfl⟩
      rw [← hwz]
      obtain ⟨hT, hB⟩ := NS.put (tr := yt) (HKy.out.1) HKy.out.2.2.1 hwz
      obtain ⟨⟨r0, r1, r2, r3⟩, _⟩ := blk4 hB
      clear hwz hB
      refine bodyPost_ret (v := .agg (rsC yk (ye) yl (.slice ay yf.length cy)).toArray) (by simp [results, rsC, Try.results21, go_sem, r0, r1, r2, r3]) rfl ?_
      rw [HV.out, if_neg hk2]
      exact hT
  · have hkb : (xk == (1 : Int)) = false := beq_eq_false_iff_ne.2 hk
    have HV : Hid (ev Y.e Y.l (f + 1) (tr (Y.b r) i) p d s = (⟨xk, xe, xl, xf, xt⟩, xs)) := by show _ = _; rw [HTR'.out, ev_seq _ _ _ _ HS.out, HX.out, if_pos hk]
    obtain ⟨⟨z0, z1, z2, z3⟩, y0, y1, y2, y3⟩ := blk4 (HKx.out.1).res
    go_wp2
    clear z0 z1 z2 z3 y0 y1 y2 y3
    (try simp only [Exit.inBlock, Exit.then])
    show bodyPost _ _ _ _ _ (set4 wk w.heap.size (.int .i64 xk) (.int .i64 ((xe : Nat) : Int)) (.string xl) (.slice ax xf.length cx))
    obtain ⟨wz, hwz⟩ : ∃ wz, wz = set4 wk w.heap.size (.int .i64 xk) (.int .i64 ((xe : Nat) : Int)) (.string xl) (.slice ax xf.length cx) := ⟨_, rfl⟩
    rw [← hwz]
    obtain ⟨hT, hB⟩ := NS.put (tr := xt) (HKx.out.1) HKx.out.2.2.1 hwz
    obtain ⟨⟨r0, r1, r2, r3⟩, _⟩ := blk4 hB
    clear hwz hB
    refine bodyPost_ret (v := .agg (rsC xk (xe) xl (.slice ax xf.length cx)).toArray) (by simp [results, rsC, Try.results21, go_sem, r0, r1, r2, r3]) rfl ?_
    rw [HV.out]
    exact hT
set_option maxRecDepth 100000 in
set_option maxHeartbeats 4000000 in
theorem node_cap (Y : Cy) (F : Fy Y) (f : Nat) (IH : NodeC Y f) (r i p d : Nat) (s : St) (w : World) (hr : r < Y.rs.length) (hi : i < Y.n r) (hlw : low Y.rs.length (tr (Y.b r) i)) (hop : (cd (cr Y.rs r).f1 i).f0 = 8) (hf : 2 * (Y.l.steps - s.steps) + 1 ≤ f + 1) (hp : p ≤ Y.inp.size) (hd : d ≤ Y.l.depth) (hd2 : s.depth ≤ Y.l.depth) (hs2 : s.steps < Y.l.steps) (hs : ¬ stop Y.l d s = true) (hn : Rm Y s w) : Calls Try.prog 21 #[.pointer (some ⟨Y.rb, 0, none⟩), .int .i64 (r : Nat), .int .i64 (i : Nat), .int .i64 (p : Nat), .int .i64 (d : Nat)] w (ToldM Y w (ev Y.e Y.l (f + 1) (tr (Y.b r) i) p d s)) := by
  have HF := Lib.hid F; clear F
  have HIH := Lib.hid IH; clear IH
  have HG := Lib.hid (go_on hs)
  have HS := Lib.hid hs; clear hs
  have HZ := Lib.hid (NS.start hn); clear hn
  have HI := Lib.hid (in_stepM hf hs2 hd hd2)
  have HP := Lib.hid hp
  have HF2 : Hid (2 * (Y.l.steps - (tick d s).steps) + 2 ≤ f) := by show _ ≤ _; simp only [tick]; omega
  have HDD : Hid (d ≤ Y.l.depth ∧ d ≤ 1048576 ∧ p ≤ 1048576 ∧ Y.l.depth ≤ 1048576 ∧ Y.l.steps ≤ 1048576) := ⟨hd, Nat.le_trans hd HF.out.depth, Nat.le_trans hp HF.out.short, HF.out.depth, HF.out.steps⟩
  have HN : Hid (r < Y.rs.length ∧ i < Y.n r ∧ Y.n r ≤ 1048576 ∧ Y.rs.length ≤ 1048576) := ⟨hr, hi, HF.out.good.len r hr, HF.out.good.few.2⟩
  have HB : Hid (fits (Y.b r) (i + 1)) := (HF.out.good.fits r hr).low hi
  have HCN : Hid (cn (Y.b r) i = cnOf (cd (cr Y.rs r).f1 i)) := cn_op hi
  have HLOW := Lib.hid hlw; clear hlw
  have HA1 : Hid (ar (cn (Y.b r) i).op = 1) := by show _ = _; rw [HCN.out]; simp [cnOf, ar, hop]
  obtain ⟨m, hm⟩ : ∃ m, i = m + 1 := ⟨i - 1, by have := (part1 HB.out HA1.out).1; omega⟩
  have HPT : Hid (pa (Y.b r) i = (m : Int) ∧ pb (Y.b r) i = -1) := by rw [pa, pb, HA1.out, hm]; exact ⟨by simp, rfl⟩
  have HTR : Hid (tr (Y.b r) i = mk (cn (Y.b r) i) (tr (Y.b r) m) .emp) := by show _ = _; rw [(part1 HB.out HA1.out).2.1, hm, Nat.add_sub_cancel]
  have HMN : Hid (m < Y.n r) := by show _ < _; omega
  clear hm
  have e1 : s.err = 0 := HG.out.1
  have h2' : ¬ (Y.l.depth : Int) < (d : Int) := by have := HG.out.2.1; omega
  have h3' : ¬ (Y.l.steps : Int) ≤ (s.steps : Int) := by have := HG.out.2.2; omega
  have hws : wrap64 ((s.steps : Int) + 1) = ((s.steps + 1 : Nat) : Int) := by have := HDD.out; have := HG.out.2.2; rw [IntWalk.wrap64_in _ (by omega)]; rfl
  clear hf hp hd hd2 hs2 hr hi
  go_enter Try.func21, Try.ntmps21
  go_upto_region 1 with (fail)
  generalize hwa : w.alloc (.cells #[.int .i64 0, .int .i64 0, .string ⟨#[]⟩, .slice none 0 0] 31) = wa
  have HA : Hid (NS Y s s w wa) := by rw [← hwa]; exact HZ.out
  clear hwa HZ
  obtain ⟨⟨c4, c5, c6, c7, c8⟩, f6, f7, f8⟩ := rec9 HA.out.rec_
  go_wp2
  go_quiet (fail)
  have HW : ∀ x y : Int, x = ((s.steps + 1 : Nat) : Int) → y = ((max s.depth d : Nat) : Int) → Hid (NS Y s (tick d s) w (((wa.drewN nq).setCell ⟨Y.rb, 7, none⟩ (.int .i64 x)).setCell ⟨Y.rb, 6, none⟩ (.int .i64 y))) := by
    intro x y hx hy
    have h1 := HA.out.more (Go.X.grown_of_below (Below.drewQ ⟨nq, rfl⟩) none)
    refine h1.next (Fr4.grown2 (grown_setCell _ ⟨Y.rb, 7, none⟩ _) (grown_setCell _ ⟨Y.rb, 6, none⟩ _)) ?_
    rw [← tickM hx hy]
    exact (h1.rec_.setCell 7 _).setCell 6 _
  go_upto_region 11 with (fail)
  generalize hwb : ((wa.drewN nq).setCell ⟨Y.rb, 7, none⟩ _).setCell ⟨Y.rb, 6, none⟩ _ = wb
  have HB1 : Hid (NS Y s (tick d s) w wb) := by
    rw [← hwb]
    refine HW _ _ ?_ ?_
    · omega
    · omega
  clear hwb HW c4 c5 c6 c7 c8 f6 f7 f8 e1 h2' h3' hws HA
  obtain ⟨ad, A1, c1, eA, e0, e1, hl1, hc1⟩ := cr_at (Kd.C_below HF.out.C HB1.out.rn.bel) r HN.out.1
  obtain ⟨a1, eA1, n0, n1, n2, n3, n4, n5, n6⟩ := cd_at hc1 i HN.out.2.1
  subst eA1
  have hbx : w.heap.size < wb.heap.size := HB1.out.sz
  rw [hop] at n0
  obtain ⟨nd, hnd⟩ : ∃ nd, cd (cr Y.rs r).f1 i = nd := ⟨_, rfl⟩
  rw [hnd] at HCN hop n1 n2 n3 n4 n5 n6
  have HOP := Lib.hid hop
  have HND := Lib.hid hnd
  have hr0 : (0 : Int) ≤ (r : Int) := Int.natCast_nonneg _
  have hr1 : (r : Int) < (Y.rs.length : Int) := Int.ofNat_lt.2 HN.out.1
  have hi0 : (0 : Int) ≤ (i : Int) := Int.natCast_nonneg _
  have hi1 : (i : Int) < (Y.n r : Int) := Int.ofNat_lt.2 HN.out.2.1
  have c0 : wb.cell? ⟨Y.rb, 0, none⟩ = some (.slice (some ad) Y.rs.length Y.cR) := by rw [← eA]; exact HB1.out.rec_.cell 0
  have e1' : wb.cell? ⟨(ad.add (r * 2)).block, (ad.add (r * 2)).off + 1, none⟩ = some (.slice (some a1) (Y.n r) c1) := e1
  have HWC : ∀ wc : World, wc = wb.alloc (.cells #[.int .i64 8, .int .u64 nd.f1.f0, .int .u64 nd.f1.f1, .int .u64 nd.f1.f2, .int .u64 nd.f1.f3, .int .i64 nd.f2, .string nd.f3] 55) → Hid (NS Y s (tick d s) w wc ∧ Blk wc wb.heap.size 55 [.int .i64 8, .int .u64 nd.f1.f0, .int .u64 nd.f1.f1, .int .u64 nd.f1.f2, .int .u64 nd.f1.f3, .int .i64 nd.f2, .string nd.f3] ∧ w.heap.size < wb.heap.size) := by
    rintro wc rfl
    exact ⟨HB1.out.more (World.grownBy_alloc wb _ none), Blk.alloc wb _ _, HB1.out.sz⟩
  clear hnd hop e0 e1 hl1 hc1 hbx eA
  go_upto_region 12 with (fail)
  generalize hwc : wb.alloc _ = wc
  have HC := HWC wc hwc.symm
  clear hwc HWC c0 e1' n0 n1 n2 n3 n4 n5 n6 HB1 hi1
  generalize wb.heap.size = bx at *
  obtain ⟨q, hq, g1, g2⟩ := HC.out.1.rn.parts r HN.out.1
  obtain ⟨g3, g4⟩ := g2 i HN.out.2.1
  rw [HPT.out.1] at g3
  rw [HPT.out.2] at g4
  have c2 : wc.cell? ⟨Y.rb, 2, none⟩ = some (.slice (some Y.PA) Y.rs.length Y.cP) := HC.out.1.rec_.cell 2
  have hi1 : (i : Int) < (Y.n r : Int) := Int.ofNat_lt.2 HN.out.2.1
  have b0 : wc.cell? ⟨bx, 0, none⟩ = some (.int .i64 8) := HC.out.2.1.cell 0
  clear g2
  go_quiet (fail)
  have HD : Hid (NS Y s (tick d s) w (wc.drewN nq) ∧ Blk (wc.drewN nq) bx 55 [.int .i64 8, .int .u64 nd.f1.f0, .int .u64 nd.f1.f1, .int .u64 nd.f1.f2, .int .u64 nd.f1.f3, .int .i64 nd.f2, .string nd.f3] ∧ w.heap.size < bx) := by
    have g := Go.X.grown_of_below (Below.drewQ (w := wc) ⟨nq, rfl⟩) none
    exact ⟨HC.out.1.more g, HC.out.2.1.grown g (by simp), HC.out.2.2⟩
  clear b0 c2 g1 g3 g4 hr0 hr1 hi0 hi1 HC
  generalize wc.drewN nq = wd at *
  have b0 : wd.cell? ⟨bx, 0, none⟩ = some (.int .i64 8) := HD.out.2.1.cell 0
  have HTR' : Hid (tr (Y.b r) i = .cap nd.f3 (tr (Y.b r) m)) := by show _ = _; rw [HTR.out, HCN.out]; simp [cnOf, mk, HOP.out]
  have HLW : Hid (low Y.rs.length (tr (Y.b r) m)) := by have := HLOW.out; rw [HTR'.out] at this; exact this
  have hdw : wrap64 ((d : Int) + 1) = ((d + 1 : Nat) : Int) := by have := HDD.out.2.1; rw [IntWalk.wrap64_in _ (by omega)]; rfl
  go_wp2_with (fail)
  refine (HIH.out r m (p) (d + 1) (tick d s) _ HN.out.1 HMN.out HLW.out HI.out.1.1 HP.out (by have := HDD.out.1; omega) HI.out.1.2.1 HI.out.1.2.2 HD.out.1.rn).mono ?_
  rintro e w1 ⟨v1, rfl, hg, hr, ho⟩
  obtain ⟨ax, cx, hv⟩ := Go.X.own_slice ho
  subst hv
  have HOx := Lib.hid (ho.low HD.out.1.gr.size)
  have HEx := Lib.hid (HD.out.1.next hg hr.rec_)
  have HBX : Hid (Blk w1 bx 55 [.int .i64 8, .int .u64 nd.f1.f0, .int .u64 nd.f1.f1, .int .u64 nd.f1.f2, .int .u64 nd.f1.f3, .int .i64 nd.f2, .string nd.f3]) := HD.out.2.1.grown hg (by have := HD.out.1.rn0.rec_.lt; have := HD.out.2.2; intro e; injection e with e; omega)
  clear hg hr ho
  generalize hx : ev Y.e Y.l f (tr (Y.b r) m) p (d + 1) (tick d s) = qx at *
  obtain ⟨⟨xk, xe, xl, xf, xt⟩, xs⟩ := qx
  dsimp only [rsC] at *
  have hok := HI.out.2 (tr (Y.b r) m) p
  have hkd := ev_kids Y.e Y.l f (tr (Y.b r) m) p (d + 1) (tick d s) HI.out.1.1 HI.out.1.2.2
  rw [hx] at hok hkd
  have HLEN : Hid (xf.length ≤ 1048576) := by
    have h1 := hok.few
    have h2 := hok.max HI.out.1.2.2
    have h3 := HF.out.steps
    simp only at h1 h2
    show _ ≤ _
    omega
  have HKD : Hid (kidOK xf) := fun c hc => by
    have h1 := hkd c hc
    have h3 := HF.out.steps
    omega
  have HRT : Hid ((rt xf 0 0).1 = (xt : Int)) := rt_roots hok.wf
  clear hok hkd b0 hdw
  have HX := Lib.hid hx; clear hx
  have HKx' : ∀ wk : World, wk = w1.alloc (.cells #[.int .i64 xk, .int .i64 (xe : Nat), .string xl, .slice ax xf.length cx] 31) → Hid (NS Y s xs w wk ∧ Blk wk w1.heap.size 31 (rsC xk xe xl (.slice ax xf.length cx)) ∧ OwnF wk w.heap.size (.slice ax xf.length cx) xf ∧ w.heap.size < w1.heap.size) := by
    rintro wk rfl
    have g := World.grownBy_alloc w1 (.cells #[.int .i64 xk, .int .i64 (xe : Nat), .string xl, .slice ax xf.length cx] 31) none
    exact ⟨HEx.out.more g, Blk.alloc w1 _ _, HOx.out.more g, HEx.out.sz⟩
  have HBX' : ∀ wk : World, wk = w1.alloc (.cells #[.int .i64 xk, .int .i64 (xe : Nat), .string xl, .slice ax xf.length cx] 31) → Hid (Blk wk bx 55 [.int .i64 8, .int .u64 nd.f1.f0, .int .u64 nd.f1.f1, .int .u64 nd.f1.f2, .int .u64 nd.f1.f3, .int .i64 nd.f2, .string nd.f3]) := by
    rintro wk rfl
    exact HBX.out.grown (World.grownBy_alloc w1 _ none) (by simp)
  go_upto_region 45 with (fail)
  generalize hwk : w1.alloc (.cells #[.int .i64 xk, .int .i64 (xe : Nat), .string xl, .slice ax xf.length cx] 31) = wk
  have HKx := HKx' wk hwk.symm
  have HBk := HBX' wk hwk.symm
  clear HBX HBX'
  clear HKx' hwk HEx HOx
  generalize w1.heap.size = b9 at *
  obtain ⟨⟨x0, x1, x2, x3⟩, xf0, xf1, xf2, xf3⟩ := blk4 HKx.out.2.1
  by_cases hk : xk = 1
  · have hkb : (xk == (1 : Int)) = true := by rw [hk]; rfl
    have HV : Hid (ev Y.e Y.l (f + 1) (tr (Y.b r) i) p d s = (⟨xk, xe, xl, ⟨nd.f3, (p : Int), (xe : Int), (xt : Int)⟩ :: xf, 1⟩, xs)) := by show _ = _; rw [HTR'.out, ev_cap _ _ _ _ HS.out, HX.out, if_neg (by simp [hk])]
    have b6 : wk.cell? ⟨bx, 6, none⟩ = some (.string nd.f3) := HBk.out.cell 6
    go_wp2_with (fail)
    refine (Wrapped.calls nd.f3 (p : Int) (xe : Int) w.heap.size (.slice ax xf.length cx) xf wk HKx.out.2.2.1 HKD.out HLEN.out).mono ?_
    rintro e w3 ⟨v', rfl, hb, ho⟩
    rw [HRT.out] at ho
    obtain ⟨a9, c9, hv⟩ := Go.X.own_slice ho
    rw [List.length_cons] at hv
    subst hv
    have HG : Hid (NS Y s xs w w3 ∧ OwnF w3 w.heap.size (.slice a9 (xf.length + 1) c9) (⟨nd.f3, (p : Int), (xe : Int), (xt : Int)⟩ :: xf) ∧ Blk w3 b9 31 (rsC xk xe xl (.slice ax xf.length cx)) ∧ w.heap.size < b9) :=
      ⟨HKx.out.1.more (Go.X.grown_of_below hb none), ho.low HKx.out.1.gr.size, HKx.out.2.1.grown (Go.X.grown_of_below hb none) (by simp), HKx.out.2.2.2⟩
    clear hb ho HKx HBk b6 x0 x1 x2 x3 xf0 xf1 xf2 xf3
    dsimp only
    obtain ⟨⟨y0, y1, y2, y3⟩, y4, y5, y6, y7⟩ := blk4 HG.out.2.2.1
    obtain ⟨⟨z0, z1, z2, z3⟩, u0, u1, u2, u3⟩ := blk4 HG.out.1.res
    have n1 : ¬ b9 = w.heap.size := by have := HG.out.2.2.2; omega
    have n2 : ¬ w.heap.size = b9 := by have := HG.out.2.2.2; omega
    go_wp2
    clear y0 y1 y2 y3 y4 y5 y6 y7 z0 z1 z2 z3 u0 u1 u2 u3 n1 n2
    have HFIN : Hid (NS Y s xs w (w3.setCell ⟨b9, 3, none⟩ (.slice a9 (xf.length + 1) c9)) ∧ OwnF (w3.setCell ⟨b9, 3, none⟩ (.slice a9 (xf.length + 1) c9)) w.heap.size (.slice a9 (xf.length + 1) c9) (⟨nd.f3, (p : Int), (xe : Int), (xt : Int)⟩ :: xf)) := by
      have g := grown_setCell w3 ⟨b9, 3, none⟩ (.slice a9 (xf.length + 1) c9)
      exact ⟨HG.out.1.own g HG.out.2.2.2, HG.out.2.1.kept g HG.out.2.2.1 (by decide)⟩
    (try simp only [Exit.inBlock, Exit.then])
    show bodyPost _ _ _ _ _ (set4 (w3.setCell ⟨b9, 3, none⟩ (.slice a9 (xf.length + 1) c9)) w.heap.size (.int .i64 1) (.int .i64 ((xe : Nat) : Int)) (.string xl) (.slice a9 (xf.length + 1) c9))
    obtain ⟨wz, hwz⟩ : ∃ wz, wz = set4 (w3.setCell ⟨b9, 3, none⟩ (.slice a9 (xf.length + 1) c9)) w.heap.size (.int .i64 1) (.int .i64 ((xe : Nat) : Int)) (.string xl) (.slice a9 (xf.length + 1) c9) := ⟨_, rfl⟩
    rw [← hwz]
    obtain ⟨hT, hB⟩ := NS.put (tr := 1) (HFIN.out.1) HFIN.out.2 hwz
    obtain ⟨⟨r0, r1, r2, r3⟩, _⟩ := blk4 hB
    clear hwz hB
    refine bodyPost_ret (v := .agg (rsC 1 (xe) xl (.slice a9 (xf.length + 1) c9)).toArray) (by simp [results, rsC, Try.results21, go_sem, r0, r1, r2, r3]) rfl ?_
    rw [HV.out, hk]
    exact hT
  · have hkb : (xk == (1 : Int)) = false := beq_eq_false_iff_ne.2 hk
    have HV : Hid (ev Y.e Y.l (f + 1) (tr (Y.b r) i) p d s = (⟨xk, xe, xl, xf, xt⟩, xs)) := by show _ = _; rw [HTR'.out, ev_cap _ _ _ _ HS.out, HX.out, if_pos hk]
    obtain ⟨⟨z0, z1, z2, z3⟩, y0, y1, y2, y3⟩ := blk4 (HKx.out.1).res
    go_wp2
    clear z0 z1 z2 z3 y0 y1 y2 y3
    (try simp only [Exit.inBlock, Exit.then])
    show bodyPost _ _ _ _ _ (set4 wk w.heap.size (.int .i64 xk) (.int .i64 ((xe : Nat) : Int)) (.string xl) (.slice ax xf.length cx))
    obtain ⟨wz, hwz⟩ : ∃ wz, wz = set4 wk w.heap.size (.int .i64 xk) (.int .i64 ((xe : Nat) : Int)) (.string xl) (.slice ax xf.length cx) := ⟨_, rfl⟩
    rw [← hwz]
    obtain ⟨hT, hB⟩ := NS.put (tr := xt) (HKx.out.1) HKx.out.2.2.1 hwz
    obtain ⟨⟨r0, r1, r2, r3⟩, _⟩ := blk4 hB
    clear hwz hB
    refine bodyPost_ret (v := .agg (rsC xk (xe) xl (.slice ax xf.length cx)).toArray) (by simp [results, rsC, Try.results21, go_sem, r0, r1, r2, r3]) rfl ?_
    rw [HV.out]
    exact hT
set_option maxRecDepth 100000 in
set_option maxHeartbeats 4000000 in
theorem node_set (Y : Cy) (F : Fy Y) (f : Nat) (IH : NodeC Y f) (r i p d : Nat) (s : St) (w : World) (hr : r < Y.rs.length) (hi : i < Y.n r) (hlw : low Y.rs.length (tr (Y.b r) i)) (hop : (cd (cr Y.rs r).f1 i).f0 = 1) (hf : 2 * (Y.l.steps - s.steps) + 1 ≤ f + 1) (hp : p ≤ Y.inp.size) (hd : d ≤ Y.l.depth) (hd2 : s.depth ≤ Y.l.depth) (hs2 : s.steps < Y.l.steps) (hs : ¬ stop Y.l d s = true) (hn : Rm Y s w) : Calls Try.prog 21 #[.pointer (some ⟨Y.rb, 0, none⟩), .int .i64 (r : Nat), .int .i64 (i : Nat), .int .i64 (p : Nat), .int .i64 (d : Nat)] w (ToldM Y w (ev Y.e Y.l (f + 1) (tr (Y.b r) i) p d s)) := by
  have HF := Lib.hid F; clear F
  have HIH := Lib.hid IH; clear IH
  have HG := Lib.hid (go_on hs)
  have HS := Lib.hid hs; clear hs
  have HZ := Lib.hid (NS.start hn); clear hn
  have HI := Lib.hid (in_stepM hf hs2 hd hd2)
  have HP := Lib.hid hp
  have HF2 : Hid (2 * (Y.l.steps - (tick d s).steps) + 2 ≤ f) := by show _ ≤ _; simp only [tick]; omega
  have HDD : Hid (d ≤ Y.l.depth ∧ d ≤ 1048576 ∧ p ≤ 1048576 ∧ Y.l.depth ≤ 1048576 ∧ Y.l.steps ≤ 1048576) := ⟨hd, Nat.le_trans hd HF.out.depth, Nat.le_trans hp HF.out.short, HF.out.depth, HF.out.steps⟩
  have HN : Hid (r < Y.rs.length ∧ i < Y.n r ∧ Y.n r ≤ 1048576 ∧ Y.rs.length ≤ 1048576) := ⟨hr, hi, HF.out.good.len r hr, HF.out.good.few.2⟩
  have HB : Hid (fits (Y.b r) (i + 1)) := (HF.out.good.fits r hr).low hi
  have HCN : Hid (cn (Y.b r) i = cnOf (cd (cr Y.rs r).f1 i)) := cn_op hi
  have HLOW := Lib.hid hlw; clear hlw
  have HA0 : Hid (ar (cn (Y.b r) i).op = 0) := by show _ = _; rw [HCN.out]; simp [cnOf, ar, hop]
  have HPT : Hid (pa (Y.b r) i = -1 ∧ pb (Y.b r) i = -1) := by rw [pa, pb, HA0.out]; exact ⟨rfl, rfl⟩
  have HTR : Hid (tr (Y.b r) i = mk (cn (Y.b r) i) .emp .emp) := (part0 HA0.out).1
  have e1 : s.err = 0 := HG.out.1
  have h2' : ¬ (Y.l.depth : Int) < (d : Int) := by have := HG.out.2.1; omega
  have h3' : ¬ (Y.l.steps : Int) ≤ (s.steps : Int) := by have := HG.out.2.2; omega
  have hws : wrap64 ((s.steps : Int) + 1) = ((s.steps + 1 : Nat) : Int) := by have := HDD.out; have := HG.out.2.2; rw [IntWalk.wrap64_in _ (by omega)]; rfl
  clear hf hp hd hd2 hs2 hr hi
  go_enter Try.func21, Try.ntmps21
  go_upto_region 1 with (fail)
  generalize hwa : w.alloc (.cells #[.int .i64 0, .int .i64 0, .string ⟨#[]⟩, .slice none 0 0] 31) = wa
  have HA : Hid (NS Y s s w wa) := by rw [← hwa]; exact HZ.out
  clear hwa HZ
  obtain ⟨⟨c4, c5, c6, c7, c8⟩, f6, f7, f8⟩ := rec9 HA.out.rec_
  go_wp2
  go_quiet (fail)
  have HW : ∀ x y : Int, x = ((s.steps + 1 : Nat) : Int) → y = ((max s.depth d : Nat) : Int) → Hid (NS Y s (tick d s) w (((wa.drewN nq).setCell ⟨Y.rb, 7, none⟩ (.int .i64 x)).setCell ⟨Y.rb, 6, none⟩ (.int .i64 y))) := by
    intro x y hx hy
    have h1 := HA.out.more (Go.X.grown_of_below (Below.drewQ ⟨nq, rfl⟩) none)
    refine h1.next (Fr4.grown2 (grown_setCell _ ⟨Y.rb, 7, none⟩ _) (grown_setCell _ ⟨Y.rb, 6, none⟩ _)) ?_
    rw [← tickM hx hy]
    exact (h1.rec_.setCell 7 _).setCell 6 _
  go_upto_region 11 with (fail)
  generalize hwb : ((wa.drewN nq).setCell ⟨Y.rb, 7, none⟩ _).setCell ⟨Y.rb, 6, none⟩ _ = wb
  have HB1 : Hid (NS Y s (tick d s) w wb) := by
    rw [← hwb]
    refine HW _ _ ?_ ?_
    · omega
    · omega
  clear hwb HW c4 c5 c6 c7 c8 f6 f7 f8 e1 h2' h3' hws HA
  obtain ⟨ad, A1, c1, eA, e0, e1, hl1, hc1⟩ := cr_at (Kd.C_below HF.out.C HB1.out.rn.bel) r HN.out.1
  obtain ⟨a1, eA1, n0, n1, n2, n3, n4, n5, n6⟩ := cd_at hc1 i HN.out.2.1
  subst eA1
  have hbx : w.heap.size < wb.heap.size := HB1.out.sz
  rw [hop] at n0
  obtain ⟨nd, hnd⟩ : ∃ nd, cd (cr Y.rs r).f1 i = nd := ⟨_, rfl⟩
  rw [hnd] at HCN hop n1 n2 n3 n4 n5 n6
  have HOP := Lib.hid hop
  have HND := Lib.hid hnd
  have hr0 : (0 : Int) ≤ (r : Int) := Int.natCast_nonneg _
  have hr1 : (r : Int) < (Y.rs.length : Int) := Int.ofNat_lt.2 HN.out.1
  have hi0 : (0 : Int) ≤ (i : Int) := Int.natCast_nonneg _
  have hi1 : (i : Int) < (Y.n r : Int) := Int.ofNat_lt.2 HN.out.2.1
  have c0 : wb.cell? ⟨Y.rb, 0, none⟩ = some (.slice (some ad) Y.rs.length Y.cR) := by rw [← eA]; exact HB1.out.rec_.cell 0
  have e1' : wb.cell? ⟨(ad.add (r * 2)).block, (ad.add (r * 2)).off + 1, none⟩ = some (.slice (some a1) (Y.n r) c1) := e1
  have HWC : ∀ wc : World, wc = wb.alloc (.cells #[.int .i64 1, .int .u64 nd.f1.f0, .int .u64 nd.f1.f1, .int .u64 nd.f1.f2, .int .u64 nd.f1.f3, .int .i64 nd.f2, .string nd.f3] 55) → Hid (NS Y s (tick d s) w wc ∧ Blk wc wb.heap.size 55 [.int .i64 1, .int .u64 nd.f1.f0, .int .u64 nd.f1.f1, .int .u64 nd.f1.f2, .int .u64 nd.f1.f3, .int .i64 nd.f2, .string nd.f3] ∧ w.heap.size < wb.heap.size) := by
    rintro wc rfl
    exact ⟨HB1.out.more (World.grownBy_alloc wb _ none), Blk.alloc wb _ _, HB1.out.sz⟩
  clear hnd hop e0 e1 hl1 hc1 hbx eA
  go_upto_region 12 with (fail)
  generalize hwc : wb.alloc _ = wc
  have HC := HWC wc hwc.symm
  clear hwc HWC c0 e1' n0 n1 n2 n3 n4 n5 n6 HB1 hi1
  generalize wb.heap.size = bx at *
  obtain ⟨q, hq, g1, g2⟩ := HC.out.1.rn.parts r HN.out.1
  obtain ⟨g3, g4⟩ := g2 i HN.out.2.1
  rw [HPT.out.1] at g3
  rw [HPT.out.2] at g4
  have c2 : wc.cell? ⟨Y.rb, 2, none⟩ = some (.slice (some Y.PA) Y.rs.length Y.cP) := HC.out.1.rec_.cell 2
  have hi1 : (i : Int) < (Y.n r : Int) := Int.ofNat_lt.2 HN.out.2.1
  have b0 : wc.cell? ⟨bx, 0, none⟩ = some (.int .i64 1) := HC.out.2.1.cell 0
  clear g2
  go_quiet (fail)
  have HD : Hid (NS Y s (tick d s) w (wc.drewN nq) ∧ Blk (wc.drewN nq) bx 55 [.int .i64 1, .int .u64 nd.f1.f0, .int .u64 nd.f1.f1, .int .u64 nd.f1.f2, .int .u64 nd.f1.f3, .int .i64 nd.f2, .string nd.f3] ∧ w.heap.size < bx) := by
    have g := Go.X.grown_of_below (Below.drewQ (w := wc) ⟨nq, rfl⟩) none
    exact ⟨HC.out.1.more g, HC.out.2.1.grown g (by simp), HC.out.2.2⟩
  clear b0 c2 g1 g3 g4 hr0 hr1 hi0 hi1 HC
  generalize wc.drewN nq = wd at *
  have b0 : wd.cell? ⟨bx, 0, none⟩ = some (.int .i64 1) := HD.out.2.1.cell 0
  have HTR' : Hid (tr (Y.b r) i = .set ⟨nd.f1.f0, nd.f1.f1, nd.f1.f2, nd.f1.f3⟩) := by show _ = _; rw [HTR.out, HCN.out]; simp [cnOf, mk, HOP.out]
  have c3 : wd.cell? ⟨Y.rb, 3, none⟩ = some (.string Y.inp) := HD.out.1.rec_.cell 3
  have b1 : wd.cell? ⟨bx, 1, none⟩ = some (.int .u64 nd.f1.f0) := HD.out.2.1.cell 1
  have b2 : wd.cell? ⟨bx, 2, none⟩ = some (.int .u64 nd.f1.f1) := HD.out.2.1.cell 2
  have b3 : wd.cell? ⟨bx, 3, none⟩ = some (.int .u64 nd.f1.f2) := HD.out.2.1.cell 3
  have b4 : wd.cell? ⟨bx, 4, none⟩ = some (.int .u64 nd.f1.f3) := HD.out.2.1.cell 4
  obtain ⟨x0, hx0⟩ : ∃ x, nd.f1.f0 = x := ⟨_, rfl⟩
  obtain ⟨x1, hx1⟩ : ∃ x, nd.f1.f1 = x := ⟨_, rfl⟩
  obtain ⟨x2, hx2⟩ : ∃ x, nd.f1.f2 = x := ⟨_, rfl⟩
  obtain ⟨x3, hx3⟩ : ∃ x, nd.f1.f3 = x := ⟨_, rfl⟩
  rw [hx0] at HTR' b1
  rw [hx1] at HTR' b2
  rw [hx2] at HTR' b3
  rw [hx3] at HTR' b4
  clear hx0 hx1 hx2 hx3
  have hp0 : (0 : Int) ≤ (p : Int) := Int.natCast_nonneg _
  have hp1 : (p : Int) ≤ (Y.inp.size : Int) := Int.ofNat_le.2 HP.out
  by_cases hlt : p < Y.inp.size
  · have hlt' : (p : Int) < (Y.inp.size : Int) := Int.ofNat_lt.2 hlt
    have hg1 : decide ((p : Int) < (Y.inp.size : Int)) = true := decide_eq_true hlt'
    have HBD : Hid (NS Y s (tick d s) w wd.drew ∧ Blk wd.drew bx 55 [.int .i64 1, .int .u64 nd.f1.f0, .int .u64 nd.f1.f1, .int .u64 nd.f1.f2, .int .u64 nd.f1.f3, .int .i64 nd.f2, .string nd.f3]) := by
      have g := Go.X.grown_of_below (Below.drewQ (w := wd) ⟨1, rfl⟩) none
      exact ⟨HD.out.1.more g, HD.out.2.1.grown g (by simp)⟩
    go_wp2
    go_region_held3 (fun w' => w'.cell? ⟨bx, 1, none⟩ = some (.int .u64 x0) ∧ w'.cell? ⟨bx, 2, none⟩ = some (.int .u64 x1) ∧ w'.cell? ⟨bx, 3, none⟩ = some (.int .u64 x2) ∧ w'.cell? ⟨bx, 4, none⟩ = some (.int .u64 x3) ∧ w'.cell? ⟨Y.rb, 3, none⟩ = some (.string Y.inp))
      (first
        | exact ⟨k0, k1, k2, k3, k4⟩
        | go_keep)
      (first
        | (go_at_call 34; refine (hasR.calls ⟨x0, x1, x2, x3⟩ _ (Int.natCast_nonneg _) (by have := UInt8.toNat_lt (Y.inp[p]'hlt); omega) _).mono ?_; rintro e w1 ⟨rfl, hg⟩
           have HEx : Hid (NS Y s (tick d s) w w1) := HBD.out.1.more hg
           have k0 : w1.cell? ⟨bx, 1, none⟩ = some (.int .u64 x0) := Below.cell_some' (below_of_grown hg) b1
           have k1 : w1.cell? ⟨bx, 2, none⟩ = some (.int .u64 x1) := Below.cell_some' (below_of_grown hg) b2
           have k2 : w1.cell? ⟨bx, 3, none⟩ = some (.int .u64 x2) := Below.cell_some' (below_of_grown hg) b3
           have k3 : w1.cell? ⟨bx, 4, none⟩ = some (.int .u64 x3) := Below.cell_some' (below_of_grown hg) b4
           have k4 : w1.cell? ⟨Y.rb, 3, none⟩ = some (.string Y.inp) := HEx.out.rec_.cell 3
           clear hg))
    rename_i hHeld
    clear hHeld k0 k1 k2 k3 k4 b0 b1 b2 b3 b4 c3 HD HBD
    have HV : Hid (ev Y.e Y.l (f + 1) (tr (Y.b r) i) p d s = (if clsHas ⟨x0, x1, x2, x3⟩ ((Y.inp[p]'hlt).toNat : Int) = true then .mat (p + 1) else .zero, tick d s)) := by
      show _ = _
      rw [HTR'.out, ev_set _ _ _ HS.out]
      have h1 : Y.e.has ⟨x0, x1, x2, x3⟩ p = clsHas ⟨x0, x1, x2, x3⟩ ((Y.inp[p]'hlt).toNat : Int) := by simp only [Cy.e, envOf]; rw [dif_pos hlt]
      have h2 : p < Y.e.len := hlt
      by_cases h3 : clsHas ⟨x0, x1, x2, x3⟩ ((Y.inp[p]'hlt).toNat : Int) = true
      · rw [if_pos ⟨h2, by rw [h1]; exact h3⟩, if_pos h3]
      · rw [if_neg (fun h => h3 (by rw [← h1]; exact h.2)), if_neg h3]
    generalize clsHas ⟨x0, x1, x2, x3⟩ ((Y.inp[p]'hlt).toNat : Int) = ch at *
    cases ch
    · skip
      obtain ⟨⟨z0, z1, z2, z3⟩, y0, y1, y2, y3⟩ := blk4 (HEx.out).res
      go_wp2
      clear z0 z1 z2 z3 y0 y1 y2 y3
      (try simp only [Exit.inBlock, Exit.then])
      show bodyPost _ _ _ _ _ (set4 w1 w.heap.size (.int .i64 0) (.int .i64 ((0 : Nat) : Int)) (.string ⟨#[]⟩) (.slice none 0 0))
      obtain ⟨wz, hwz⟩ : ∃ wz, wz = set4 w1 w.heap.size (.int .i64 0) (.int .i64 ((0 : Nat) : Int)) (.string ⟨#[]⟩) (.slice none 0 0) := ⟨_, rfl⟩
      rw [← hwz]
      obtain ⟨hT, hB⟩ := NS.put (tr := 0) (HEx.out) (OwnF.nil _ _) hwz
      obtain ⟨⟨r0, r1, r2, r3⟩, _⟩ := blk4 hB
      clear hwz hB
      refine bodyPost_ret (v := .agg (rsC 0 (0) ⟨#[]⟩ (.slice none 0 0)).toArray) (by simp [results, rsC, Try.results21, go_sem, r0, r1, r2, r3]) rfl ?_
      rw [HV.out, if_neg (by decide)]
      exact hT
    · have hpw : wrap64 ((p : Int) + 1) = ((p + 1 : Nat) : Int) := by have := HDD.out.2.2.1; rw [IntWalk.wrap64_in _ (by omega)]; rfl
      obtain ⟨⟨z0, z1, z2, z3⟩, y0, y1, y2, y3⟩ := blk4 (HEx.out).res
      go_wp2
      clear z0 z1 z2 z3 y0 y1 y2 y3
      (try simp only [Exit.inBlock, Exit.then])
      show bodyPost _ _ _ _ _ (set4 w1 w.heap.size (.int .i64 1) (.int .i64 ((p + 1 : Nat) : Int)) (.string ⟨#[]⟩) (.slice none 0 0))
      obtain ⟨wz, hwz⟩ : ∃ wz, wz = set4 w1 w.heap.size (.int .i64 1) (.int .i64 ((p + 1 : Nat) : Int)) (.string ⟨#[]⟩) (.slice none 0 0) := ⟨_, rfl⟩
      rw [← hwz]
      obtain ⟨hT, hB⟩ := NS.put (tr := 0) (HEx.out) (OwnF.nil _ _) hwz
      obtain ⟨⟨r0, r1, r2, r3⟩, _⟩ := blk4 hB
      clear hwz hB
      refine bodyPost_ret (v := .agg (rsC 1 (p + 1) ⟨#[]⟩ (.slice none 0 0)).toArray) (by simp [results, rsC, Try.results21, go_sem, r0, r1, r2, r3]) rfl ?_
      rw [HV.out, if_pos trivial]
      exact hT
  · have hlt' : ¬ (p : Int) < (Y.inp.size : Int) := fun h => hlt (Int.ofNat_lt.1 h)
    have hg1 : decide ((p : Int) < (Y.inp.size : Int)) = false := decide_eq_false hlt'
    have HV : Hid (ev Y.e Y.l (f + 1) (tr (Y.b r) i) p d s = (.zero, tick d s)) := by show _ = _; rw [HTR'.out, ev_set _ _ _ HS.out, if_neg (fun h => hlt h.1)]
    go_wp2
    go_quiet (fail)
    have HQ : Hid (NS Y s (tick d s) w (wd.drewN nq)) := HD.out.1.more (Go.X.grown_of_below (Below.drewQ ⟨_, rfl⟩) none)
    generalize wd.drewN nq = wq at *
    clear HD b0 b1 b2 b3 b4 c3
    obtain ⟨⟨z0, z1, z2, z3⟩, y0, y1, y2, y3⟩ := blk4 (HQ.out).res
    go_wp2
    clear z0 z1 z2 z3 y0 y1 y2 y3
    (try simp only [Exit.inBlock, Exit.then])
    show bodyPost _ _ _ _ _ (set4 wq w.heap.size (.int .i64 0) (.int .i64 ((0 : Nat) : Int)) (.string ⟨#[]⟩) (.slice none 0 0))
    obtain ⟨wz, hwz⟩ : ∃ wz, wz = set4 wq w.heap.size (.int .i64 0) (.int .i64 ((0 : Nat) : Int)) (.string ⟨#[]⟩) (.slice none 0 0) := ⟨_, rfl⟩
    rw [← hwz]
    obtain ⟨hT, hB⟩ := NS.put (tr := 0) (HQ.out) (OwnF.nil _ _) hwz
    obtain ⟨⟨r0, r1, r2, r3⟩, _⟩ := blk4 hB
    clear hwz hB
    refine bodyPost_ret (v := .agg (rsC 0 (0) ⟨#[]⟩ (.slice none 0 0)).toArray) (by simp [results, rsC, Try.results21, go_sem, r0, r1, r2, r3]) rfl ?_
    rw [HV.out]
    exact hT
set_option maxRecDepth 100000 in
set_option maxHeartbeats 4000000 in
theorem node_rule (Y : Cy) (F : Fy Y) (f : Nat) (IH : NodeC Y f) (r i p d : Nat) (s : St) (w : World) (hr : r < Y.rs.length) (hi : i < Y.n r) (hlw : low Y.rs.length (tr (Y.b r) i)) (hop : (cd (cr Y.rs r).f1 i).f0 = 2) (hf : 2 * (Y.l.steps - s.steps) + 1 ≤ f + 1) (hp : p ≤ Y.inp.size) (hd : d ≤ Y.l.depth) (hd2 : s.depth ≤ Y.l.depth) (hs2 : s.steps < Y.l.steps) (hs : ¬ stop Y.l d s = true) (hn : Rm Y s w) : Calls Try.prog 21 #[.pointer (some ⟨Y.rb, 0, none⟩), .int .i64 (r : Nat), .int .i64 (i : Nat), .int .i64 (p : Nat), .int .i64 (d : Nat)] w (ToldM Y w (ev Y.e Y.l (f + 1) (tr (Y.b r) i) p d s)) := by
  have HF := Lib.hid F; clear F
  have HIH := Lib.hid IH; clear IH
  have HG := Lib.hid (go_on hs)
  have HS := Lib.hid hs; clear hs
  have HZ := Lib.hid (NS.start hn); clear hn
  have HI := Lib.hid (in_stepM hf hs2 hd hd2)
  have HP := Lib.hid hp
  have HF2 : Hid (2 * (Y.l.steps - (tick d s).steps) + 2 ≤ f) := by show _ ≤ _; simp only [tick]; omega
  have HDD : Hid (d ≤ Y.l.depth ∧ d ≤ 1048576 ∧ p ≤ 1048576 ∧ Y.l.depth ≤ 1048576 ∧ Y.l.steps ≤ 1048576) := ⟨hd, Nat.le_trans hd HF.out.depth, Nat.le_trans hp HF.out.short, HF.out.depth, HF.out.steps⟩
  have HN : Hid (r < Y.rs.length ∧ i < Y.n r ∧ Y.n r ≤ 1048576 ∧ Y.rs.length ≤ 1048576) := ⟨hr, hi, HF.out.good.len r hr, HF.out.good.few.2⟩
  have HB : Hid (fits (Y.b r) (i + 1)) := (HF.out.good.fits r hr).low hi
  have HCN : Hid (cn (Y.b r) i = cnOf (cd (cr Y.rs r).f1 i)) := cn_op hi
  have HLOW := Lib.hid hlw; clear hlw
  have HA0 : Hid (ar (cn (Y.b r) i).op = 0) := by show _ = _; rw [HCN.out]; simp [cnOf, ar, hop]
  have HPT : Hid (pa (Y.b r) i = -1 ∧ pb (Y.b r) i = -1) := by rw [pa, pb, HA0.out]; exact ⟨rfl, rfl⟩
  have HTR : Hid (tr (Y.b r) i = mk (cn (Y.b r) i) .emp .emp) := (part0 HA0.out).1
  have e1 : s.err = 0 := HG.out.1
  have h2' : ¬ (Y.l.depth : Int) < (d : Int) := by have := HG.out.2.1; omega
  have h3' : ¬ (Y.l.steps : Int) ≤ (s.steps : Int) := by have := HG.out.2.2; omega
  have hws : wrap64 ((s.steps : Int) + 1) = ((s.steps + 1 : Nat) : Int) := by have := HDD.out; have := HG.out.2.2; rw [IntWalk.wrap64_in _ (by omega)]; rfl
  clear hf hp hd hd2 hs2 hr hi
  go_enter Try.func21, Try.ntmps21
  go_upto_region 1 with (fail)
  generalize hwa : w.alloc (.cells #[.int .i64 0, .int .i64 0, .string ⟨#[]⟩, .slice none 0 0] 31) = wa
  have HA : Hid (NS Y s s w wa) := by rw [← hwa]; exact HZ.out
  clear hwa HZ
  obtain ⟨⟨c4, c5, c6, c7, c8⟩, f6, f7, f8⟩ := rec9 HA.out.rec_
  go_wp2
  go_quiet (fail)
  have HW : ∀ x y : Int, x = ((s.steps + 1 : Nat) : Int) → y = ((max s.depth d : Nat) : Int) → Hid (NS Y s (tick d s) w (((wa.drewN nq).setCell ⟨Y.rb, 7, none⟩ (.int .i64 x)).setCell ⟨Y.rb, 6, none⟩ (.int .i64 y))) := by
    intro x y hx hy
    have h1 := HA.out.more (Go.X.grown_of_below (Below.drewQ ⟨nq, rfl⟩) none)
    refine h1.next (Fr4.grown2 (grown_setCell _ ⟨Y.rb, 7, none⟩ _) (grown_setCell _ ⟨Y.rb, 6, none⟩ _)) ?_
    rw [← tickM hx hy]
    exact (h1.rec_.setCell 7 _).setCell 6 _
  go_upto_region 11 with (fail)
  generalize hwb : ((wa.drewN nq).setCell ⟨Y.rb, 7, none⟩ _).setCell ⟨Y.rb, 6, none⟩ _ = wb
  have HB1 : Hid (NS Y s (tick d s) w wb) := by
    rw [← hwb]
    refine HW _ _ ?_ ?_
    · omega
    · omega
  clear hwb HW c4 c5 c6 c7 c8 f6 f7 f8 e1 h2' h3' hws HA
  obtain ⟨ad, A1, c1, eA, e0, e1, hl1, hc1⟩ := cr_at (Kd.C_below HF.out.C HB1.out.rn.bel) r HN.out.1
  obtain ⟨a1, eA1, n0, n1, n2, n3, n4, n5, n6⟩ := cd_at hc1 i HN.out.2.1
  subst eA1
  have hbx : w.heap.size < wb.heap.size := HB1.out.sz
  rw [hop] at n0
  obtain ⟨nd, hnd⟩ : ∃ nd, cd (cr Y.rs r).f1 i = nd := ⟨_, rfl⟩
  rw [hnd] at HCN hop n1 n2 n3 n4 n5 n6
  have HOP := Lib.hid hop
  have HND := Lib.hid hnd
  have hr0 : (0 : Int) ≤ (r : Int) := Int.natCast_nonneg _
  have hr1 : (r : Int) < (Y.rs.length : Int) := Int.ofNat_lt.2 HN.out.1
  have hi0 : (0 : Int) ≤ (i : Int) := Int.natCast_nonneg _
  have hi1 : (i : Int) < (Y.n r : Int) := Int.ofNat_lt.2 HN.out.2.1
  have c0 : wb.cell? ⟨Y.rb, 0, none⟩ = some (.slice (some ad) Y.rs.length Y.cR) := by rw [← eA]; exact HB1.out.rec_.cell 0
  have e1' : wb.cell? ⟨(ad.add (r * 2)).block, (ad.add (r * 2)).off + 1, none⟩ = some (.slice (some a1) (Y.n r) c1) := e1
  have HWC : ∀ wc : World, wc = wb.alloc (.cells #[.int .i64 2, .int .u64 nd.f1.f0, .int .u64 nd.f1.f1, .int .u64 nd.f1.f2, .int .u64 nd.f1.f3, .int .i64 nd.f2, .string nd.f3] 55) → Hid (NS Y s (tick d s) w wc ∧ Blk wc wb.heap.size 55 [.int .i64 2, .int .u64 nd.f1.f0, .int .u64 nd.f1.f1, .int .u64 nd.f1.f2, .int .u64 nd.f1.f3, .int .i64 nd.f2, .string nd.f3] ∧ w.heap.size < wb.heap.size) := by
    rintro wc rfl
    exact ⟨HB1.out.more (World.grownBy_alloc wb _ none), Blk.alloc wb _ _, HB1.out.sz⟩
  clear hnd hop e0 e1 hl1 hc1 hbx eA
  go_upto_region 12 with (fail)
  generalize hwc : wb.alloc _ = wc
  have HC := HWC wc hwc.symm
  clear hwc HWC c0 e1' n0 n1 n2 n3 n4 n5 n6 HB1 hi1
  generalize wb.heap.size = bx at *
  obtain ⟨q, hq, g1, g2⟩ := HC.out.1.rn.parts r HN.out.1
  obtain ⟨g3, g4⟩ := g2 i HN.out.2.1
  rw [HPT.out.1] at g3
  rw [HPT.out.2] at g4
  have c2 : wc.cell? ⟨Y.rb, 2, none⟩ = some (.slice (some Y.PA) Y.rs.length Y.cP) := HC.out.1.rec_.cell 2
  have hi1 : (i : Int) < (Y.n r : Int) := Int.ofNat_lt.2 HN.out.2.1
  have b0 : wc.cell? ⟨bx, 0, none⟩ = some (.int .i64 2) := HC.out.2.1.cell 0
  clear g2
  go_quiet (fail)
  have HD : Hid (NS Y s (tick d s) w (wc.drewN nq) ∧ Blk (wc.drewN nq) bx 55 [.int .i64 2, .int .u64 nd.f1.f0, .int .u64 nd.f1.f1, .int .u64 nd.f1.f2, .int .u64 nd.f1.f3, .int .i64 nd.f2, .string nd.f3] ∧ w.heap.size < bx) := by
    have g := Go.X.grown_of_below (Below.drewQ (w := wc) ⟨nq, rfl⟩) none
    exact ⟨HC.out.1.more g, HC.out.2.1.grown g (by simp), HC.out.2.2⟩
  clear b0 c2 g1 g3 g4 hr0 hr1 hi0 hi1 HC
  generalize wc.drewN nq = wd at *
  have b0 : wd.cell? ⟨bx, 0, none⟩ = some (.int .i64 2) := HD.out.2.1.cell 0
  have HTR' : Hid (tr (Y.b r) i = .rule nd.f2.toNat) := by show _ = _; rw [HTR.out, HCN.out]; simp [cnOf, mk, HOP.out]
  have HF0 : Hid (0 ≤ nd.f2) := by have := (HF.out.good.op r HN.out.1 i HN.out.2.1).2.2; rw [HND.out] at this; exact this
  obtain ⟨n, hn⟩ : ∃ n : Nat, nd.f2 = (n : Int) := ⟨nd.f2.toNat, (Int.toNat_of_nonneg HF0.out).symm⟩
  have HLN : Hid (n < Y.rs.length) := by
    have := HLOW.out
    rw [HTR'.out, hn, Int.toNat_natCast] at this
    exact this
  obtain ⟨l', hl'⟩ : ∃ l', Y.n n = l' + 1 := ⟨Y.n n - 1, by
    have := HF.out.good.one n HLN.out
    have h2 : (cr Y.rs n).f1.length = Y.n n := rfl
    rw [h2] at this
    match hm : Y.n n, this with
    | 0, this => simp [istk] at this
    | k + 1, _ => simp⟩
  have HLL := Lib.hid hl'
  have HLR : Hid (low Y.rs.length (tr (Y.b n) l')) := by
    have := HF.out.good.low n HLN.out
    rw [tre, show (cr Y.rs n).f1.length = Y.n n from rfl, hl'] at this
    exact this
  have HLB : Hid (Y.n n ≤ 1048576) := HF.out.good.len n HLN.out
  have HV0 : Hid (ev Y.e Y.l (f + 1) (tr (Y.b r) i) p d s = ev Y.e Y.l f (tr (Y.b n) l') p (d + 1) (tick d s)) := by
    show _ = _
    rw [HTR'.out, ev_rule _ _ _ HS.out, hn, Int.toNat_natCast]
    show ev Y.e Y.l f (tre Y.rs n) p (d + 1) (tick d s) = _
    rw [tre, show (cr Y.rs n).f1.length = Y.n n from rfl, hl']
    rfl
  obtain ⟨ad, A1, c1, eA, _, e1, hl1, _⟩ := cr_at (Kd.C_below HF.out.C HD.out.1.rn.bel) n HLN.out
  have HCELL : Hid (∀ w' s', Rm Y s' w' → w'.cell? ⟨Y.rb, 0, none⟩ = some (.slice (some ad) Y.rs.length Y.cR) ∧ w'.cell? ⟨(ad.add (n * 2)).block, (ad.add (n * 2)).off + 1, none⟩ = some (.slice A1 (Y.n n) c1)) := by
    intro w' s' hw'
    refine ⟨by rw [← eA]; exact hw'.rec_.cell 0, ?_⟩
    obtain ⟨ad', A1', c1', eA', _, e1', _, _⟩ := cr_at (Kd.C_below HF.out.C hw'.bel) n HLN.out
    obtain ⟨ad'', A1'', c1'', eA'', _, e1'', _, _⟩ := cr_at HF.out.C n HLN.out
    rw [eA''] at eA
    injection eA with eA
    subst eA
    have h1 := Below.cell_some' hw'.bel e1''
    have h2 := Below.cell_some' HD.out.1.rn.bel e1''
    rw [h2] at e1
    exact h1.trans e1
  have HNE : Hid (bx ≠ w.heap.size ∧ Y.rb ≠ w.heap.size ∧ (ad.add (n * 2)).block ≠ w.heap.size) := by
    have h1 := HD.out.1.rn0.rec_.lt
    obtain ⟨ad'', A1'', c1'', eA'', _, e1'', _, _⟩ := cr_at (Kd.C_below HF.out.C HD.out.1.rn0.bel) n HLN.out
    rw [eA''] at eA
    injection eA with eA
    subst eA
    have h2 := World.block_lt_of_cell? w _ e1''
    simp only at h2
    exact ⟨by have := HD.out.2.2; omega, by omega, by omega⟩
  clear eA e1 hl1
  have HBD : Hid (NS Y s (tick d s) w wd.drew) := HD.out.1.more (Go.X.grown_of_below (Below.drewQ ⟨1, rfl⟩) none)
  have HBX : Hid (∀ w', wd.drew.grownBy w' (some Y.rb) → w'.cell? ⟨bx, 5, none⟩ = some (.int .i64 (n : Nat))) := by
    intro w' hg
    have g := Go.X.grown_of_below (Below.drewQ (w := wd) ⟨1, rfl⟩) none
    have h1 := (HD.out.2.1.grown g (by simp)).grown hg (by have := HD.out.1.rn0.rec_.lt; have := HD.out.2.2; intro e; injection e with e; omega)
    rw [← hn]
    exact h1.cell 5
  have b5 : wd.cell? ⟨bx, 5, none⟩ = some (.int .i64 (n : Nat)) := by rw [← hn]; exact HD.out.2.1.cell 5
  clear hn
  obtain ⟨c0, e1⟩ := HCELL.out wd _ HD.out.1.rn
  have hn0 : (0 : Int) ≤ (n : Int) := Int.natCast_nonneg _
  have hn1 : (n : Int) < (Y.rs.length : Int) := Int.ofNat_lt.2 HLN.out
  have hdw2 : IntKind.i64.wrap ((d : Int) + 1) = ((d + 1 : Nat) : Int) := by have := HDD.out.2.1; rw [IntWalk.i64_in _ (by omega)]; rfl
  have hlw2 : IntKind.i64.wrap ((Y.n n : Int) - 1) = ((l' : Nat) : Int) := by have := HLB.out; rw [IntWalk.i64_in _ (by omega)]; omega
  clear hl'
  go_wp2
  go_region_held3 (fun w' => w'.cell? ⟨bx, 5, none⟩ = some (.int .i64 (n : Nat)) ∧ w'.cell? ⟨Y.rb, 0, none⟩ = some (.slice (some ad) Y.rs.length Y.cR) ∧ w'.cell? ⟨(ad.add (n * 2)).block, (ad.add (n * 2)).off + 1, none⟩ = some (.slice A1 (Y.n n) c1))
    (first
      | with_reducible exact ⟨k0, k1, k2⟩
      | with_reducible exact ⟨far4 HNE.out.1 k0, far4 HNE.out.2.1 k1, far4 HNE.out.2.2 k2⟩
      | go_keep)
    (first
      | (go_at_call 21; refine (HIH.out n l' p (d + 1) (tick d s) _ HLN.out (by have := HLL.out; omega) HLR.out HI.out.1.1 HP.out (by have := HDD.out.1; omega) HI.out.1.2.1 HI.out.1.2.2 HBD.out.rn).mono ?_; rintro e w1 ⟨v1, rfl, hg, hr, ho⟩
         generalize hx : ev Y.e Y.l f (tr (Y.b n) l') p (d + 1) (tick d s) = qx at hr ho ⊢
         obtain ⟨⟨xk, xe, xl, xf, xt⟩, xs⟩ := qx
         have HXX := Lib.hid hx
         clear hx
         dsimp only at hr ho
         obtain ⟨ax, cx, hv⟩ := Go.X.own_slice ho
         subst hv
         have HOx := Lib.hid (ho.low HBD.out.gr.size)
         have HEx := Lib.hid (HBD.out.next hg hr.rec_)
         have k0 : w1.cell? ⟨bx, 5, none⟩ = some (.int .i64 (n : Nat)) := HBX.out w1 hg
         clear hg hr ho
         dsimp only [rsC]
         obtain ⟨k1, k2⟩ := HCELL.out w1 xs HEx.out.rn
         obtain ⟨⟨z0, z1, z2, z3⟩, y0, y1, y2, y3⟩ := blk4 HEx.out.res))
  rename_i hHeld
  clear hHeld k0 k1 k2 z0 z1 z2 z3 y0 y1 y2 y3 hdw2 hlw2
  have HV : Hid (ev Y.e Y.l (f + 1) (tr (Y.b r) i) p d s = (⟨xk, xe, xl, xf, xt⟩, xs)) := HV0.out.trans HXX.out
  go_wp2
  (try simp only [Exit.inBlock, Exit.then])
  show bodyPost _ _ _ _ _ (set4 w1 w.heap.size (.int .i64 xk) (.int .i64 ((xe : Nat) : Int)) (.string xl) (.slice ax xf.length cx))
  obtain ⟨wz, hwz⟩ : ∃ wz, wz = set4 w1 w.heap.size (.int .i64 xk) (.int .i64 ((xe : Nat) : Int)) (.string xl) (.slice ax xf.length cx) := ⟨_, rfl⟩
  rw [← hwz]
  obtain ⟨hT, hB⟩ := NS.put (tr := xt) (HEx.out) HOx.out hwz
  obtain ⟨⟨r0, r1, r2, r3⟩, _⟩ := blk4 hB
  clear hwz hB
  refine bodyPost_ret (v := .agg (rsC xk (xe) xl (.slice ax xf.length cx)).toArray) (by simp [results, rsC, Try.results21, go_sem, r0, r1, r2, r3]) rfl ?_
  rw [HV.out]
  exact hT
set_option maxRecDepth 100000 in
set_option maxHeartbeats 4000000 in
theorem node_star (Y : Cy) (F : Fy Y) (f : Nat) (IH : StarC Y f) (r i p d : Nat) (s : St) (w : World) (hr : r < Y.rs.length) (hi : i < Y.n r) (hlw : low Y.rs.length (tr (Y.b r) i)) (hop : (cd (cr Y.rs r).f1 i).f0 = 6) (hf : 2 * (Y.l.steps - s.steps) + 1 ≤ f + 1) (hp : p ≤ Y.inp.size) (hd : d ≤ Y.l.depth) (hd2 : s.depth ≤ Y.l.depth) (hs2 : s.steps < Y.l.steps) (hs : ¬ stop Y.l d s = true) (hn : Rm Y s w) : Calls Try.prog 21 #[.pointer (some ⟨Y.rb, 0, none⟩), .int .i64 (r : Nat), .int .i64 (i : Nat), .int .i64 (p : Nat), .int .i64 (d : Nat)] w (ToldM Y w (ev Y.e Y.l (f + 1) (tr (Y.b r) i) p d s)) := by
  have HF := Lib.hid F; clear F
  have HIH := Lib.hid IH; clear IH
  have HG := Lib.hid (go_on hs)
  have HS := Lib.hid hs; clear hs
  have HZ := Lib.hid (NS.start hn); clear hn
  have HI := Lib.hid (in_stepM hf hs2 hd hd2)
  have HP := Lib.hid hp
  have HF2 : Hid (2 * (Y.l.steps - (tick d s).steps) + 2 ≤ f) := by show _ ≤ _; simp only [tick]; omega
  have HDD : Hid (d ≤ Y.l.depth ∧ d ≤ 1048576 ∧ p ≤ 1048576 ∧ Y.l.depth ≤ 1048576 ∧ Y.l.steps ≤ 1048576) := ⟨hd, Nat.le_trans hd HF.out.depth, Nat.le_trans hp HF.out.short, HF.out.depth, HF.out.steps⟩
  have HN : Hid (r < Y.rs.length ∧ i < Y.n r ∧ Y.n r ≤ 1048576 ∧ Y.rs.length ≤ 1048576) := ⟨hr, hi, HF.out.good.len r hr, HF.out.good.few.2⟩
  have HB : Hid (fits (Y.b r) (i + 1)) := (HF.out.good.fits r hr).low hi
  have HCN : Hid (cn (Y.b r) i = cnOf (cd (cr Y.rs r).f1 i)) := cn_op hi
  have HLOW := Lib.hid hlw; clear hlw
  have HA1 : Hid (ar (cn (Y.b r) i).op = 1) := by show _ = _; rw [HCN.out]; simp [cnOf, ar, hop]
  obtain ⟨m, hm⟩ : ∃ m, i = m + 1 := ⟨i - 1, by have := (part1 HB.out HA1.out).1; omega⟩
  have HPT : Hid (pa (Y.b r) i = (m : Int) ∧ pb (Y.b r) i = -1) := by rw [pa, pb, HA1.out, hm]; exact ⟨by simp, rfl⟩
  have HTR : Hid (tr (Y.b r) i = mk (cn (Y.b r) i) (tr (Y.b r) m) .emp) := by show _ = _; rw [(part1 HB.out HA1.out).2.1, hm, Nat.add_sub_cancel]
  have HMN : Hid (m < Y.n r) := by show _ < _; omega
  clear hm
  have e1 : s.err = 0 := HG.out.1
  have h2' : ¬ (Y.l.depth : Int) < (d : Int) := by have := HG.out.2.1; omega
  have h3' : ¬ (Y.l.steps : Int) ≤ (s.steps : Int) := by have := HG.out.2.2; omega
  have hws : wrap64 ((s.steps : Int) + 1) = ((s.steps + 1 : Nat) : Int) := by have := HDD.out; have := HG.out.2.2; rw [IntWalk.wrap64_in _ (by omega)]; rfl
  clear hf hp hd hd2 hs2 hr hi
  go_enter Try.func21, Try.ntmps21
  go_upto_region 1 with (fail)
  generalize hwa : w.alloc (.cells #[.int .i64 0, .int .i64 0, .string ⟨#[]⟩, .slice none 0 0] 31) = wa
  have HA : Hid (NS Y s s w wa) := by rw [← hwa]; exact HZ.out
  clear hwa HZ
  obtain ⟨⟨c4, c5, c6, c7, c8⟩, f6, f7, f8⟩ := rec9 HA.out.rec_
  go_wp2
  go_quiet (fail)
  have HW : ∀ x y : Int, x = ((s.steps + 1 : Nat) : Int) → y = ((max s.depth d : Nat) : Int) → Hid (NS Y s (tick d s) w (((wa.drewN nq).setCell ⟨Y.rb, 7, none⟩ (.int .i64 x)).setCell ⟨Y.rb, 6, none⟩ (.int .i64 y))) := by
    intro x y hx hy
    have h1 := HA.out.more (Go.X.grown_of_below (Below.drewQ ⟨nq, rfl⟩) none)
    refine h1.next (Fr4.grown2 (grown_setCell _ ⟨Y.rb, 7, none⟩ _) (grown_setCell _ ⟨Y.rb, 6, none⟩ _)) ?_
    rw [← tickM hx hy]
    exact (h1.rec_.setCell 7 _).setCell 6 _
  go_upto_region 11 with (fail)
  generalize hwb : ((wa.drewN nq).setCell ⟨Y.rb, 7, none⟩ _).setCell ⟨Y.rb, 6, none⟩ _ = wb
  have HB1 : Hid (NS Y s (tick d s) w wb) := by
    rw [← hwb]
    refine HW _ _ ?_ ?_
    · omega
    · omega
  clear hwb HW c4 c5 c6 c7 c8 f6 f7 f8 e1 h2' h3' hws HA
  obtain ⟨ad, A1, c1, eA, e0, e1, hl1, hc1⟩ := cr_at (Kd.C_below HF.out.C HB1.out.rn.bel) r HN.out.1
  obtain ⟨a1, eA1, n0, n1, n2, n3, n4, n5, n6⟩ := cd_at hc1 i HN.out.2.1
  subst eA1
  have hbx : w.heap.size < wb.heap.size := HB1.out.sz
  rw [hop] at n0
  obtain ⟨nd, hnd⟩ : ∃ nd, cd (cr Y.rs r).f1 i = nd := ⟨_, rfl⟩
  rw [hnd] at HCN hop n1 n2 n3 n4 n5 n6
  have HOP := Lib.hid hop
  have HND := Lib.hid hnd
  have hr0 : (0 : Int) ≤ (r : Int) := Int.natCast_nonneg _
  have hr1 : (r : Int) < (Y.rs.length : Int) := Int.ofNat_lt.2 HN.out.1
  have hi0 : (0 : Int) ≤ (i : Int) := Int.natCast_nonneg _
  have hi1 : (i : Int) < (Y.n r : Int) := Int.ofNat_lt.2 HN.out.2.1
  have c0 : wb.cell? ⟨Y.rb, 0, none⟩ = some (.slice (some ad) Y.rs.length Y.cR) := by rw [← eA]; exact HB1.out.rec_.cell 0
  have e1' : wb.cell? ⟨(ad.add (r * 2)).block, (ad.add (r * 2)).off + 1, none⟩ = some (.slice (some a1) (Y.n r) c1) := e1
  have HWC : ∀ wc : World, wc = wb.alloc (.cells #[.int .i64 6, .int .u64 nd.f1.f0, .int .u64 nd.f1.f1, .int .u64 nd.f1.f2, .int .u64 nd.f1.f3, .int .i64 nd.f2, .string nd.f3] 55) → Hid (NS Y s (tick d s) w wc ∧ Blk wc wb.heap.size 55 [.int .i64 6, .int .u64 nd.f1.f0, .int .u64 nd.f1.f1, .int .u64 nd.f1.f2, .int .u64 nd.f1.f3, .int .i64 nd.f2, .string nd.f3] ∧ w.heap.size < wb.heap.size) := by
    rintro wc rfl
    exact ⟨HB1.out.more (World.grownBy_alloc wb _ none), Blk.alloc wb _ _, HB1.out.sz⟩
  clear hnd hop e0 e1 hl1 hc1 hbx eA
  go_upto_region 12 with (fail)
  generalize hwc : wb.alloc _ = wc
  have HC := HWC wc hwc.symm
  clear hwc HWC c0 e1' n0 n1 n2 n3 n4 n5 n6 HB1 hi1
  generalize wb.heap.size = bx at *
  obtain ⟨q, hq, g1, g2⟩ := HC.out.1.rn.parts r HN.out.1
  obtain ⟨g3, g4⟩ := g2 i HN.out.2.1
  rw [HPT.out.1] at g3
  rw [HPT.out.2] at g4
  have c2 : wc.cell? ⟨Y.rb, 2, none⟩ = some (.slice (some Y.PA) Y.rs.length Y.cP) := HC.out.1.rec_.cell 2
  have hi1 : (i : Int) < (Y.n r : Int) := Int.ofNat_lt.2 HN.out.2.1
  have b0 : wc.cell? ⟨bx, 0, none⟩ = some (.int .i64 6) := HC.out.2.1.cell 0
  clear g2
  go_quiet (fail)
  have HD : Hid (NS Y s (tick d s) w (wc.drewN nq) ∧ Blk (wc.drewN nq) bx 55 [.int .i64 6, .int .u64 nd.f1.f0, .int .u64 nd.f1.f1, .int .u64 nd.f1.f2, .int .u64 nd.f1.f3, .int .i64 nd.f2, .string nd.f3] ∧ w.heap.size < bx) := by
    have g := Go.X.grown_of_below (Below.drewQ (w := wc) ⟨nq, rfl⟩) none
    exact ⟨HC.out.1.more g, HC.out.2.1.grown g (by simp), HC.out.2.2⟩
  clear b0 c2 g1 g3 g4 hr0 hr1 hi0 hi1 HC
  generalize wc.drewN nq = wd at *
  have b0 : wd.cell? ⟨bx, 0, none⟩ = some (.int .i64 6) := HD.out.2.1.cell 0
  have HTR' : Hid (tr (Y.b r) i = .star (tr (Y.b r) m)) := by show _ = _; rw [HTR.out, HCN.out]; simp [cnOf, mk, HOP.out]
  have HLW : Hid (low Y.rs.length (tr (Y.b r) m)) := by have := HLOW.out; rw [HTR'.out] at this; exact this
  go_wp2_with (fail)
  refine (HIH.out r m p d (tick d s) _ HN.out.1 HMN.out HLW.out HF2.out HP.out HDD.out.1 HI.out.1.2.1 HI.out.1.2.2 HD.out.1.rn).mono ?_
  rintro e w1 ⟨v1, rfl, hg, hr, ho⟩
  obtain ⟨ax, cx, hv⟩ := Go.X.own_slice ho
  subst hv
  have HOx := Lib.hid (ho.low HD.out.1.gr.size)
  have HEx := Lib.hid (HD.out.1.next hg hr.rec_)
  clear hg hr ho b0
  generalize hx : lp Y.e Y.l f (tr (Y.b r) m) p [] 0 d (tick d s) = qx at *
  obtain ⟨⟨xk, xe, xl, xf, xt⟩, xs⟩ := qx
  dsimp only [rsC] at *
  have HV : Hid (ev Y.e Y.l (f + 1) (tr (Y.b r) i) p d s = (⟨xk, xe, xl, xf, xt⟩, xs)) := by show _ = _; rw [HTR'.out, ev_star _ _ _ HS.out, hx]
  clear hx
  obtain ⟨⟨z0, z1, z2, z3⟩, y0, y1, y2, y3⟩ := blk4 (HEx.out).res
  go_wp2
  clear z0 z1 z2 z3 y0 y1 y2 y3
  (try simp only [Exit.inBlock, Exit.then])
  show bodyPost _ _ _ _ _ (set4 w1 w.heap.size (.int .i64 xk) (.int .i64 ((xe : Nat) : Int)) (.string xl) (.slice ax xf.length cx))
  obtain ⟨wz, hwz⟩ : ∃ wz, wz = set4 w1 w.heap.size (.int .i64 xk) (.int .i64 ((xe : Nat) : Int)) (.string xl) (.slice ax xf.length cx) := ⟨_, rfl⟩
  rw [← hwz]
  obtain ⟨hT, hB⟩ := NS.put (tr := xt) (HEx.out) HOx.out hwz
  obtain ⟨⟨r0, r1, r2, r3⟩, _⟩ := blk4 hB
  clear hwz hB
  refine bodyPost_ret (v := .agg (rsC xk (xe) xl (.slice ax xf.length cx)).toArray) (by simp [results, rsC, Try.results21, go_sem, r0, r1, r2, r3]) rfl ?_
  rw [HV.out]
  exact hT
set_option maxRecDepth 100000 in
set_option maxHeartbeats 4000000 in
theorem starR.calls (Y : Cy) (F : Fy Y) (f : Nat) (IH : ∀ g, g ≤ f → NodeC Y g) : StarC Y f := by
  intro r m p d s w hr hm hlw hf hp hd hd2 hs2 hn
  have HF := Lib.hid F; clear F
  have HIH := Lib.hid IH; clear IH
  have HZ := Lib.hid (NS.start hn); clear hn
  have HP := Lib.hid hp
  have HF2 := Lib.hid hf
  have HDD : Hid (d ≤ Y.l.depth ∧ d ≤ 1048576 ∧ Y.l.depth ≤ 1048576 ∧ Y.l.steps ≤ 1048576 ∧ s.depth ≤ Y.l.depth ∧ s.steps ≤ Y.l.steps) := ⟨hd, Nat.le_trans hd HF.out.depth, HF.out.depth, HF.out.steps, hd2, hs2⟩
  have HN : Hid (r < Y.rs.length ∧ m < Y.n r ∧ low Y.rs.length (tr (Y.b r) m)) := ⟨hr, hm, hlw⟩
  clear hf hp hd hd2 hs2 hr hm hlw
  obtain ⟨a, ha⟩ : ∃ a, tr (Y.b r) m = a := ⟨_, rfl⟩
  have HAA := Lib.hid ha
  rw [ha] at HN ⊢
  clear ha
  go_enter Try.func35, Try.ntmps35
  go_upto_region 1 with (fail)
  generalize hwa : w.alloc (.cells #[.int .i64 0, .int .i64 0, .string ⟨#[]⟩, .slice none 0 0] 31) = wa
  have HA : Hid (NS Y s s w wa) := by rw [← hwa]; exact HZ.out
  clear hwa HZ
  have HK' : ∀ wk : World, wk = wa.alloc (.cells #[.int .i64 1, .int .i64 (p : Nat), .string ⟨#[]⟩, .slice none 0 0] 31) → Hid (NS Y s s w wk ∧ Blk wk wa.heap.size 31 (rsC 1 p ⟨#[]⟩ (.slice none 0 0)) ∧ w.heap.size < wa.heap.size) := by
    rintro wk rfl
    exact ⟨HA.out.more (World.grownBy_alloc wa _ none), Blk.alloc wa _ _, HA.out.sz⟩
  go_wp2
  generalize hwk : wa.alloc (.cells #[.int .i64 1, .int .i64 (p : Nat), .string ⟨#[]⟩, .slice none 0 0] 31) = wk
  have HK := HK' wk hwk.symm
  clear HK' hwk HA
  generalize wa.heap.size = b9 at *
  go_loopg [12] f (fun q v12 wr => ∃ (en : Nat) (fo : List Cap) (tr : Nat) (s' : St) (am : Option Addr) (cm : Nat), Hid (lp Y.e Y.l q a en fo tr d s' = lp Y.e Y.l f a p [] 0 d s) ∧
    Hid ((s'.err = 0 → 2 * (Y.l.steps - s'.steps) + 2 ≤ q) ∧ 1 ≤ q ∧ q ≤ f ∧ en ≤ Y.inp.size ∧ s'.depth ≤ Y.l.depth ∧ s'.steps ≤ Y.l.steps ∧ fo.length ≤ s'.steps ∧ tr ≤ fo.length) ∧
    Hid (NS Y s s' w wr ∧ Blk wr b9 31 (rsC 1 en ⟨#[]⟩ (.slice am fo.length cm)) ∧ OwnF wr w.heap.size (.slice am fo.length cm) fo ∧ w.heap.size < b9))
  case atStart =>
    exact ⟨p, [], 0, s, none, 0, rfl, ⟨fun _ => HF2.out, by have := HF2.out; omega, Nat.le_refl _, HP.out, HDD.out.2.2.2.2.1, HDD.out.2.2.2.2.2, Nat.zero_le _, Nat.le_refl _⟩, HK.out.1, HK.out.2.1, OwnF.nil _ _, HK.out.2.2⟩
  case round =>
    clear HK
    obtain ⟨en, fo, tr, s', am, cm, HLP, HN', HR⟩ := hrel
    obtain ⟨q, hq⟩ : ∃ q, gk = q + 1 := ⟨gk - 1, by have := HN'.out.2.1; omega⟩
    subst hq
    obtain ⟨⟨_, _, _, _, c8⟩, _, _, _⟩ := rec9 HR.out.1.rec_
    by_cases he : s'.err = 0
    · have hdw : wrap64 ((d : Int) + 1) = ((d + 1 : Nat) : Int) := by have := HDD.out.2.1; rw [IntWalk.wrap64_in _ (by omega)]; rfl
      have HHE := Lib.hid he
      obtain ⟨m0, m1, m2, m3⟩ := (blk4 HR.out.2.1).1
      go_wp2_with (fail)
      refine (HIH.out q (by have := HN'.out.2.2.1; omega) r m en (d + 1) s' _ HN.out.1 HN.out.2.1 (by rw [HAA.out]; exact HN.out.2.2) (by have := HN'.out.1 HHE.out; omega) HN'.out.2.2.2.1 (by have := HDD.out.1; omega) HN'.out.2.2.2.2.1 HN'.out.2.2.2.2.2.1 HR.out.1.rn).mono ?_
      rintro e w2 ⟨v1, rfl, hg, hr, ho⟩
      obtain ⟨ax, cx, hv⟩ := Go.X.own_slice ho
      subst hv
      have hok := ev_ok Y.e Y.l q a en (d + 1) s' (by have := HN'.out.1 HHE.out; omega)
      rw [HAA.out] at hr ho ⊢
      have HOx := Lib.hid (ho.low HR.out.1.gr.size)
      have HEx := Lib.hid (HR.out.1.next hg hr.rec_)
      have HC : Hid (Blk w2 b9 31 (rsC 1 en ⟨#[]⟩ (.slice am fo.length cm)) ∧ OwnF w2 w.heap.size (.slice am fo.length cm) fo ∧ w.heap.size < b9) :=
        ⟨HR.out.2.1.grown hg (by have := HR.out.1.rn0.rec_.lt; have := HR.out.2.2.2; intro e; injection e with e; omega), HR.out.2.2.1.kept hg HR.out.1.rec_ (by decide), HR.out.2.2.2⟩
      clear hg hr ho HR m0 m1 m2 m3 c8 hdw
      generalize hx : ev Y.e Y.l q a en (d + 1) s' = qx at *
      obtain ⟨⟨xk, xe, xl, xf, xt⟩, xs⟩ := qx
      dsimp only [rsC] at *
      have HOK := Lib.hid hok
      have HX := Lib.hid hx
      clear hok hx
      have HKx' : ∀ wk : World, wk = w2.alloc (.cells #[.int .i64 xk, .int .i64 (xe : Nat), .string xl, .slice ax xf.length cx] 31) → Hid (NS Y s xs w wk ∧ Blk wk w2.heap.size 31 (rsC xk xe xl (.slice ax xf.length cx)) ∧ OwnF wk w.heap.size (.slice ax xf.length cx) xf ∧ w.heap.size < w2.heap.size) := by
        rintro wk rfl
        have g := World.grownBy_alloc w2 (.cells #[.int .i64 xk, .int .i64 (xe : Nat), .string xl, .slice ax xf.length cx] 31) none
        exact ⟨HEx.out.more g, Blk.alloc w2 _ _, HOx.out.more g, HEx.out.sz⟩
      have HC' : ∀ wm : World, wm = w2.alloc (.cells #[.int .i64 xk, .int .i64 (xe : Nat), .string xl, .slice ax xf.length cx] 31) → Hid (Blk wm b9 31 (rsC 1 en ⟨#[]⟩ (.slice am fo.length cm)) ∧ OwnF wm w.heap.size (.slice am fo.length cm) fo ∧ w.heap.size < b9 ∧ b9 < w2.heap.size) := by
        rintro wm rfl
        have g := World.grownBy_alloc w2 (.cells #[.int .i64 xk, .int .i64 (xe : Nat), .string xl, .slice ax xf.length cx] 31) none
        exact ⟨HC.out.1.grown g (by simp), HC.out.2.1.more g, HC.out.2.2, HC.out.1.lt⟩
      go_upto_region 4 with (fail)
      generalize hwk : w2.alloc (.cells #[.int .i64 xk, .int .i64 (xe : Nat), .string xl, .slice ax xf.length cx] 31) = wm
      have HKx := HKx' wm hwk.symm
      have HCm := HC' wm hwk.symm
      clear HC HC'
      clear HKx' hwk HEx HOx
      generalize w2.heap.size = bx at *
      obtain ⟨⟨x0, x1, x2, x3⟩, xf0, xf1, xf2, xf3⟩ := blk4 HKx.out.2.1
      obtain ⟨⟨m0, m1, m2, m3⟩, m4, m5, m6, m7⟩ := blk4 HCm.out.1
      by_cases hk0 : xk = 0
      · have hkb : (xk == (0 : Int)) = true := by rw [hk0]; rfl
        have HV : Hid (lp Y.e Y.l f a p [] 0 d s = (⟨1, en, ⟨#[]⟩, fo, tr⟩, xs)) := by show _ = _; rw [← HLP.out, lp_go _ _ _ _ _ _ HHE.out, HX.out, if_pos hk0]
        obtain ⟨⟨z0, z1, z2, z3⟩, y0, y1, y2, y3⟩ := blk4 (HKx.out.1).res
        go_wp2
        clear z0 z1 z2 z3 y0 y1 y2 y3
        (try simp only [Exit.inBlock, Exit.then])
        show bodyPost _ _ _ _ _ (set4 wm w.heap.size (.int .i64 1) (.int .i64 ((en : Nat) : Int)) (.string ⟨#[]⟩) (.slice am fo.length cm))
        obtain ⟨wz, hwz⟩ : ∃ wz, wz = set4 wm w.heap.size (.int .i64 1) (.int .i64 ((en : Nat) : Int)) (.string ⟨#[]⟩) (.slice am fo.length cm) := ⟨_, rfl⟩
        rw [← hwz]
        obtain ⟨hT, hB⟩ := NS.put (tr := tr) (HKx.out.1) HCm.out.2.1 hwz
        obtain ⟨⟨r0, r1, r2, r3⟩, _⟩ := blk4 hB
        clear hwz hB
        refine bodyPost_ret (v := .agg (rsC 1 (en) ⟨#[]⟩ (.slice am fo.length cm)).toArray) (by simp [results, rsC, Try.results35, go_sem, r0, r1, r2, r3]) rfl ?_
        rw [HV.out]
        exact hT
      · have hkb : (xk == (0 : Int)) = false := beq_eq_false_iff_ne.2 hk0
        by_cases hk2 : xk = 2
        · have hkb2 : (xk == (2 : Int)) = true := by rw [hk2]; rfl
          have HV : Hid (lp Y.e Y.l f a p [] 0 d s = (⟨xk, xe, xl, xf, xt⟩, xs)) := by show _ = _; rw [← HLP.out, lp_go _ _ _ _ _ _ HHE.out, HX.out, if_neg hk0, if_pos hk2]
          obtain ⟨⟨z0, z1, z2, z3⟩, y0, y1, y2, y3⟩ := blk4 (HKx.out.1).res
          go_wp2
          clear z0 z1 z2 z3 y0 y1 y2 y3
          (try simp only [Exit.inBlock, Exit.then])
          show bodyPost _ _ _ _ _ (set4 wm w.heap.size (.int .i64 2) (.int .i64 ((xe : Nat) : Int)) (.string xl) (.slice ax xf.length cx))
          obtain ⟨wz, hwz⟩ : ∃ wz, wz = set4 wm w.heap.size (.int .i64 2) (.int .i64 ((xe : Nat) : Int)) (.string xl) (.slice ax xf.length cx) := ⟨_, rfl⟩
          rw [← hwz]
          obtain ⟨hT, hB⟩ := NS.put (tr := xt) (HKx.out.1) HKx.out.2.2.1 hwz
          obtain ⟨⟨r0, r1, r2, r3⟩, _⟩ := blk4 hB
          clear hwz hB
          refine bodyPost_ret (v := .agg (rsC 2 (xe) xl (.slice ax xf.length cx)).toArray) (by simp [results, rsC, Try.results35, go_sem, r0, r1, r2, r3]) rfl ?_
          rw [HV.out, hk2]
          exact hT
        · have hkb2 : (xk == (2 : Int)) = false := beq_eq_false_iff_ne.2 hk2
          have HLPN : Hid (lp Y.e Y.l q a xe (fo ++ xf) (tr + xt) d xs = lp Y.e Y.l f a p [] 0 d s) := by show _ = _; rw [← HLP.out, lp_go _ _ _ _ _ _ HHE.out, HX.out, if_neg hk0, if_neg hk2]
          have HNUM : Hid (fo.length + xf.length ≤ 1048576 ∧ ((xs.err = 0 → 2 * (Y.l.steps - xs.steps) + 2 ≤ q) ∧ 1 ≤ q ∧ q ≤ f ∧ xe ≤ Y.inp.size ∧ xs.depth ≤ Y.l.depth ∧ xs.steps ≤ Y.l.steps ∧ (fo ++ xf).length ≤ xs.steps ∧ tr + xt ≤ (fo ++ xf).length)) := by
            obtain ⟨a1, a2, a3, a4, a5, a6, a7, a8⟩ := HN'.out
            have h1 := HOK.out.few
            have h2 := HOK.out.tr
            have h3 := HOK.out.max a6
            have h4 := HOK.out.deep a5
            have h5 := HOK.out.en a4
            have h7 := HF.out.steps
            have h8 := HOK.out.more
            have h9 := a1 HHE.out
            have h10 : xe ≤ Y.inp.size := h5
            simp only [List.length_append] at *
            refine ⟨by omega, fun h => ?_, by omega, by omega, h10, h4, h3, by omega, by omega⟩
            have := h8 h
            omega
          clear HLP HOK HX HN'
          have HW : Hid (NS Y s xs w (wm.setCell ⟨b9, 1, none⟩ (.int .i64 (xe : Nat))) ∧ Blk (wm.setCell ⟨b9, 1, none⟩ (.int .i64 (xe : Nat))) b9 31 (rsC 1 xe ⟨#[]⟩ (.slice am fo.length cm)) ∧
              OwnF (wm.setCell ⟨b9, 1, none⟩ (.int .i64 (xe : Nat))) w.heap.size (.slice am fo.length cm) fo ∧ OwnF (wm.setCell ⟨b9, 1, none⟩ (.int .i64 (xe : Nat))) w.heap.size (.slice ax xf.length cx) xf ∧ w.heap.size < b9) := by
            have g := grown_setCell wm ⟨b9, 1, none⟩ (.int .i64 (xe : Nat))
            obtain ⟨c1, c2, c3, c4⟩ := HCm.out
            exact ⟨HKx.out.1.own g c3, c1.setCell 1 _, c2.kept g c1 (by decide), HKx.out.2.2.1.kept g c1 (by decide), c3⟩
          have n1 : ¬ b9 = bx := by have := HCm.out.2.2.2; omega
          have n2 : ¬ bx = b9 := by have := HCm.out.2.2.2; omega
          clear HKx HCm
          go_wp2_with (first
            | (at_builtin; refine appendRow rfl (.tmp 40) (.tmp 42) 29 63 rfl w.heap.size _ _ 4 40 Try.underlying29 info63' rfl _ fo.length _ rfl HW.out.2.2.1 _ xf.length _ rfl HW.out.2.2.2.1 (capsOf_one _) ?_ ?_ ?_ ?_)
            | fail)
          · have := HNUM.out.1; simp only [maxLen]; omega
          · have := HNUM.out.1; omega
          · exact HW.out.1.gr.size
          intro v' w5 hown hap
          obtain ⟨a9, c9, hv9⟩ := Go.X.own_slice hown
          subst hv9
          have HG : Hid (NS Y s xs w w5 ∧ OwnF w5 w.heap.size (.slice a9 (fo.length + xf.length) c9) (fo ++ xf) ∧ Blk w5 b9 31 (rsC 1 xe ⟨#[]⟩ (.slice am fo.length cm)) ∧ w.heap.size < b9) :=
            ⟨HW.out.1.row HW.out.2.2.1 hap.grown, OwnF.appended hown, hap.keeps_lt HW.out.2.1 (fun e => own_other HW.out.2.2.1 HW.out.2.1 (by decide) e.symm), HW.out.2.2.2.2⟩
          clear hown hap HW x0 x1 x2 x3 xf0 xf1 xf2 xf3 m0 m1 m2 m3 m4 m5 m6 m7
          obtain ⟨⟨m0, m1, m2, m3⟩, m4, m5, m6, m7⟩ := blk4 HG.out.2.2.1
          go_wp2
          clear m0 m1 m2 m3 m4 m5 m6 m7 n1 n2
          have HFIN : Hid (NS Y s xs w (w5.setCell ⟨b9, 3, none⟩ (.slice a9 (fo.length + xf.length) c9)) ∧
              Blk (w5.setCell ⟨b9, 3, none⟩ (.slice a9 (fo.length + xf.length) c9)) b9 31 (rsC 1 xe ⟨#[]⟩ (.slice a9 (fo ++ xf).length c9)) ∧
              OwnF (w5.setCell ⟨b9, 3, none⟩ (.slice a9 (fo.length + xf.length) c9)) w.heap.size (.slice a9 (fo ++ xf).length c9) (fo ++ xf) ∧ w.heap.size < b9) := by
            have g := grown_setCell w5 ⟨b9, 3, none⟩ (.slice a9 (fo.length + xf.length) c9)
            refine ⟨HG.out.1.own g HG.out.2.2.2, ?_, ?_, HG.out.2.2.2⟩
            · rw [List.length_append]
              exact HG.out.2.2.1.setCell 3 _
            · rw [List.length_append]
              exact HG.out.2.1.kept g HG.out.2.2.1 (by decide)
          go_roundg q
          case measure => exact Nat.lt_succ_self _
          case rel => exact ⟨xe, fo ++ xf, tr + xt, xs, a9, c9, HLPN.out, HNUM.out.2, HFIN.out⟩
    · have heb : (s'.err == (0 : Int)) = false := beq_eq_false_iff_ne.2 he
      have HV : Hid (lp Y.e Y.l f a p [] 0 d s = (.zero, s')) := by show _ = _; rw [← HLP.out, lp_err _ _ _ _ _ _ he]
      obtain ⟨⟨z0, z1, z2, z3⟩, y0, y1, y2, y3⟩ := blk4 (HR.out.1).res
      go_wp2
      clear z0 z1 z2 z3 y0 y1 y2 y3
      (try simp only [Exit.inBlock, Exit.then])
      show bodyPost _ _ _ _ _ (set4 wr w.heap.size (.int .i64 0) (.int .i64 ((0 : Nat) : Int)) (.string ⟨#[]⟩) (.slice none 0 0))
      obtain ⟨wz, hwz⟩ : ∃ wz, wz = set4 wr w.heap.size (.int .i64 0) (.int .i64 ((0 : Nat) : Int)) (.string ⟨#[]⟩) (.slice none 0 0) := ⟨_, rfl⟩
      rw [← hwz]
      obtain ⟨hT, hB⟩ := NS.put (tr := 0) (HR.out.1) (OwnF.nil _ _) hwz
      obtain ⟨⟨r0, r1, r2, r3⟩, _⟩ := blk4 hB
      clear hwz hB
      refine bodyPost_ret (v := .agg (rsC 0 (0) ⟨#[]⟩ (.slice none 0 0)).toArray) (by simp [results, rsC, Try.results35, go_sem, r0, r1, r2, r3]) rfl ?_
      rw [HV.out]
      exact hT
/-- node comes to ev. -/
theorem node.calls (Y : Cy) (F : Fy Y) : ∀ f, ∀ g, g ≤ f → NodeC Y g
  | 0, g, hg => fun r i p d s w _ _ _ h _ _ _ _ _ => by omega
  | f + 1, g, hg => by
    by_cases h : g ≤ f
    · exact node.calls Y F f g h
    · obtain rfl : g = f + 1 := by omega
      have IH := node.calls Y F f
      intro r i p d s w h1 h2 h3 h4 h5 h6 h7 h8 h9
      by_cases hs : stop Y.l d s = true
      · exact node_stop Y f r i p d s w hs h9
      · obtain ⟨_, g2, g3⟩ := go_on hs
        have hop := (F.good.op r h1 i h2)
        have hcase : (cd (cr Y.rs r).f1 i).f0 = 0 ∨ (cd (cr Y.rs r).f1 i).f0 = 1 ∨ (cd (cr Y.rs r).f1 i).f0 = 2 ∨ (cd (cr Y.rs r).f1 i).f0 = 3 ∨ (cd (cr Y.rs r).f1 i).f0 = 4 ∨ (cd (cr Y.rs r).f1 i).f0 = 5 ∨ (cd (cr Y.rs r).f1 i).f0 = 6 ∨ (cd (cr Y.rs r).f1 i).f0 = 7 ∨ (cd (cr Y.rs r).f1 i).f0 = 8 := by omega
        rcases hcase with e | e | e | e | e | e | e | e | e
        · exact node_emp Y F f (IH f (Nat.le_refl f)) r i p d s w h1 h2 h3 e h4 h5 g2 h7 g3 hs h9
        · exact node_set Y F f (IH f (Nat.le_refl f)) r i p d s w h1 h2 h3 e h4 h5 g2 h7 g3 hs h9
        · exact node_rule Y F f (IH f (Nat.le_refl f)) r i p d s w h1 h2 h3 e h4 h5 g2 h7 g3 hs h9
        · exact node_thr Y F f (IH f (Nat.le_refl f)) r i p d s w h1 h2 h3 e h4 h5 g2 h7 g3 hs h9
        · exact node_seq Y F f (IH f (Nat.le_refl f)) r i p d s w h1 h2 h3 e h4 h5 g2 h7 g3 hs h9
        · exact node_alt Y F f (IH f (Nat.le_refl f)) r i p d s w h1 h2 h3 e h4 h5 g2 h7 g3 hs h9
        · exact node_star Y F f (starR.calls Y F f IH) r i p d s w h1 h2 h3 e h4 h5 g2 h7 g3 hs h9
        · exact node_not Y F f (IH f (Nat.le_refl f)) r i p d s w h1 h2 h3 e h4 h5 g2 h7 g3 hs h9
        · exact node_cap Y F f (IH f (Nat.le_refl f)) r i p d s w h1 h2 h3 e h4 h5 g2 h7 g3 hs h9
end Go.Proofs.Ytmpkkphohilkoaa.B
