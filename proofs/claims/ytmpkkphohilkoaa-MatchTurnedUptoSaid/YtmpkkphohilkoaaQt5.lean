/- Texts joined and shortened (wip/tools/shrink.py): MParts. -/
import Derived.Test.YtmpkkphohilkoaaQt4
/- dowelref10.Parts: the parts of all nodes of a right body. -/
namespace Go.Proofs.Ytmpkkphohilkoaa.B
open Go Go.RowKit Go.X Go.Ma Go.Proofs.YtmpkkphohilkoaaW.PrintWords Go.Proofs.Ytmpkkphohilkoaa.F

/-- The first part of a node, and the second: -1 for none. -/
def pa (b : List CN) (i : Nat) : Int := if ar (cn b i).op = 1 then (i : Int) - 1 else if ar (cn b i).op = 2 then (beg b (i - 1) : Int) - 1 else -1
def pb (b : List CN) (i : Nat) : Int := if ar (cn b i).op = 2 then (i : Int) - 1 else -1
theorem info84 : (Try.prog.info? 84).map (fun i => (i.zero, i.size, i.bytes)) = some (some (.agg #[.int .i64 0, .int .i64 0]), 2, 16) := by kernel_rfl
theorem info3' : (Try.prog.info? 3).map (fun i => (i.zero, i.size, i.bytes)) = some (some (.int .i64 0), 1, 8) := by kernel_rfl
/-- While the parts are told. -/
structure PT (w wr : World) (lb bb n i : Nat) (b : List CN) : Prop where
  bel : Below w.heap.size w wr
  ne : lb ≠ bb
  l0 : w.heap.size ≤ lb
  b0 : w.heap.size ≤ bb
  both : ∃ lc bc, Blk wr lb 84 lc ∧ lc.length = n * 2 ∧ Blk wr bb 3 bc ∧ bc.length = n ∧ ∀ j, j < i → lc[j * 2]? = some (.int .i64 (pa b j)) ∧ lc[j * 2 + 1]? = some (.int .i64 (pb b j)) ∧ bc[j]? = some (.int .i64 (beg b j : Nat))
/-- A node's parts are written. -/
theorem PT.put {w wr w' : World} {lb bb n i : Nat} {b : List CN} {lc bc lc' bc' : List Value} (h : PT w wr lb bb n i b) (h1 : Blk w' lb 84 lc') (h2 : Blk w' bb 3 bc') (hb : Below w.heap.size w w') (l1 : lc'.length = n * 2) (l2 : bc'.length = n)
    (hl : ∀ k, k ≠ i * 2 → k ≠ i * 2 + 1 → lc'[k]? = lc[k]?) (hbc : ∀ k, k ≠ i → bc'[k]? = bc[k]?) (a1 : lc'[i * 2]? = some (.int .i64 (pa b i))) (a2 : lc'[i * 2 + 1]? = some (.int .i64 (pb b i))) (a3 : bc'[i]? = some (.int .i64 (beg b i : Nat)))
    (old : ∀ j, j < i → lc[j * 2]? = some (.int .i64 (pa b j)) ∧ lc[j * 2 + 1]? = some (.int .i64 (pb b j)) ∧ bc[j]? = some (.int .i64 (beg b j : Nat))) : PT w w' lb bb n (i + 1) b := by
  refine ⟨hb, h.ne, h.l0, h.b0, lc', bc', h1, l1, h2, l2, fun j hj => ?_⟩
  by_cases hji : j = i
  · subst hji
    exact ⟨a1, a2, a3⟩
  · obtain ⟨o1, o2, o3⟩ := old j (by omega)
    exact ⟨by rw [hl _ (by omega) (by omega)]; exact o1, by rw [hl _ (by omega) (by omega)]; exact o2, by rw [hbc _ hji]; exact o3⟩
/-- The two rows' blocks, whole. -/
structure W3 (w wr : World) (lb bb : Nat) (lc bc : List Value) : Prop where
  bel : Below w.heap.size w wr
  ne : lb ≠ bb
  l0 : w.heap.size ≤ lb
  b0 : w.heap.size ≤ bb
  l : Blk wr lb 84 lc
  b : Blk wr bb 3 bc
theorem W3.setL {w wr : World} {lb bb : Nat} {lc bc : List Value} (h : W3 w wr lb bb lc bc) (k : Nat) (v : Value) : W3 w (wr.setCell ⟨lb, k, none⟩ v) lb bb (lc.set k v) bc :=
  ⟨h.bel.setCell (p := ⟨lb, k, none⟩) h.l0 v, h.ne, h.l0, h.b0, h.l.setCell k v, h.b.grown (grown_setCell wr ⟨lb, k, none⟩ v) (by intro e; injection e with e; exact h.ne e.symm)⟩
theorem W3.setB {w wr : World} {lb bb : Nat} {lc bc : List Value} (h : W3 w wr lb bb lc bc) (k : Nat) (v : Value) : W3 w (wr.setCell ⟨bb, k, none⟩ v) lb bb lc (bc.set k v) :=
  ⟨h.bel.setCell (p := ⟨bb, k, none⟩) h.b0 v, h.ne, h.l0, h.b0, h.l.grown (grown_setCell wr ⟨bb, k, none⟩ v) (by intro e; injection e with e; exact h.ne e), h.b.setCell k v⟩
theorem W3.drew {w wr : World} {lb bb : Nat} {lc bc : List Value} (h : W3 w wr lb bb lc bc) : W3 w wr.drew lb bb lc bc := by
  have hq := Below.drewQ (w := wr) ⟨1, rfl⟩
  exact ⟨h.bel.trans (hq.mono h.bel.size), h.ne, h.l0, h.b0, h.l.below hq h.l.lt, h.b.below hq h.b.lt⟩
set_option maxRecDepth 100000 in
set_option maxHeartbeats 4000000 in
theorem Parts.calls (A : Option Addr) (c : Nat) (xs : List S55) (w : World) (hx : Kd.C k55 w A xs.length xs) (hn : xs.length ≤ 1048576) (hf : fits (xs.map cnOf) xs.length)
    (hop : ∀ i, i < xs.length → 0 ≤ (cd xs i).f0 ∧ (cd xs i).f0 ≤ 8 ∧ 0 ≤ (cd xs i).f2) :
    Calls Try.prog 33 #[.slice A xs.length c] w fun e w' => ∃ lb bb, e = .returned (.slice (some ⟨lb, 0, none⟩) xs.length xs.length) ∧ PT w w' lb bb xs.length xs.length (xs.map cnOf) := by
  have HX := Lib.hid hx; clear hx
  have HF := Lib.hid hf; clear hf
  have HOP := Lib.hid hop; clear hop
  go_enter Try.func33, Try.ntmps33
  go_wp2_with (first
    | (at_make; refine Go.X.make rfl _ _ 82 rfl 84 (.agg #[.int .i64 0, .int .i64 0]) 2 16 Try.underlying82 info84 .i64 .i64 _ _ xs.length rfl rfl rfl rfl (by omega) (by simp only [maxLen]; omega) ?_; intro w1 hb1 hg1; have HB1 := Lib.hid hb1; clear hb1; have HG1 := Lib.hid hg1; clear hg1)
    | (at_make; refine Go.X.make rfl _ _ 111 rfl 3 (.int .i64 0) 1 8 Try.underlying111 info3' .i64 .i64 _ _ xs.length rfl rfl rfl rfl (by omega) (by simp only [maxLen]; omega) ?_; intro w2 hb2 hg2; have HB2 := Lib.hid hb2; clear hb2; have HG2 := Lib.hid hg2; clear hg2)
    | fail)
  have HP : Hid (PT w w2 w.heap.size w1.heap.size xs.length 0 (xs.map cnOf)) := by
    have hl1 := HB1.out.lt
    refine ⟨((Below.refl _ w).grown HG1.out (Nat.le_refl _) (fun k hk => by cases hk)).grown HG2.out HG1.out.size (fun k hk => by cases hk), by omega, Nat.le_refl _, HG1.out.size, _, _, HB1.out.grown HG2.out (by simp), ?_, HB2.out, ?_, fun j hj => by omega⟩
    · simp [madeCells]
    · simp [madeCells]
  clear HB1 HG1 HB2 HG2
  obtain ⟨lb, hlb⟩ : ∃ lb, w.heap.size = lb := ⟨_, rfl⟩
  obtain ⟨bb, hbb⟩ : ∃ bb, w1.heap.size = bb := ⟨_, rfl⟩
  rw [hbb] at HP
  rw [hbb]
  have HP : Hid (PT w w2 lb bb xs.length 0 (xs.map cnOf)) := by rw [← hlb]; exact HP.out
  rw [hlb]
  clear hlb hbb
  go_loopg [5] xs.length (fun q v wr => ∃ i : Nat, q + i = xs.length ∧ v = .int .i64 (i : Nat) ∧ Hid (PT w wr lb bb xs.length i (xs.map cnOf)))
  case atStart => exact ⟨0, by simp, rfl, HP.out⟩
  case round =>
    clear HP
    obtain ⟨i, hi, rfl, HI⟩ := hrel
    by_cases hlt : i < xs.length
    · obtain ⟨lc, bc, hlc, hll, hbc, hbl, hold⟩ := HI.out.both
      have HLC := Lib.hid hlc; clear hlc
      have HBC := Lib.hid hbc; clear hbc
      have HLEN := Lib.hid (And.intro hll hbl)
      have HOLD := Lib.hid hold; clear hold
      obtain ⟨o0, ho0⟩ : ∃ o, wr.cell? ⟨lb, i * 2, none⟩ = some o := ⟨_, (HLC.out.cell _).trans (List.getElem?_eq_getElem (by omega))⟩
      obtain ⟨o1, ho1⟩ : ∃ o, wr.cell? ⟨lb, i * 2 + 1, none⟩ = some o := ⟨_, (HLC.out.cell _).trans (List.getElem?_eq_getElem (by omega))⟩
      obtain ⟨o2, ho2⟩ : ∃ o, wr.cell? ⟨bb, i, none⟩ = some o := ⟨_, (HBC.out.cell _).trans (List.getElem?_eq_getElem (by omega))⟩
      have q0 := HLC.out.frozen (i * 2)
      have q1 := HLC.out.frozen (i * 2 + 1)
      have q2 := HBC.out.frozen i
      have hne : ¬ lb = bb := HI.out.ne
      have hne' : ¬ bb = lb := fun h => HI.out.ne h.symm
      clear hll hbl
      obtain ⟨ad, eA, c0, _, _, _, _, _, _⟩ := cd_at (Kd.C_below HX.out HI.out.bel) i hlt
      subst eA
      have HB : Hid (∀ b, b = lb ∨ b = bb → ad.add (i * 7) ≠ ⟨b, 0, none⟩ ∧ (ad.add (i * 7)).block ≠ b) := by
        intro b hb
        have h1 := World.block_lt_of_cell? w _ (by
          obtain ⟨ad', e', c0', _⟩ := cd_at HX.out i hlt
          injection e' with e'
          rw [← e'] at c0'
          exact c0')
        have h2 := HI.out.l0
        have h3 := HI.out.b0
        have h4 : (ad.add (i * 7)).block ≠ b := by rcases hb with rfl | rfl <;> omega
        exact ⟨fun e => h4 (by rw [e]), h4⟩
      have u0 : ¬ lb = (ad.add (i * 7)).block := fun e => (HB.out lb (.inl rfl)).2 e.symm
      have u1 : ¬ bb = (ad.add (i * 7)).block := fun e => (HB.out bb (.inr rfl)).2 e.symm
      have hfar : ∀ (x0 x1 x2 : Value), ((((wr.setCell ⟨lb, i * 2, none⟩ x0).setCell ⟨lb, i * 2 + 1, none⟩ x1).setCell ⟨bb, i, none⟩ x2).cell? (ad.add (i * 7))) = some (.int .i64 (cd xs i).f0) := by
        intro x0 x1 x2
        rw [World.cell?_setCell_far _ _ _ _ u1, World.cell?_setCell_far _ _ _ _ u0, World.cell?_setCell_far _ _ _ _ u0]
        exact c0
      have HCN : Hid (cn (xs.map cnOf) i = cnOf (cd xs i)) := cn_cd xs i hlt
      have HFI : Hid (fits (xs.map cnOf) (i + 1)) := HF.out.low hlt
      have HQ := Lib.hid (HOP.out i hlt)
      have hiw : wrap64 ((i : Int) + 1) = ((i + 1 : Nat) : Int) := by rw [IntWalk.wrap64_in _ (by omega)]; rfl
      obtain ⟨s, hs⟩ : ∃ s, cd xs i = s := ⟨_, rfl⟩
      rw [hs] at hfar HCN HQ
      clear hs c0
      have hcase : s.f0 = 0 ∨ s.f0 = 1 ∨ s.f0 = 2 ∨ s.f0 = 3 ∨ s.f0 = 4 ∨ s.f0 = 5 ∨ s.f0 = 6 ∨ s.f0 = 7 ∨ s.f0 = 8 := by have := HQ.out; omega
      rcases hcase with e0 | e0 | e0 | e0 | e0 | e0 | e0 | e0 | e0
      · have HA : Hid (ar (cn (xs.map cnOf) i).op = 0) := by show _ = _; rw [HCN.out]; simp [cnOf, ar, e0]
        have HW : ∀ w5 : World, w5 = ((wr.setCell ⟨lb, i * 2, none⟩ (.int .i64 (-1))).setCell ⟨lb, i * 2 + 1, none⟩ (.int .i64 (-1))).setCell ⟨bb, i, none⟩ (.int .i64 (i : Nat)) → Hid (PT w w5 lb bb xs.length (i + 1) (xs.map cnOf)) := by
          rintro w5 rfl
          have g1 := grown_setCell wr ⟨lb, i * 2, none⟩ (.int .i64 (-1))
          have g2 := grown_setCell (wr.setCell ⟨lb, i * 2, none⟩ (.int .i64 (-1))) ⟨lb, i * 2 + 1, none⟩ (.int .i64 (-1))
          have k1 := (HLC.out.setCell (i * 2) (.int .i64 (-1))).setCell (i * 2 + 1) (.int .i64 (-1))
          have k2 := (HBC.out.grown (Fr4.grown2 g1 g2) (by intro e; injection e with e; exact hne' e)).setCell i (.int .i64 (i : Nat))
          have k1' := k1.grown (grown_setCell _ ⟨bb, i, none⟩ (.int .i64 (i : Nat))) (by intro e; injection e with e; exact hne e)
          have hb := ((HI.out.bel.setCell (p := ⟨lb, i * 2, none⟩) HI.out.l0 (.int .i64 (-1))).setCell (p := ⟨lb, i * 2 + 1, none⟩) HI.out.l0 (.int .i64 (-1))).setCell (p := ⟨bb, i, none⟩) HI.out.b0 (.int .i64 (i : Nat))
          have hl := HLEN.out
          refine HI.out.put k1' k2 hb (by simp [hl.1]) (by simp [hl.2]) (fun k h1 h2 => ?_) (fun k h1 => ?_) ?_ ?_ ?_ HOLD.out
          · rw [List.getElem?_set_ne (by omega), List.getElem?_set_ne (by omega)]
          · rw [List.getElem?_set_ne (by omega)]
          · rw [List.getElem?_set_ne (by omega), List.getElem?_set_self (by omega), pa, HA.out]
            rfl
          · rw [List.getElem?_set_self (by simp; omega), pb, HA.out]
            rfl
          · rw [List.getElem?_set_self (by omega), (part0 HA.out).2]
        go_wp2
        generalize hw5 : ((wr.setCell ⟨lb, i * 2, none⟩ (.int .i64 (-1))).setCell ⟨lb, i * 2 + 1, none⟩ (.int .i64 (-1))).setCell ⟨bb, i, none⟩ (.int .i64 (i : Nat)) = w5
        have HP5 := HW w5 hw5.symm
        clear HW hw5
        go_roundg (xs.length - (i + 1))
        case measure => clear hiw; omega
        case rel => exact ⟨i + 1, by clear hiw; omega, by first | rfl | rw [hiw], HP5.out⟩
      · have HA : Hid (ar (cn (xs.map cnOf) i).op = 0) := by show _ = _; rw [HCN.out]; simp [cnOf, ar, e0]
        have HW : ∀ w5 : World, w5 = ((wr.setCell ⟨lb, i * 2, none⟩ (.int .i64 (-1))).setCell ⟨lb, i * 2 + 1, none⟩ (.int .i64 (-1))).setCell ⟨bb, i, none⟩ (.int .i64 (i : Nat)) → Hid (PT w w5 lb bb xs.length (i + 1) (xs.map cnOf)) := by
          rintro w5 rfl
          have g1 := grown_setCell wr ⟨lb, i * 2, none⟩ (.int .i64 (-1))
          have g2 := grown_setCell (wr.setCell ⟨lb, i * 2, none⟩ (.int .i64 (-1))) ⟨lb, i * 2 + 1, none⟩ (.int .i64 (-1))
          have k1 := (HLC.out.setCell (i * 2) (.int .i64 (-1))).setCell (i * 2 + 1) (.int .i64 (-1))
          have k2 := (HBC.out.grown (Fr4.grown2 g1 g2) (by intro e; injection e with e; exact hne' e)).setCell i (.int .i64 (i : Nat))
          have k1' := k1.grown (grown_setCell _ ⟨bb, i, none⟩ (.int .i64 (i : Nat))) (by intro e; injection e with e; exact hne e)
          have hb := ((HI.out.bel.setCell (p := ⟨lb, i * 2, none⟩) HI.out.l0 (.int .i64 (-1))).setCell (p := ⟨lb, i * 2 + 1, none⟩) HI.out.l0 (.int .i64 (-1))).setCell (p := ⟨bb, i, none⟩) HI.out.b0 (.int .i64 (i : Nat))
          have hl := HLEN.out
          refine HI.out.put k1' k2 hb (by simp [hl.1]) (by simp [hl.2]) (fun k h1 h2 => ?_) (fun k h1 => ?_) ?_ ?_ ?_ HOLD.out
          · rw [List.getElem?_set_ne (by omega), List.getElem?_set_ne (by omega)]
          · rw [List.getElem?_set_ne (by omega)]
          · rw [List.getElem?_set_ne (by omega), List.getElem?_set_self (by omega), pa, HA.out]
            rfl
          · rw [List.getElem?_set_self (by simp; omega), pb, HA.out]
            rfl
          · rw [List.getElem?_set_self (by omega), (part0 HA.out).2]
        go_wp2
        generalize hw5 : ((wr.setCell ⟨lb, i * 2, none⟩ (.int .i64 (-1))).setCell ⟨lb, i * 2 + 1, none⟩ (.int .i64 (-1))).setCell ⟨bb, i, none⟩ (.int .i64 (i : Nat)) = w5
        have HP5 := HW w5 hw5.symm
        clear HW hw5
        go_roundg (xs.length - (i + 1))
        case measure => clear hiw; omega
        case rel => exact ⟨i + 1, by clear hiw; omega, by first | rfl | rw [hiw], HP5.out⟩
      · have HA : Hid (ar (cn (xs.map cnOf) i).op = 0) := by show _ = _; rw [HCN.out]; simp [cnOf, ar, e0]
        have HW : ∀ w5 : World, w5 = ((wr.setCell ⟨lb, i * 2, none⟩ (.int .i64 (-1))).setCell ⟨lb, i * 2 + 1, none⟩ (.int .i64 (-1))).setCell ⟨bb, i, none⟩ (.int .i64 (i : Nat)) → Hid (PT w w5 lb bb xs.length (i + 1) (xs.map cnOf)) := by
          rintro w5 rfl
          have g1 := grown_setCell wr ⟨lb, i * 2, none⟩ (.int .i64 (-1))
          have g2 := grown_setCell (wr.setCell ⟨lb, i * 2, none⟩ (.int .i64 (-1))) ⟨lb, i * 2 + 1, none⟩ (.int .i64 (-1))
          have k1 := (HLC.out.setCell (i * 2) (.int .i64 (-1))).setCell (i * 2 + 1) (.int .i64 (-1))
          have k2 := (HBC.out.grown (Fr4.grown2 g1 g2) (by intro e; injection e with e; exact hne' e)).setCell i (.int .i64 (i : Nat))
          have k1' := k1.grown (grown_setCell _ ⟨bb, i, none⟩ (.int .i64 (i : Nat))) (by intro e; injection e with e; exact hne e)
          have hb := ((HI.out.bel.setCell (p := ⟨lb, i * 2, none⟩) HI.out.l0 (.int .i64 (-1))).setCell (p := ⟨lb, i * 2 + 1, none⟩) HI.out.l0 (.int .i64 (-1))).setCell (p := ⟨bb, i, none⟩) HI.out.b0 (.int .i64 (i : Nat))
          have hl := HLEN.out
          refine HI.out.put k1' k2 hb (by simp [hl.1]) (by simp [hl.2]) (fun k h1 h2 => ?_) (fun k h1 => ?_) ?_ ?_ ?_ HOLD.out
          · rw [List.getElem?_set_ne (by omega), List.getElem?_set_ne (by omega)]
          · rw [List.getElem?_set_ne (by omega)]
          · rw [List.getElem?_set_ne (by omega), List.getElem?_set_self (by omega), pa, HA.out]
            rfl
          · rw [List.getElem?_set_self (by simp; omega), pb, HA.out]
            rfl
          · rw [List.getElem?_set_self (by omega), (part0 HA.out).2]
        go_wp2
        generalize hw5 : ((wr.setCell ⟨lb, i * 2, none⟩ (.int .i64 (-1))).setCell ⟨lb, i * 2 + 1, none⟩ (.int .i64 (-1))).setCell ⟨bb, i, none⟩ (.int .i64 (i : Nat)) = w5
        have HP5 := HW w5 hw5.symm
        clear HW hw5
        go_roundg (xs.length - (i + 1))
        case measure => clear hiw; omega
        case rel => exact ⟨i + 1, by clear hiw; omega, by first | rfl | rw [hiw], HP5.out⟩
      · have HA : Hid (ar (cn (xs.map cnOf) i).op = 0) := by show _ = _; rw [HCN.out]; simp [cnOf, ar, e0]
        have HW : ∀ w5 : World, w5 = ((wr.setCell ⟨lb, i * 2, none⟩ (.int .i64 (-1))).setCell ⟨lb, i * 2 + 1, none⟩ (.int .i64 (-1))).setCell ⟨bb, i, none⟩ (.int .i64 (i : Nat)) → Hid (PT w w5 lb bb xs.length (i + 1) (xs.map cnOf)) := by
          rintro w5 rfl
          have g1 := grown_setCell wr ⟨lb, i * 2, none⟩ (.int .i64 (-1))
          have g2 := grown_setCell (wr.setCell ⟨lb, i * 2, none⟩ (.int .i64 (-1))) ⟨lb, i * 2 + 1, none⟩ (.int .i64 (-1))
          have k1 := (HLC.out.setCell (i * 2) (.int .i64 (-1))).setCell (i * 2 + 1) (.int .i64 (-1))
          have k2 := (HBC.out.grown (Fr4.grown2 g1 g2) (by intro e; injection e with e; exact hne' e)).setCell i (.int .i64 (i : Nat))
          have k1' := k1.grown (grown_setCell _ ⟨bb, i, none⟩ (.int .i64 (i : Nat))) (by intro e; injection e with e; exact hne e)
          have hb := ((HI.out.bel.setCell (p := ⟨lb, i * 2, none⟩) HI.out.l0 (.int .i64 (-1))).setCell (p := ⟨lb, i * 2 + 1, none⟩) HI.out.l0 (.int .i64 (-1))).setCell (p := ⟨bb, i, none⟩) HI.out.b0 (.int .i64 (i : Nat))
          have hl := HLEN.out
          refine HI.out.put k1' k2 hb (by simp [hl.1]) (by simp [hl.2]) (fun k h1 h2 => ?_) (fun k h1 => ?_) ?_ ?_ ?_ HOLD.out
          · rw [List.getElem?_set_ne (by omega), List.getElem?_set_ne (by omega)]
          · rw [List.getElem?_set_ne (by omega)]
          · rw [List.getElem?_set_ne (by omega), List.getElem?_set_self (by omega), pa, HA.out]
            rfl
          · rw [List.getElem?_set_self (by simp; omega), pb, HA.out]
            rfl
          · rw [List.getElem?_set_self (by omega), (part0 HA.out).2]
        go_wp2
        generalize hw5 : ((wr.setCell ⟨lb, i * 2, none⟩ (.int .i64 (-1))).setCell ⟨lb, i * 2 + 1, none⟩ (.int .i64 (-1))).setCell ⟨bb, i, none⟩ (.int .i64 (i : Nat)) = w5
        have HP5 := HW w5 hw5.symm
        clear HW hw5
        go_roundg (xs.length - (i + 1))
        case measure => clear hiw; omega
        case rel => exact ⟨i + 1, by clear hiw; omega, by first | rfl | rw [hiw], HP5.out⟩
      · have HA : Hid (ar (cn (xs.map cnOf) i).op = 2) := by show _ = _; rw [HCN.out]; simp [cnOf, ar, e0]
        obtain ⟨m, hm⟩ : ∃ m, i = m + 1 := ⟨i - 1, by have := (part2 HFI.out HA.out).1; omega⟩
        subst hm
        have HPRT := Lib.hid (part2 HFI.out HA.out)
        have hw : wrap64 ((m : Int) + 1 - 1) = (m : Int) := by rw [IntWalk.wrap64_in _ (by omega)]; omega
        have p2 : wr.cell? ⟨bb, m, none⟩ = some (.int .i64 (beg (xs.map cnOf) m : Nat)) := (HBC.out.cell m).trans (HOLD.out m (Nat.lt_succ_self m)).2.2
        have hm0 : (0 : Int) ≤ (m : Int) := Int.natCast_nonneg _
        have hm1 : (m : Int) < (xs.length : Int) := by omega
        obtain ⟨y, hy⟩ : ∃ y, beg (xs.map cnOf) m = y + 1 := ⟨beg (xs.map cnOf) m - 1, by have := HPRT.out.2.1; simp only [Nat.add_sub_cancel] at this; omega⟩
        have hym : y < m := by have := HPRT.out.2.2.1; simp only [Nat.add_sub_cancel, hy] at this; omega
        have HV : Hid (pa (xs.map cnOf) (m + 1) = (y : Int) ∧ pb (xs.map cnOf) (m + 1) = (m : Int) ∧ beg (xs.map cnOf) (m + 1) = beg (xs.map cnOf) y) := by
          have h5 := HPRT.out.2.2.2.2
          simp only [Nat.add_sub_cancel, hy] at h5
          refine ⟨?_, ?_, h5⟩
          · rw [pa, HA.out]; simp [hy]
          · rw [pb, HA.out]; simp
        rw [hy] at p2
        have hy0 : (0 : Int) ≤ (y : Int) := Int.natCast_nonneg _
        have hy1 : (y : Int) < (xs.length : Int) := by omega
        have HYM := Lib.hid hym
        have HNX : Hid (gk + (m + 1) = xs.length) := hi
        clear hy hym
        have HW : ∀ w4 : World, w4 = (((wr.setCell ⟨lb, (m + 1) * 2, none⟩ (.int .i64 (-1))).setCell ⟨lb, (m + 1) * 2 + 1, none⟩ (.int .i64 (-1))).setCell ⟨bb, m + 1, none⟩ (.int .i64 ((m : Int) + 1))).setCell ⟨lb, (m + 1) * 2 + 1, none⟩ (.int .i64 (m : Nat)) →
            Hid (W3 w w4 lb bb (((lc.set ((m + 1) * 2) (.int .i64 (-1))).set ((m + 1) * 2 + 1) (.int .i64 (-1))).set ((m + 1) * 2 + 1) (.int .i64 (m : Nat))) (bc.set (m + 1) (.int .i64 ((m : Int) + 1)))) := by
          rintro w4 rfl
          have h0 : W3 w wr lb bb lc bc := ⟨HI.out.bel, HI.out.ne, HI.out.l0, HI.out.b0, HLC.out, HBC.out⟩
          exact (((h0.setL ((m + 1) * 2) (.int .i64 (-1))).setL ((m + 1) * 2 + 1) (.int .i64 (-1))).setB (m + 1) (.int .i64 ((m : Int) + 1))).setL ((m + 1) * 2 + 1) (.int .i64 (m : Nat))
        go_upto_region 17 with (fail)
        generalize hw4 : (((wr.setCell ⟨lb, (m + 1) * 2, none⟩ (.int .i64 (-1))).setCell ⟨lb, (m + 1) * 2 + 1, none⟩ (.int .i64 (-1))).setCell ⟨bb, m + 1, none⟩ (.int .i64 ((m : Int) + 1))).setCell ⟨lb, (m + 1) * 2 + 1, none⟩ (.int .i64 (m : Nat)) = w4
        have H4 := HW w4 hw4.symm
        clear HW hw4 hfar ho0 ho1 ho2 q0 q1 q2 p2
        have hl := HLEN.out
        have r2 : w4.cell? ⟨bb, m, none⟩ = some (.int .i64 ((y + 1 : Nat) : Int)) := by
          rw [H4.out.b.cell, List.getElem?_set_ne (by omega), (HOLD.out m (Nat.lt_succ_self m)).2.2]
          have := HPRT.out.2.1
          have h6 := HV.out.1
          rw [pa, HA.out] at h6
          simp at h6
          congr 2
          simp only [Nat.add_sub_cancel] at this
          omega
        have r3 : w4.cell? ⟨bb, y, none⟩ = some (.int .i64 (beg (xs.map cnOf) y : Nat)) := by
          have := HYM.out
          rw [H4.out.b.cell, List.getElem?_set_ne (by omega), (HOLD.out y (by omega)).2.2]
        have r0 : w4.cell? ⟨lb, (m + 1) * 2, none⟩ = some (.int .i64 (-1)) := by
          rw [H4.out.l.cell, List.getElem?_set_ne (by omega), List.getElem?_set_ne (by omega), List.getElem?_set_self (by omega)]
        have r5 : w4.cell? ⟨bb, m + 1, none⟩ = some (.int .i64 ((m : Int) + 1)) := by
          rw [H4.out.b.cell, List.getElem?_set_self (by omega)]
        have z0 := H4.out.l.frozen ((m + 1) * 2)
        have z5 := H4.out.b.frozen (m + 1)
        clear hl
        have hw2 : IntKind.i64.wrap ((y : Int) + 1 - 1) = (y : Int) := by have := HYM.out; rw [IntWalk.i64_in _ (by omega)]; omega
        have hw1 : IntKind.i64.wrap ((m : Int) + 1 - 1) = (m : Int) := by rw [IntWalk.i64_in _ (by omega)]; omega
        have hw3 : IntKind.i64.wrap (y : Int) = (y : Int) := by have := HYM.out; rw [IntWalk.i64_in _ (by omega)]
        have hw4 : IntKind.i64.wrap (m : Int) = (m : Int) := by rw [IntWalk.i64_in _ (by omega)]
        have hmi0 : (0 : Int) ≤ (m : Int) + 1 := by omega
        have hmi1 : (m : Int) + 1 < (xs.length : Int) := by omega
        clear hw hiw
        go_region_held3 (fun w' => w'.cell? ⟨bb, m, none⟩ = some (.int .i64 ((y + 1 : Nat) : Int)))
          (first
            | with_reducible exact (World.cell?_setCell_far _ _ _ _ hne).trans r2
            | with_reducible exact ((World.cell?_setCell_far _ _ _ _ hne).trans r2 : _)
            | go_keep
            | exact (World.cell?_setCell_far w4 ⟨lb, (m + 1) * 2, none⟩ ⟨bb, m, none⟩ _ hne).trans r2)
          (first | fail)
        rename_i hHeld
        clear hHeld hw1 hw2 hw3 hw4
        have hiw : wrap64 (((m + 1 : Nat) : Int) + 1) = ((m + 1 + 1 : Nat) : Int) := by rw [IntWalk.wrap64_in _ (by omega)]; rfl
        have HP5 : Hid (PT w ((w4.setCell ⟨lb, (m + 1) * 2, none⟩ (.int .i64 (y : Nat))).setCell ⟨bb, m + 1, none⟩ (.int .i64 (beg (xs.map cnOf) y : Nat))).drew lb bb xs.length (m + 1 + 1) (xs.map cnOf)) := by
          have h5 := ((H4.out.setL ((m + 1) * 2) (.int .i64 (y : Nat))).setB (m + 1) (.int .i64 (beg (xs.map cnOf) y : Nat))).drew
          have hl := HLEN.out
          refine HI.out.put h5.l h5.b h5.bel (by simp [hl.1]) (by simp [hl.2]) (fun k h1 h2 => ?_) (fun k h1 => ?_) ?_ ?_ ?_ HOLD.out
          · rw [List.getElem?_set_ne (by omega), List.getElem?_set_ne (by omega), List.getElem?_set_ne (by omega), List.getElem?_set_ne (by omega)]
          · rw [List.getElem?_set_ne (by omega), List.getElem?_set_ne (by omega)]
          · rw [List.getElem?_set_self (by simp; omega), HV.out.1]
          · rw [List.getElem?_set_ne (by omega), List.getElem?_set_self (by simp; omega), HV.out.2.1]
          · rw [List.getElem?_set_self (by simp; omega), HV.out.2.2]
        go_wp2
        go_roundg (xs.length - (m + 1 + 1))
        case measure => clear hiw; have := HNX.out; omega
        case rel => exact ⟨m + 1 + 1, by clear hiw; have := HNX.out; omega, by first | rfl | rw [hiw], HP5.out⟩
      · have HA : Hid (ar (cn (xs.map cnOf) i).op = 2) := by show _ = _; rw [HCN.out]; simp [cnOf, ar, e0]
        obtain ⟨m, hm⟩ : ∃ m, i = m + 1 := ⟨i - 1, by have := (part2 HFI.out HA.out).1; omega⟩
        subst hm
        have HPRT := Lib.hid (part2 HFI.out HA.out)
        have hw : wrap64 ((m : Int) + 1 - 1) = (m : Int) := by rw [IntWalk.wrap64_in _ (by omega)]; omega
        have p2 : wr.cell? ⟨bb, m, none⟩ = some (.int .i64 (beg (xs.map cnOf) m : Nat)) := (HBC.out.cell m).trans (HOLD.out m (Nat.lt_succ_self m)).2.2
        have hm0 : (0 : Int) ≤ (m : Int) := Int.natCast_nonneg _
        have hm1 : (m : Int) < (xs.length : Int) := by omega
        obtain ⟨y, hy⟩ : ∃ y, beg (xs.map cnOf) m = y + 1 := ⟨beg (xs.map cnOf) m - 1, by have := HPRT.out.2.1; simp only [Nat.add_sub_cancel] at this; omega⟩
        have hym : y < m := by have := HPRT.out.2.2.1; simp only [Nat.add_sub_cancel, hy] at this; omega
        have HV : Hid (pa (xs.map cnOf) (m + 1) = (y : Int) ∧ pb (xs.map cnOf) (m + 1) = (m : Int) ∧ beg (xs.map cnOf) (m + 1) = beg (xs.map cnOf) y) := by
          have h5 := HPRT.out.2.2.2.2
          simp only [Nat.add_sub_cancel, hy] at h5
          refine ⟨?_, ?_, h5⟩
          · rw [pa, HA.out]; simp [hy]
          · rw [pb, HA.out]; simp
        rw [hy] at p2
        have hy0 : (0 : Int) ≤ (y : Int) := Int.natCast_nonneg _
        have hy1 : (y : Int) < (xs.length : Int) := by omega
        have HYM := Lib.hid hym
        have HNX : Hid (gk + (m + 1) = xs.length) := hi
        clear hy hym
        have HW : ∀ w4 : World, w4 = (((wr.setCell ⟨lb, (m + 1) * 2, none⟩ (.int .i64 (-1))).setCell ⟨lb, (m + 1) * 2 + 1, none⟩ (.int .i64 (-1))).setCell ⟨bb, m + 1, none⟩ (.int .i64 ((m : Int) + 1))).setCell ⟨lb, (m + 1) * 2 + 1, none⟩ (.int .i64 (m : Nat)) →
            Hid (W3 w w4 lb bb (((lc.set ((m + 1) * 2) (.int .i64 (-1))).set ((m + 1) * 2 + 1) (.int .i64 (-1))).set ((m + 1) * 2 + 1) (.int .i64 (m : Nat))) (bc.set (m + 1) (.int .i64 ((m : Int) + 1)))) := by
          rintro w4 rfl
          have h0 : W3 w wr lb bb lc bc := ⟨HI.out.bel, HI.out.ne, HI.out.l0, HI.out.b0, HLC.out, HBC.out⟩
          exact (((h0.setL ((m + 1) * 2) (.int .i64 (-1))).setL ((m + 1) * 2 + 1) (.int .i64 (-1))).setB (m + 1) (.int .i64 ((m : Int) + 1))).setL ((m + 1) * 2 + 1) (.int .i64 (m : Nat))
        go_upto_region 17 with (fail)
        generalize hw4 : (((wr.setCell ⟨lb, (m + 1) * 2, none⟩ (.int .i64 (-1))).setCell ⟨lb, (m + 1) * 2 + 1, none⟩ (.int .i64 (-1))).setCell ⟨bb, m + 1, none⟩ (.int .i64 ((m : Int) + 1))).setCell ⟨lb, (m + 1) * 2 + 1, none⟩ (.int .i64 (m : Nat)) = w4
        have H4 := HW w4 hw4.symm
        clear HW hw4 hfar ho0 ho1 ho2 q0 q1 q2 p2
        have hl := HLEN.out
        have r2 : w4.cell? ⟨bb, m, none⟩ = some (.int .i64 ((y + 1 : Nat) : Int)) := by
          rw [H4.out.b.cell, List.getElem?_set_ne (by omega), (HOLD.out m (Nat.lt_succ_self m)).2.2]
          have := HPRT.out.2.1
          have h6 := HV.out.1
          rw [pa, HA.out] at h6
          simp at h6
          congr 2
          simp only [Nat.add_sub_cancel] at this
          omega
        have r3 : w4.cell? ⟨bb, y, none⟩ = some (.int .i64 (beg (xs.map cnOf) y : Nat)) := by
          have := HYM.out
          rw [H4.out.b.cell, List.getElem?_set_ne (by omega), (HOLD.out y (by omega)).2.2]
        have r0 : w4.cell? ⟨lb, (m + 1) * 2, none⟩ = some (.int .i64 (-1)) := by
          rw [H4.out.l.cell, List.getElem?_set_ne (by omega), List.getElem?_set_ne (by omega), List.getElem?_set_self (by omega)]
        have r5 : w4.cell? ⟨bb, m + 1, none⟩ = some (.int .i64 ((m : Int) + 1)) := by
          rw [H4.out.b.cell, List.getElem?_set_self (by omega)]
        have z0 := H4.out.l.frozen ((m + 1) * 2)
        have z5 := H4.out.b.frozen (m + 1)
        clear hl
        have hw2 : IntKind.i64.wrap ((y : Int) + 1 - 1) = (y : Int) := by have := HYM.out; rw [IntWalk.i64_in _ (by omega)]; omega
        have hw1 : IntKind.i64.wrap ((m : Int) + 1 - 1) = (m : Int) := by rw [IntWalk.i64_in _ (by omega)]; omega
        have hw3 : IntKind.i64.wrap (y : Int) = (y : Int) := by have := HYM.out; rw [IntWalk.i64_in _ (by omega)]
        have hw4 : IntKind.i64.wrap (m : Int) = (m : Int) := by rw [IntWalk.i64_in _ (by omega)]
        have hmi0 : (0 : Int) ≤ (m : Int) + 1 := by omega
        have hmi1 : (m : Int) + 1 < (xs.length : Int) := by omega
        clear hw hiw
        go_region_held3 (fun w' => w'.cell? ⟨bb, m, none⟩ = some (.int .i64 ((y + 1 : Nat) : Int)))
          (first
            | with_reducible exact (World.cell?_setCell_far _ _ _ _ hne).trans r2
            | with_reducible exact ((World.cell?_setCell_far _ _ _ _ hne).trans r2 : _)
            | go_keep
            | exact (World.cell?_setCell_far w4 ⟨lb, (m + 1) * 2, none⟩ ⟨bb, m, none⟩ _ hne).trans r2)
          (first | fail)
        rename_i hHeld
        clear hHeld hw1 hw2 hw3 hw4
        have hiw : wrap64 (((m + 1 : Nat) : Int) + 1) = ((m + 1 + 1 : Nat) : Int) := by rw [IntWalk.wrap64_in _ (by omega)]; rfl
        have HP5 : Hid (PT w ((w4.setCell ⟨lb, (m + 1) * 2, none⟩ (.int .i64 (y : Nat))).setCell ⟨bb, m + 1, none⟩ (.int .i64 (beg (xs.map cnOf) y : Nat))).drew lb bb xs.length (m + 1 + 1) (xs.map cnOf)) := by
          have h5 := ((H4.out.setL ((m + 1) * 2) (.int .i64 (y : Nat))).setB (m + 1) (.int .i64 (beg (xs.map cnOf) y : Nat))).drew
          have hl := HLEN.out
          refine HI.out.put h5.l h5.b h5.bel (by simp [hl.1]) (by simp [hl.2]) (fun k h1 h2 => ?_) (fun k h1 => ?_) ?_ ?_ ?_ HOLD.out
          · rw [List.getElem?_set_ne (by omega), List.getElem?_set_ne (by omega), List.getElem?_set_ne (by omega), List.getElem?_set_ne (by omega)]
          · rw [List.getElem?_set_ne (by omega), List.getElem?_set_ne (by omega)]
          · rw [List.getElem?_set_self (by simp; omega), HV.out.1]
          · rw [List.getElem?_set_ne (by omega), List.getElem?_set_self (by simp; omega), HV.out.2.1]
          · rw [List.getElem?_set_self (by simp; omega), HV.out.2.2]
        go_wp2
        go_roundg (xs.length - (m + 1 + 1))
        case measure => clear hiw; have := HNX.out; omega
        case rel => exact ⟨m + 1 + 1, by clear hiw; have := HNX.out; omega, by first | rfl | rw [hiw], HP5.out⟩
      · have HA : Hid (ar (cn (xs.map cnOf) i).op = 1) := by show _ = _; rw [HCN.out]; simp [cnOf, ar, e0]
        obtain ⟨m, hm⟩ : ∃ m, i = m + 1 := ⟨i - 1, by have := (part1 HFI.out HA.out).1; omega⟩
        subst hm
        have HPRT := Lib.hid (part1 HFI.out HA.out)
        have hw : wrap64 ((m : Int) + 1 - 1) = (m : Int) := by rw [IntWalk.wrap64_in _ (by omega)]; omega
        have p2 : wr.cell? ⟨bb, m, none⟩ = some (.int .i64 (beg (xs.map cnOf) m : Nat)) := (HBC.out.cell m).trans (HOLD.out m (Nat.lt_succ_self m)).2.2
        have hm0 : (0 : Int) ≤ (m : Int) := Int.natCast_nonneg _
        have hm1 : (m : Int) < (xs.length : Int) := by omega
        have HV : Hid (pa (xs.map cnOf) (m + 1) = (m : Int) ∧ pb (xs.map cnOf) (m + 1) = -1 ∧ beg (xs.map cnOf) (m + 1) = beg (xs.map cnOf) m) := by
          refine ⟨?_, ?_, HPRT.out.2.2⟩
          · rw [pa, HA.out]; simp
          · rw [pb, HA.out]; rfl
        have HW : ∀ w5 : World, w5 = ((((wr.setCell ⟨lb, (m + 1) * 2, none⟩ (.int .i64 (-1))).setCell ⟨lb, (m + 1) * 2 + 1, none⟩ (.int .i64 (-1))).setCell ⟨bb, m + 1, none⟩ (.int .i64 ((m : Int) + 1))).setCell ⟨lb, (m + 1) * 2, none⟩ (.int .i64 (m : Nat))).setCell ⟨bb, m + 1, none⟩ (.int .i64 (beg (xs.map cnOf) m : Nat)) → Hid (PT w w5 lb bb xs.length (m + 1 + 1) (xs.map cnOf)) := by
          rintro w5 rfl
          have h0 : W3 w wr lb bb lc bc := ⟨HI.out.bel, HI.out.ne, HI.out.l0, HI.out.b0, HLC.out, HBC.out⟩
          have h5 := ((((h0.setL ((m + 1) * 2) (.int .i64 (-1))).setL ((m + 1) * 2 + 1) (.int .i64 (-1))).setB (m + 1) (.int .i64 ((m : Int) + 1))).setL ((m + 1) * 2) (.int .i64 (m : Nat))).setB (m + 1) (.int .i64 (beg (xs.map cnOf) m : Nat))
          have hl := HLEN.out
          refine HI.out.put h5.l h5.b h5.bel (by simp [hl.1]) (by simp [hl.2]) (fun k h1 h2 => ?_) (fun k h1 => ?_) ?_ ?_ ?_ HOLD.out
          · rw [List.getElem?_set_ne (by omega), List.getElem?_set_ne (by omega), List.getElem?_set_ne (by omega)]
          · rw [List.getElem?_set_ne (by omega), List.getElem?_set_ne (by omega)]
          · rw [List.getElem?_set_self (by simp; omega), HV.out.1]
          · rw [List.getElem?_set_ne (by omega), List.getElem?_set_self (by simp; omega), HV.out.2.1]
          · rw [List.getElem?_set_self (by simp; omega), HV.out.2.2]
        have HNX : Hid (gk + (m + 1) = xs.length) := hi
        go_wp2
        generalize hw5 : ((((wr.setCell ⟨lb, (m + 1) * 2, none⟩ (.int .i64 (-1))).setCell ⟨lb, (m + 1) * 2 + 1, none⟩ (.int .i64 (-1))).setCell ⟨bb, m + 1, none⟩ (.int .i64 ((m : Int) + 1))).setCell ⟨lb, (m + 1) * 2, none⟩ (.int .i64 (m : Nat))).setCell ⟨bb, m + 1, none⟩ (.int .i64 (beg (xs.map cnOf) m : Nat)) = w5
        have HP5 := HW w5 hw5.symm
        clear HW hw5
        go_roundg (xs.length - (m + 1 + 1))
        case measure => clear hiw hw; have := HNX.out; omega
        case rel => exact ⟨m + 1 + 1, by clear hiw hw; have := HNX.out; omega, by first | rfl | rw [hiw], HP5.out⟩
      · have HA : Hid (ar (cn (xs.map cnOf) i).op = 1) := by show _ = _; rw [HCN.out]; simp [cnOf, ar, e0]
        obtain ⟨m, hm⟩ : ∃ m, i = m + 1 := ⟨i - 1, by have := (part1 HFI.out HA.out).1; omega⟩
        subst hm
        have HPRT := Lib.hid (part1 HFI.out HA.out)
        have hw : wrap64 ((m : Int) + 1 - 1) = (m : Int) := by rw [IntWalk.wrap64_in _ (by omega)]; omega
        have p2 : wr.cell? ⟨bb, m, none⟩ = some (.int .i64 (beg (xs.map cnOf) m : Nat)) := (HBC.out.cell m).trans (HOLD.out m (Nat.lt_succ_self m)).2.2
        have hm0 : (0 : Int) ≤ (m : Int) := Int.natCast_nonneg _
        have hm1 : (m : Int) < (xs.length : Int) := by omega
        have HV : Hid (pa (xs.map cnOf) (m + 1) = (m : Int) ∧ pb (xs.map cnOf) (m + 1) = -1 ∧ beg (xs.map cnOf) (m + 1) = beg (xs.map cnOf) m) := by
          refine ⟨?_, ?_, HPRT.out.2.2⟩
          · rw [pa, HA.out]; simp
          · rw [pb, HA.out]; rfl
        have HW : ∀ w5 : World, w5 = ((((wr.setCell ⟨lb, (m + 1) * 2, none⟩ (.int .i64 (-1))).setCell ⟨lb, (m + 1) * 2 + 1, none⟩ (.int .i64 (-1))).setCell ⟨bb, m + 1, none⟩ (.int .i64 ((m : Int) + 1))).setCell ⟨lb, (m + 1) * 2, none⟩ (.int .i64 (m : Nat))).setCell ⟨bb, m + 1, none⟩ (.int .i64 (beg (xs.map cnOf) m : Nat)) → Hid (PT w w5 lb bb xs.length (m + 1 + 1) (xs.map cnOf)) := by
          rintro w5 rfl
          have h0 : W3 w wr lb bb lc bc := ⟨HI.out.bel, HI.out.ne, HI.out.l0, HI.out.b0, HLC.out, HBC.out⟩
          have h5 := ((((h0.setL ((m + 1) * 2) (.int .i64 (-1))).setL ((m + 1) * 2 + 1) (.int .i64 (-1))).setB (m + 1) (.int .i64 ((m : Int) + 1))).setL ((m + 1) * 2) (.int .i64 (m : Nat))).setB (m + 1) (.int .i64 (beg (xs.map cnOf) m : Nat))
          have hl := HLEN.out
          refine HI.out.put h5.l h5.b h5.bel (by simp [hl.1]) (by simp [hl.2]) (fun k h1 h2 => ?_) (fun k h1 => ?_) ?_ ?_ ?_ HOLD.out
          · rw [List.getElem?_set_ne (by omega), List.getElem?_set_ne (by omega), List.getElem?_set_ne (by omega)]
          · rw [List.getElem?_set_ne (by omega), List.getElem?_set_ne (by omega)]
          · rw [List.getElem?_set_self (by simp; omega), HV.out.1]
          · rw [List.getElem?_set_ne (by omega), List.getElem?_set_self (by simp; omega), HV.out.2.1]
          · rw [List.getElem?_set_self (by simp; omega), HV.out.2.2]
        have HNX : Hid (gk + (m + 1) = xs.length) := hi
        go_wp2
        generalize hw5 : ((((wr.setCell ⟨lb, (m + 1) * 2, none⟩ (.int .i64 (-1))).setCell ⟨lb, (m + 1) * 2 + 1, none⟩ (.int .i64 (-1))).setCell ⟨bb, m + 1, none⟩ (.int .i64 ((m : Int) + 1))).setCell ⟨lb, (m + 1) * 2, none⟩ (.int .i64 (m : Nat))).setCell ⟨bb, m + 1, none⟩ (.int .i64 (beg (xs.map cnOf) m : Nat)) = w5
        have HP5 := HW w5 hw5.symm
        clear HW hw5
        go_roundg (xs.length - (m + 1 + 1))
        case measure => clear hiw hw; have := HNX.out; omega
        case rel => exact ⟨m + 1 + 1, by clear hiw hw; have := HNX.out; omega, by first | rfl | rw [hiw], HP5.out⟩
      · have HA : Hid (ar (cn (xs.map cnOf) i).op = 1) := by show _ = _; rw [HCN.out]; simp [cnOf, ar, e0]
        obtain ⟨m, hm⟩ : ∃ m, i = m + 1 := ⟨i - 1, by have := (part1 HFI.out HA.out).1; omega⟩
        subst hm
        have HPRT := Lib.hid (part1 HFI.out HA.out)
        have hw : wrap64 ((m : Int) + 1 - 1) = (m : Int) := by rw [IntWalk.wrap64_in _ (by omega)]; omega
        have p2 : wr.cell? ⟨bb, m, none⟩ = some (.int .i64 (beg (xs.map cnOf) m : Nat)) := (HBC.out.cell m).trans (HOLD.out m (Nat.lt_succ_self m)).2.2
        have hm0 : (0 : Int) ≤ (m : Int) := Int.natCast_nonneg _
        have hm1 : (m : Int) < (xs.length : Int) := by omega
        have HV : Hid (pa (xs.map cnOf) (m + 1) = (m : Int) ∧ pb (xs.map cnOf) (m + 1) = -1 ∧ beg (xs.map cnOf) (m + 1) = beg (xs.map cnOf) m) := by
          refine ⟨?_, ?_, HPRT.out.2.2⟩
          · rw [pa, HA.out]; simp
          · rw [pb, HA.out]; rfl
        have HW : ∀ w5 : World, w5 = ((((wr.setCell ⟨lb, (m + 1) * 2, none⟩ (.int .i64 (-1))).setCell ⟨lb, (m + 1) * 2 + 1, none⟩ (.int .i64 (-1))).setCell ⟨bb, m + 1, none⟩ (.int .i64 ((m : Int) + 1))).setCell ⟨lb, (m + 1) * 2, none⟩ (.int .i64 (m : Nat))).setCell ⟨bb, m + 1, none⟩ (.int .i64 (beg (xs.map cnOf) m : Nat)) → Hid (PT w w5 lb bb xs.length (m + 1 + 1) (xs.map cnOf)) := by
          rintro w5 rfl
          have h0 : W3 w wr lb bb lc bc := ⟨HI.out.bel, HI.out.ne, HI.out.l0, HI.out.b0, HLC.out, HBC.out⟩
          have h5 := ((((h0.setL ((m + 1) * 2) (.int .i64 (-1))).setL ((m + 1) * 2 + 1) (.int .i64 (-1))).setB (m + 1) (.int .i64 ((m : Int) + 1))).setL ((m + 1) * 2) (.int .i64 (m : Nat))).setB (m + 1) (.int .i64 (beg (xs.map cnOf) m : Nat))
          have hl := HLEN.out
          refine HI.out.put h5.l h5.b h5.bel (by simp [hl.1]) (by simp [hl.2]) (fun k h1 h2 => ?_) (fun k h1 => ?_) ?_ ?_ ?_ HOLD.out
          · rw [List.getElem?_set_ne (by omega), List.getElem?_set_ne (by omega), List.getElem?_set_ne (by omega)]
          · rw [List.getElem?_set_ne (by omega), List.getElem?_set_ne (by omega)]
          · rw [List.getElem?_set_self (by simp; omega), HV.out.1]
          · rw [List.getElem?_set_ne (by omega), List.getElem?_set_self (by simp; omega), HV.out.2.1]
          · rw [List.getElem?_set_self (by simp; omega), HV.out.2.2]
        have HNX : Hid (gk + (m + 1) = xs.length) := hi
        go_wp2
        generalize hw5 : ((((wr.setCell ⟨lb, (m + 1) * 2, none⟩ (.int .i64 (-1))).setCell ⟨lb, (m + 1) * 2 + 1, none⟩ (.int .i64 (-1))).setCell ⟨bb, m + 1, none⟩ (.int .i64 ((m : Int) + 1))).setCell ⟨lb, (m + 1) * 2, none⟩ (.int .i64 (m : Nat))).setCell ⟨bb, m + 1, none⟩ (.int .i64 (beg (xs.map cnOf) m : Nat)) = w5
        have HP5 := HW w5 hw5.symm
        clear HW hw5
        go_roundg (xs.length - (m + 1 + 1))
        case measure => clear hiw hw; have := HNX.out; omega
        case rel => exact ⟨m + 1 + 1, by clear hiw hw; have := HNX.out; omega, by first | rfl | rw [hiw], HP5.out⟩
    · have hie : i = xs.length := by omega
      rw [hie] at HI
      go_wp2
      go_ret
      exact ⟨lb, bb, rfl, HI.out⟩
end Go.Proofs.Ytmpkkphohilkoaa.B
