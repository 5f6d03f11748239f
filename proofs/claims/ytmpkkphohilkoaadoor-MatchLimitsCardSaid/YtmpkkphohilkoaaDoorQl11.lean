/- Texts joined and shortened (wip/tools/shrink.py): DLimLaw. -/
import Derived.Outline
import Derived.Deep.DeepCutAuto
import Derived.Deep.CutBlock
import Derived.Test.YtmpkkphohilkoaaDoorQl9
import Derived.Test.YtmpkkphohilkoaaDoorQl10
/- The walk of the law MatchLimits. -/
namespace Go.Proofs.YtmpkkphohilkoaaDoor.B
open Go Go.RowKit Go.X Go.Ma Go.Proofs.YtmpkkphohilkoaaDoorW.PrintWords Go.Proofs.YtmpkkphohilkoaaDoor.F
attribute [local go_sem high] eqA32
theorem LB.but {w wk w' : World} {Ar : Option Addr} {n c : Nat} {start D S : Int} {T : Nat → Prop} (h : LB w wk Ar n c start D S) (g : But T wk w') (hT : ∀ k, T k → w.heap.size ≤ k) (h0 : ¬ T w.heap.size) (h1 : ¬ T (w.heap.size + 1)) : LB w w' Ar n c start D S :=
  ⟨h.bel.trans (g.below hT h.bel.size), h.b0.but g h0, h.b1.but g h1⟩
theorem OwnF.but {w w' : World} {lo : Nat} {v : Value} {F : List Cap} {T : Nat → Prop} (h : OwnF w lo v F) (g : But T w w') (hT : ∀ k, T k → ∃ t cs, Blk w k t cs ∧ t ≠ 49) : OwnF w' lo v F := by
  rcases h.2 with h1 | ⟨q, cap, cur, e, h2, h3, h4⟩
  · exact ⟨h.1, .inl h1⟩
  · refine ⟨h.1, .inr ⟨q, cap, cur, e, h2, ?_, h4⟩⟩
    rw [g.block q (Array.getElem?_eq_some_iff.1 h3).1 (fun hq => ?_)]
    · exact h3
    · obtain ⟨t, cs, hb, ht⟩ := hT q hq
      have : w.heap[q]? = _ := hb
      rw [h3] at this
      simp at this
      exact ht this.2.symm
theorem ne24 {w : World} {b b' : Nat} {t t' : TypeId} {cs : List Value} {n : Nat} (h : Blk w b t cs) (h' : ∃ cs', Blk w b' t' cs' ∧ cs'.length = n) (hne : t ≠ t') : b ≠ b' := by
  obtain ⟨cs', h1, _⟩ := h'
  exact h.ne h1 hne
set_option maxRecDepth 100000 in
set_option maxHeartbeats 4000000 in
theorem MatchLimits.calls (Ar : Option Addr) (c : Nat) (start : Int) (rs : List S42) (inp : ByteArray) (D S : Int) (w : World) (hr : Kd.C k42 w Ar rs.length rs) (hc : rs.length ≤ c) (hb : ∀ x ∈ rs, x.f1.length ≤ 140737488355328 ∧ x.f0.size ≤ 140737488355328) (hga : GA w) :
    Calls Tryd.prog 3 #[.agg #[.slice Ar rs.length c, .int .i64 start], .string inp, .agg #[.int .i64 D, .int .i64 S]] w fun e w' => e = .returned (.bool true) ∧ Below w.heap.size w w' := by
  have HR := Lib.hid hr; clear hr
  have HC := Lib.hid hc; clear hc
  have HBB := Lib.hid hb; clear hb
  have HGA := Lib.hid hga; clear hga
  have HL := Lib.hid (limLaw rs start start inp 0 D S)
  have HX : ∀ D S, Hid ((ansRes (atAns rs start start inp 0 D S)).forest.length ≤ 1048576) := fun D S => atAns_few rs start start inp 0 D S
  have L0 := Lib.hid (LB.start w Ar rs.length c start D S)
  go_enter Tryd.func3, Tryd.ntmps3
  go_wp2_with (fail)
  generalize ((w.alloc (.cells #[.slice Ar rs.length c, .int .i64 start] 24)).alloc (.cells #[.int .i64 D, .int .i64 S] 26)) = wa at *
  have G0 := Lib.hid (HGA.out.below L0.out.bel)
  refine (works.calls wa G0.out.c0 G0.out.c1 G0.out.c2 G0.out.c3).mono ?_
  rintro e w1 ⟨rfl, hbw⟩
  have L1 := Lib.hid (L0.out.below hbw)
  clear L0 hbw G0
  dsimp only
  have a0 : w1.cell? ⟨w.heap.size, 0, none⟩ = some (.slice Ar rs.length c) := L1.out.b0.cell 0
  have a1 : w1.cell? ⟨w.heap.size, 1, none⟩ = some (.int .i64 start) := L1.out.b0.cell 1
  go_wp2_with (fail)
  clear a0 a1
  refine (dowellaw14_heavy.calls 4097 Ar c rs start _ w1 (Kd.C_below HR.out L1.out.bel) HC.out (heavy_f rs start (fun x hx => (HBB.out x hx).1) _ (by omega))).mono ?_
  rintro e w2 ⟨rfl, hbw⟩
  have L2 := Lib.hid (L1.out.below hbw)
  clear hbw L1
  dsimp only
  by_cases hh : decide (4096 < rs.length ∨ 1048576 < sz rs) = true
  · rw [hh]
    go_wp2
    go_ret
    exact ⟨rfl, L2.out.bel⟩
  have hh' : decide (4096 < rs.length ∨ 1048576 < sz rs) = false := by simpa using hh
  have HM := Lib.hid (heavy_no hh')
  rw [hh']
  clear hh hh'
  go_upto_region 6 with fail
  obtain ⟨wb, hwb⟩ : ∃ wb, wb = w2.alloc (.cells #[.int .i64 32768, .int .i64 100000] 26) := ⟨_, rfl⟩
  rw [← hwb]
  have L3 : Hid (LB w wb Ar rs.length c start D S ∧ Blk wb w2.heap.size 26 [.int .i64 32768, .int .i64 100000]) := by
    rw [hwb]; exact ⟨L2.out.below ((Below.refl _ _).alloc (Nat.le_refl _) _), Blk.alloc w2 _ _⟩
  clear hwb L2
  generalize w2.heap.size = fb at *
  obtain ⟨X, hX⟩ : ∃ X, atAns rs start start inp 0 32768 100000 = X := ⟨_, rfl⟩
  have HX1 := Lib.hid hX; clear hX
  refine R6.wp w wb Ar c start rs inp 32768 100000 X w.heap.size fb 0 0 HX1.out HR.out L3.out.1.bel HM.out.1 HM.out.2 HBB.out L3.out.1.b0 L3.out.2 _ _ rfl rfl rfl rfl ?_
  intro f1 w3 q1 q2 A1 c1 e8 e9 e10 l1 l2 hb3 y1 y2 ow1
  have L4 := Lib.hid (L3.out.1.below hb3)
  have lq1 : w.heap.size ≤ q1 := Nat.le_trans L3.out.1.bel.size l1
  have lq2 : w.heap.size ≤ q2 := Nat.le_trans L3.out.1.bel.size l2
  have Y1 := Lib.hid y1; have Y2 := Lib.hid y2; have OW := Lib.hid ow1
  clear y1 y2 ow1 l1 l2 hb3 L3
  simp only [Act.puts, Act.put, List.setIfInBounds_toArray, List.set_cons_zero, List.set_cons_succ]
  rw [e8, e9, e10]
  clear e8 e9 e10
  go_upto_region 7 with fail
  obtain ⟨Z, hZ⟩ : ∃ Z, atAns rs start start inp 0 D S = Z := ⟨_, rfl⟩
  have HZ1 := Lib.hid hZ; clear hZ
  refine R7.wp w w3 Ar c start rs inp D S Z w.heap.size (w.heap.size + 1) 0 0 HZ1.out HR.out L4.out.bel HM.out.1 HM.out.2 HBB.out L4.out.b0 L4.out.b1 _ _ rfl rfl rfl rfl ?_
  intro f2 w4 r1 r2 A2 c2 e8 e9 e10 l1 l2 hb4 y1 y2 ow2
  have L5 := Lib.hid (L4.out.below hb4)
  have lr1 : w.heap.size ≤ r1 := Nat.le_trans L4.out.bel.size l1
  have lr2 : w.heap.size ≤ r2 := Nat.le_trans L4.out.bel.size l2
  have Y3 := Lib.hid y1; have Y4 := Lib.hid y2; have OW2 := Lib.hid ow2
  have Y5 := Lib.hid (Y1.out.below hb4 Y1.out.lt)
  have Y6 := Lib.hid (Y2.out.below hb4 Y2.out.lt)
  have OW1 := Lib.hid (OW.out.more (Go.X.grown_of_below hb4 none))
  have nqr1 : q1 ≠ r1 := fun e => absurd (e ▸ l1 : w3.heap.size ≤ q1) (Nat.not_le_of_lt Y1.out.lt)
  have nqr : q2 ≠ r2 := fun e => absurd (e ▸ l2 : w3.heap.size ≤ q2) (Nat.not_le_of_lt Y2.out.lt)
  clear y1 y2 ow2 l1 l2 hb4 L4 Y1 Y2 OW
  simp only [Act.puts, Act.put, List.setIfInBounds_toArray, List.set_cons_zero, List.set_cons_succ]
  rw [e8, e9, e10]
  clear e8 e9 e10
  have b50 : w4.cell? ⟨w.heap.size + 1, 0, none⟩ = some (.int .i64 D) := L5.out.b1.cell 0
  have b51 : w4.cell? ⟨w.heap.size + 1, 1, none⟩ = some (.int .i64 S) := L5.out.b1.cell 1
  have v0 : w4.cell? ⟨r2, 0, none⟩ = some (.int .i64 ((ansSt Z).depth : Nat)) := Y4.out.cell 0
  have v1 : w4.cell? ⟨r2, 1, none⟩ = some (.int .i64 ((ansSt Z).steps : Nat)) := Y4.out.cell 1
  have u0 : w4.cell? ⟨q2, 0, none⟩ = some (.int .i64 ((ansSt X).depth : Nat)) := Y6.out.cell 0
  have u1 : w4.cell? ⟨q2, 1, none⟩ = some (.int .i64 ((ansSt X).steps : Nat)) := Y6.out.cell 1
  have o0 : w4.cell? ⟨q1, 0, none⟩ = some (.int .i64 (ansRes X).kind) := Y5.out.cell 0
  have o1 : w4.cell? ⟨q1, 1, none⟩ = some (.int .i64 ((ansRes X).en : Nat)) := Y5.out.cell 1
  have o2 : w4.cell? ⟨q1, 2, none⟩ = some (.string (ansRes X).label) := Y5.out.cell 2
  have o3 : w4.cell? ⟨q1, 3, none⟩ = some (.slice A1 (ansRes X).forest.length c1) := Y5.out.cell 3
  have p0 : w4.cell? ⟨r1, 0, none⟩ = some (.int .i64 (ansRes Z).kind) := Y3.out.cell 0
  have p1 : w4.cell? ⟨r1, 1, none⟩ = some (.int .i64 ((ansRes Z).en : Nat)) := Y3.out.cell 1
  have p2 : w4.cell? ⟨r1, 2, none⟩ = some (.string (ansRes Z).label) := Y3.out.cell 2
  have p3 : w4.cell? ⟨r1, 3, none⟩ = some (.slice A2 (ansRes Z).forest.length c2) := Y3.out.cell 3
  have hmx : (ansRes X).forest.length ≤ 1048576 := by have := (HX 32768 100000).out; rwa [HX1.out] at this
  have HMX := Lib.hid hmx; clear hmx
  by_cases hz0 : (ansSt Z).err = 0
  · have hD : ((ansSt Z).depth : Int) ≤ max D 0 := by have := HL.out.within; rw [HZ1.out] at this; exact (this hz0).1
    have hS : ((ansSt Z).steps : Int) ≤ max S 0 := by have := HL.out.within; rw [HZ1.out] at this; exact (this hz0).2
    by_cases hx0 : (ansSt X).err = 0
    · have hs := HL.out.same
      rw [HX1.out, HZ1.out] at hs
      obtain ⟨hs1, hs2⟩ := hs hx0 hz0
      have he := (HL.out.enough (by rw [HX1.out]; exact hx0)).1 (by rw [HZ1.out]; exact hz0)
      rw [HX1.out] at he
      obtain ⟨he1, he2⟩ := he
      rw [hs1] at v0 v1 hD hS hz0
      rw [hs2] at p0 p1 p2 p3
      rw [hs1, hx0]
      have HX0 := Lib.hid hx0
      clear hx0 hz0
      have OW3 : Hid (OwnF w4 w3.heap.size (.slice A2 (ansRes X).forest.length c2) (ansRes X).forest) := by have := OW2.out; rwa [hs2] at this
      clear hs1 hs2 OW2
      go_wp2_with (fail)
      refine (outcomes.calls A1 A2 c1 c2 _ _ _ (ansRes X).forest _ _ w4 OW1.out OW3.out (Nat.le_trans HMX.out (by decide))).mono ?_
      rintro e w5 ⟨rfl, hbw⟩
      clear b50 b51 u0 u1 o0 o1 o2 o3 v0 v1 p0 p1 p2 p3 hD hS he1 he2
      have L6 := Lib.hid (L5.out.below hbw)
      have Y9 := Lib.hid (Y5.out.below hbw Y5.out.lt)
      have Y10 := Lib.hid (Y6.out.below hbw Y6.out.lt)
      have OW4 := Lib.hid (OW1.out.more (Go.X.grown_of_below hbw none))
      have R1 : Hid (∃ cs, Blk w5 r1 31 cs ∧ cs.length = 4) := ⟨_, Y3.out.below hbw Y3.out.lt, rfl⟩
      have R2 : Hid (∃ cs, Blk w5 r2 32 cs ∧ cs.length = 2) := ⟨_, Y4.out.below hbw Y4.out.lt, rfl⟩
      clear L5 Y5 Y6 OW1 OW3 Y3 Y4 hbw
      dsimp only
      have hx0 := HX0.out; clear HX0
      go_upto_region 17 with fail
      obtain ⟨V, hV⟩ : ∃ V, atAns rs start start inp 0 ((ansSt X).depth : Nat) ((ansSt X).steps : Nat) = V := ⟨_, rfl⟩
      have HV := Lib.hid hV; clear hV
      refine R17.wp w w5 Ar c start rs inp _ _ V w.heap.size q2 r1 r2 HV.out HR.out L6.out.bel HM.out.1 HM.out.2 HBB.out L6.out.b0 Y10.out _ _ rfl rfl rfl rfl rfl rfl R1.out R2.out lr1 lr2 ⟨ne24 L6.out.b0 R1.out (by decide), ne24 L6.out.b0 R2.out (by decide)⟩ ⟨ne24 Y10.out R1.out (by decide), nqr⟩ ?_
      intro f3 w6 A3 c3 e13 but y1 y2 own
      have nq1 : q1 ≠ r1 := nqr1
      have HT : Hid (∀ k, (k = r1 ∨ k = r2) → ∃ t cs, Blk w5 k t cs ∧ t ≠ 49) := fun k hk => by
        rcases hk with rfl | rfl
        · obtain ⟨cs, h1, _⟩ := R1.out; exact ⟨_, cs, h1, by decide⟩
        · obtain ⟨cs, h1, _⟩ := R2.out; exact ⟨_, cs, h1, by decide⟩
      have L7 := Lib.hid (L6.out.but but (fun k hk => hk.elim (fun e => e ▸ lr1) (fun e => e ▸ lr2)) (fun e => e.elim (ne24 L6.out.b0 R1.out (by decide)) (ne24 L6.out.b0 R2.out (by decide))) (fun e => e.elim (ne24 L6.out.b1 R1.out (by decide)) (ne24 L6.out.b1 R2.out (by decide))))
      have Y11 := Lib.hid (Y9.out.but but (fun e => e.elim nq1 (ne24 Y9.out R2.out (by decide))))
      have Y12 := Lib.hid (Y10.out.but but (fun e => e.elim (ne24 Y10.out R1.out (by decide)) nqr))
      have OW5 := Lib.hid (OwnF.but OW4.out but HT.out)
      clear HT L6 Y9 Y10 OW4 R1 R2
      have hle := HL.out.least
      rw [HX1.out, HV.out] at hle
      obtain ⟨hl1, hl2⟩ := hle hx0
      have hdp := HL.out.deep
      have hlg := HL.out.long
      rw [HX1.out] at hdp hlg
      have hsm := HL.out.small
      rw [HX1.out] at hsm
      obtain ⟨hsm1, hsm2⟩ := hsm hx0
      have HDP := Lib.hid (hdp hx0)
      have HLG := Lib.hid (hlg hx0)
      clear hdp hlg hsm
      rw [hl1, hx0] at e13
      dsimp only [uC] at y2
      dsimp only [oC] at y1
      rw [hl1] at y2
      rw [hl2] at y1 own
      have hw1 : IntKind.i64.wrap ((((ansSt X).depth : Nat) : Int) - 1) = (((ansSt X).depth : Nat) : Int) - 1 := IntWalk.i64_in _ (by omega)
      have hw2 : IntKind.i64.wrap ((((ansSt X).steps : Nat) : Int) - 1) = (((ansSt X).steps : Nat) : Int) - 1 := IntWalk.i64_in _ (by omega)
      have HW1 := Lib.hid hw1
      have HW2 := Lib.hid hw2
      clear hw1 hw2 hsm1 hsm2 hl1 hl2 but hle hx0
      have Y13 := Lib.hid y1
      have Y14 := Lib.hid y2
      have OW6 := Lib.hid own
      clear y1 y2 own
      simp only [Act.puts, Act.put, List.setIfInBounds_toArray, List.set_cons_zero, List.set_cons_succ]
      rw [e13]
      clear e13
      have u0 : w6.cell? ⟨q2, 0, none⟩ = some (.int .i64 ((ansSt X).depth : Nat)) := Y12.out.cell 0
      have u1 : w6.cell? ⟨q2, 1, none⟩ = some (.int .i64 ((ansSt X).steps : Nat)) := Y12.out.cell 1
      have o0 : w6.cell? ⟨q1, 0, none⟩ = some (.int .i64 (ansRes X).kind) := Y11.out.cell 0
      have o1 : w6.cell? ⟨q1, 1, none⟩ = some (.int .i64 ((ansRes X).en : Nat)) := Y11.out.cell 1
      have o2 : w6.cell? ⟨q1, 2, none⟩ = some (.string (ansRes X).label) := Y11.out.cell 2
      have o3 : w6.cell? ⟨q1, 3, none⟩ = some (.slice A1 (ansRes X).forest.length c1) := Y11.out.cell 3
      have v0 : w6.cell? ⟨r2, 0, none⟩ = some (.int .i64 ((ansSt X).depth : Nat)) := Y14.out.cell 0
      have v1 : w6.cell? ⟨r2, 1, none⟩ = some (.int .i64 ((ansSt X).steps : Nat)) := Y14.out.cell 1
      have p0 : w6.cell? ⟨r1, 0, none⟩ = some (.int .i64 (ansRes X).kind) := Y13.out.cell 0
      have p1 : w6.cell? ⟨r1, 1, none⟩ = some (.int .i64 ((ansRes X).en : Nat)) := Y13.out.cell 1
      have p2 : w6.cell? ⟨r1, 2, none⟩ = some (.string (ansRes X).label) := Y13.out.cell 2
      have p3 : w6.cell? ⟨r1, 3, none⟩ = some (.slice A3 (ansRes X).forest.length c3) := Y13.out.cell 3
      go_wp2_with (fail)
      refine (outcomes.calls A1 A3 c1 c3 _ _ _ (ansRes X).forest _ _ w6 OW5.out OW6.out (Nat.le_trans HMX.out (by decide))).mono ?_
      rintro e w7 ⟨rfl, hbw⟩
      clear u0 u1 o0 o1 o2 o3 v0 v1 p0 p1 p2 p3
      have L8 := Lib.hid (L7.out.below hbw)
      have Y15 := Lib.hid (Y12.out.below hbw Y12.out.lt)
      clear L7 Y11 Y12 OW5 Y13 Y14 OW6 hbw
      dsimp only
      go_upto_region 20 with fail
      refine R20.wp w w7 Ar c start rs inp ((ansSt X).depth : Nat) ((ansSt X).steps : Nat) _ w.heap.size q2 0 0 rfl HR.out L8.out.bel HM.out.1 HM.out.2 HBB.out L8.out.b0 Y15.out _ _ rfl rfl rfl rfl HW1.out ?_
      intro f4 w8 e13 hb8
      rw [HDP.out] at e13
      have L9 := Lib.hid (L8.out.below hb8)
      have Y16 := Lib.hid (Y15.out.below hb8 Y15.out.lt)
      clear L8 Y15 hb8
      simp only [Act.puts, Act.put, List.setIfInBounds_toArray, List.set_cons_zero, List.set_cons_succ]
      rw [e13]
      clear e13
      go_upto_region 21 with fail
      refine R21.wp w w8 Ar c start rs inp ((ansSt X).depth : Nat) ((ansSt X).steps : Nat) _ w.heap.size q2 0 0 rfl HR.out L9.out.bel HM.out.1 HM.out.2 HBB.out L9.out.b0 Y16.out _ _ rfl rfl rfl rfl HW2.out ?_
      intro f5 w9 s1 s2 A5 c5 e15 e16 e17 _ _ hb9 _ _ _
      rw [HLG.out] at e17
      have L10 := Lib.hid (L9.out.below hb9)
      clear L9 Y16 hb9
      simp only [Act.puts, Act.put, List.setIfInBounds_toArray, List.set_cons_zero, List.set_cons_succ]
      rw [e15, e16, e17]
      clear e15 e16 e17
      go_wp2
      go_ret
      exact ⟨rfl, L10.out.bel⟩
    · rw [hz0]
      clear hz0
      obtain ⟨x1, x2⟩ := ans_bad hx0
      have xd : (ansSt X).depth = 0 := by rw [x2]
      have xs : (ansSt X).steps = 0 := by rw [x2]
      clear x1 x2
      rw [xd] at u0
      rw [xs] at u1
      clear xd xs
      obtain ⟨ex, hex⟩ : ∃ ex, (ansSt X).err = ex := ⟨_, rfl⟩
      rw [hex]
      rw [hex] at hx0
      clear hex
      have hx1 : (ex != 0) = true := by simpa using hx0
      clear hx0
      go_wp2
      go_ret
      exact ⟨rfl, L5.out.bel⟩
  · obtain ⟨z1, z2⟩ := ans_bad hz0
    have zd : (ansSt Z).depth = 0 := by rw [z2]
    have zs : (ansSt Z).steps = 0 := by rw [z2]
    have zf : (ansRes Z).forest.length = 0 := by rw [z1]; rfl
    have zk : (ansRes Z).kind = 0 := by rw [z1]; rfl
    clear z1 z2
    rw [zd] at v0
    rw [zs] at v1
    rw [zf] at p3
    rw [zk] at p0
    clear zd zs zf zk
    have hen : (ansSt X).err = 0 → ¬ (((ansSt X).depth : Int) ≤ D ∧ ((ansSt X).steps : Int) ≤ S) := fun hx he => by
      have := (HL.out.enough (by rw [HX1.out]; exact hx)).2 (by rw [HX1.out]; exact he)
      rw [HZ1.out] at this
      exact hz0 this
    obtain ⟨ez, hez⟩ : ∃ ez, (ansSt Z).err = ez := ⟨_, rfl⟩
    rw [hez]
    rw [hez] at hz0
    clear hez
    have hz1 : (ez != 0) = true := by simpa using hz0
    have hz2 : (ez == 0) = false := by simpa using hz0
    clear hz0
    by_cases hx0 : (ansSt X).err = 0
    · have hen' := hen hx0
      clear hen
      rw [hx0]
      have HX0 := Lib.hid hx0
      clear hx0
      by_cases he1 : ((ansSt X).depth : Int) ≤ D
      all_goals
        try (have he2 : ¬ ((ansSt X).steps : Int) ≤ S := fun h => hen' ⟨he1, h⟩)
        try (have he2' : decide (((ansSt X).steps : Int) ≤ S) = false := by simpa using he2)
        try (have he1' : decide (((ansSt X).depth : Int) ≤ D) = false := by simpa using he1)
        clear hen'
        have L6 := L5
        have Y9 := Y5
        have Y10 := Y6
        have OW4 := OW1
        have R1 : Hid (∃ cs, Blk w4 r1 31 cs ∧ cs.length = 4) := ⟨_, Y3.out, rfl⟩
        have R2 : Hid (∃ cs, Blk w4 r2 32 cs ∧ cs.length = 2) := ⟨_, Y4.out, rfl⟩
        clear L5 Y5 Y6 OW1 OW2 Y3 Y4
        go_upto_region 17 with fail
        clear b50 b51 u0 u1 o0 o1 o2 o3 v0 v1 p0 p1 p2 p3 he1 hz1 hz2
        try clear he2
        try clear he2'
        try clear he1'
        have hx0 := HX0.out; clear HX0
        go_upto_region 17 with fail
        obtain ⟨V, hV⟩ : ∃ V, atAns rs start start inp 0 ((ansSt X).depth : Nat) ((ansSt X).steps : Nat) = V := ⟨_, rfl⟩
        have HV := Lib.hid hV; clear hV
        refine R17.wp w w4 Ar c start rs inp _ _ V w.heap.size q2 r1 r2 HV.out HR.out L6.out.bel HM.out.1 HM.out.2 HBB.out L6.out.b0 Y10.out _ _ rfl rfl rfl rfl rfl rfl R1.out R2.out lr1 lr2 ⟨ne24 L6.out.b0 R1.out (by decide), ne24 L6.out.b0 R2.out (by decide)⟩ ⟨ne24 Y10.out R1.out (by decide), nqr⟩ ?_
        intro f3 w6 A3 c3 e13 but y1 y2 own
        have nq1 : q1 ≠ r1 := nqr1
        have HT : Hid (∀ k, (k = r1 ∨ k = r2) → ∃ t cs, Blk w4 k t cs ∧ t ≠ 49) := fun k hk => by
          rcases hk with rfl | rfl
          · obtain ⟨cs, h1, _⟩ := R1.out; exact ⟨_, cs, h1, by decide⟩
          · obtain ⟨cs, h1, _⟩ := R2.out; exact ⟨_, cs, h1, by decide⟩
        have L7 := Lib.hid (L6.out.but but (fun k hk => hk.elim (fun e => e ▸ lr1) (fun e => e ▸ lr2)) (fun e => e.elim (ne24 L6.out.b0 R1.out (by decide)) (ne24 L6.out.b0 R2.out (by decide))) (fun e => e.elim (ne24 L6.out.b1 R1.out (by decide)) (ne24 L6.out.b1 R2.out (by decide))))
        have Y11 := Lib.hid (Y9.out.but but (fun e => e.elim nq1 (ne24 Y9.out R2.out (by decide))))
        have Y12 := Lib.hid (Y10.out.but but (fun e => e.elim (ne24 Y10.out R1.out (by decide)) nqr))
        have OW5 := Lib.hid (OwnF.but OW4.out but HT.out)
        clear HT L6 Y9 Y10 OW4 R1 R2
        have hle := HL.out.least
        rw [HX1.out, HV.out] at hle
        obtain ⟨hl1, hl2⟩ := hle hx0
        have hdp := HL.out.deep
        have hlg := HL.out.long
        rw [HX1.out] at hdp hlg
        have hsm := HL.out.small
        rw [HX1.out] at hsm
        obtain ⟨hsm1, hsm2⟩ := hsm hx0
        have HDP := Lib.hid (hdp hx0)
        have HLG := Lib.hid (hlg hx0)
        clear hdp hlg hsm
        rw [hl1, hx0] at e13
        dsimp only [uC] at y2
        dsimp only [oC] at y1
        rw [hl1] at y2
        rw [hl2] at y1 own
        have hw1 : IntKind.i64.wrap ((((ansSt X).depth : Nat) : Int) - 1) = (((ansSt X).depth : Nat) : Int) - 1 := IntWalk.i64_in _ (by omega)
        have hw2 : IntKind.i64.wrap ((((ansSt X).steps : Nat) : Int) - 1) = (((ansSt X).steps : Nat) : Int) - 1 := IntWalk.i64_in _ (by omega)
        have HW1 := Lib.hid hw1
        have HW2 := Lib.hid hw2
        clear hw1 hw2 hsm1 hsm2 hl1 hl2 but hle hx0
        have Y13 := Lib.hid y1
        have Y14 := Lib.hid y2
        have OW6 := Lib.hid own
        clear y1 y2 own
        simp only [Act.puts, Act.put, List.setIfInBounds_toArray, List.set_cons_zero, List.set_cons_succ]
        rw [e13]
        clear e13
        have u0 : w6.cell? ⟨q2, 0, none⟩ = some (.int .i64 ((ansSt X).depth : Nat)) := Y12.out.cell 0
        have u1 : w6.cell? ⟨q2, 1, none⟩ = some (.int .i64 ((ansSt X).steps : Nat)) := Y12.out.cell 1
        have o0 : w6.cell? ⟨q1, 0, none⟩ = some (.int .i64 (ansRes X).kind) := Y11.out.cell 0
        have o1 : w6.cell? ⟨q1, 1, none⟩ = some (.int .i64 ((ansRes X).en : Nat)) := Y11.out.cell 1
        have o2 : w6.cell? ⟨q1, 2, none⟩ = some (.string (ansRes X).label) := Y11.out.cell 2
        have o3 : w6.cell? ⟨q1, 3, none⟩ = some (.slice A1 (ansRes X).forest.length c1) := Y11.out.cell 3
        have v0 : w6.cell? ⟨r2, 0, none⟩ = some (.int .i64 ((ansSt X).depth : Nat)) := Y14.out.cell 0
        have v1 : w6.cell? ⟨r2, 1, none⟩ = some (.int .i64 ((ansSt X).steps : Nat)) := Y14.out.cell 1
        have p0 : w6.cell? ⟨r1, 0, none⟩ = some (.int .i64 (ansRes X).kind) := Y13.out.cell 0
        have p1 : w6.cell? ⟨r1, 1, none⟩ = some (.int .i64 ((ansRes X).en : Nat)) := Y13.out.cell 1
        have p2 : w6.cell? ⟨r1, 2, none⟩ = some (.string (ansRes X).label) := Y13.out.cell 2
        have p3 : w6.cell? ⟨r1, 3, none⟩ = some (.slice A3 (ansRes X).forest.length c3) := Y13.out.cell 3
        go_wp2_with (fail)
        refine (outcomes.calls A1 A3 c1 c3 _ _ _ (ansRes X).forest _ _ w6 OW5.out OW6.out (Nat.le_trans HMX.out (by decide))).mono ?_
        rintro e w7 ⟨rfl, hbw⟩
        clear u0 u1 o0 o1 o2 o3 v0 v1 p0 p1 p2 p3
        have L8 := Lib.hid (L7.out.below hbw)
        have Y15 := Lib.hid (Y12.out.below hbw Y12.out.lt)
        clear L7 Y11 Y12 OW5 Y13 Y14 OW6 hbw
        dsimp only
        go_upto_region 20 with fail
        refine R20.wp w w7 Ar c start rs inp ((ansSt X).depth : Nat) ((ansSt X).steps : Nat) _ w.heap.size q2 0 0 rfl HR.out L8.out.bel HM.out.1 HM.out.2 HBB.out L8.out.b0 Y15.out _ _ rfl rfl rfl rfl HW1.out ?_
        intro f4 w8 e13 hb8
        rw [HDP.out] at e13
        have L9 := Lib.hid (L8.out.below hb8)
        have Y16 := Lib.hid (Y15.out.below hb8 Y15.out.lt)
        clear L8 Y15 hb8
        simp only [Act.puts, Act.put, List.setIfInBounds_toArray, List.set_cons_zero, List.set_cons_succ]
        rw [e13]
        clear e13
        go_upto_region 21 with fail
        refine R21.wp w w8 Ar c start rs inp ((ansSt X).depth : Nat) ((ansSt X).steps : Nat) _ w.heap.size q2 0 0 rfl HR.out L9.out.bel HM.out.1 HM.out.2 HBB.out L9.out.b0 Y16.out _ _ rfl rfl rfl rfl HW2.out ?_
        intro f5 w9 s1 s2 A5 c5 e15 e16 e17 _ _ hb9 _ _ _
        rw [HLG.out] at e17
        have L10 := Lib.hid (L9.out.below hb9)
        clear L9 Y16 hb9
        simp only [Act.puts, Act.put, List.setIfInBounds_toArray, List.set_cons_zero, List.set_cons_succ]
        rw [e15, e16, e17]
        clear e15 e16 e17
        go_wp2
        go_ret
        exact ⟨rfl, L10.out.bel⟩
    · clear hen
      obtain ⟨x1, x2⟩ := ans_bad hx0
      have xd : (ansSt X).depth = 0 := by rw [x2]
      have xs : (ansSt X).steps = 0 := by rw [x2]
      clear x1 x2
      rw [xd] at u0
      rw [xs] at u1
      clear xd xs
      obtain ⟨ex, hex⟩ : ∃ ex, (ansSt X).err = ex := ⟨_, rfl⟩
      rw [hex]
      rw [hex] at hx0
      clear hex
      have hx1 : (ex != 0) = true := by simpa using hx0
      clear hx0
      go_wp2
      go_ret
      exact ⟨rfl, L5.out.bel⟩
end Go.Proofs.YtmpkkphohilkoaaDoor.B
