/- Texts joined and shortened (wip/tools/shrink.py): DUnLaw. -/
import Derived.Outline
import Derived.Deep.LoopGhost
import Derived.Deep.DeepCutAuto
import Derived.Deep.CutBlock
import Derived.Test.YtmpkkphohilkoaaDoorQu11
import Derived.Test.YtmpkkphohilkoaaDoorQu12
/- The walk of the law MatchUnseen. -/
namespace Go.Proofs.YtmpkkphohilkoaaDoor.B
open Go Go.RowKit Go.X Go.Ma Go.Proofs.YtmpkkphohilkoaaDoorW.PrintWords Go.Proofs.YtmpkkphohilkoaaDoor.F
attribute [local go_sem high] eqA32
set_option maxRecDepth 100000 in
set_option maxHeartbeats 4000000 in
theorem MatchUnseen.calls (Ar : Option Addr) (c : Nat) (start : Int) (rs : List S42) (inp : ByteArray) (w : World) (hr : Kd.C k42 w Ar rs.length rs) (hc : rs.length ≤ c) (hb : ∀ x ∈ rs, x.f1.length ≤ 140737488355328 ∧ x.f0.size ≤ 140737488355328) (hga : GA w) :
    Calls Tryd.prog 4 #[.agg #[.slice Ar rs.length c, .int .i64 start], .string inp] w fun e w' => e = .returned (.bool true) ∧ Below w.heap.size w w' := by
  have HR := Lib.hid hr; clear hr
  have HC := Lib.hid hc; clear hc
  have HBB := Lib.hid hb; clear hb
  have HGA := Lib.hid hga; clear hga
  have L0 := Lib.hid (L1.start w Ar rs.length c start)
  go_enter Tryd.func4, Tryd.ntmps4
  go_wp2_with (fail)
  generalize (w.alloc (.cells #[.slice Ar rs.length c, .int .i64 start] 24)) = wa at *
  have G0 := Lib.hid (HGA.out.below L0.out.bel)
  refine (works.calls wa G0.out.c0 G0.out.c1 G0.out.c2 G0.out.c3).mono ?_
  rintro e w1 ⟨rfl, hbw⟩
  have L1' := Lib.hid (L0.out.below hbw)
  clear L0 hbw G0
  dsimp only
  have a0 : w1.cell? ⟨w.heap.size, 0, none⟩ = some (.slice Ar rs.length c) := L1'.out.b0.cell 0
  have a1 : w1.cell? ⟨w.heap.size, 1, none⟩ = some (.int .i64 start) := L1'.out.b0.cell 1
  go_wp2_with (fail)
  clear a0 a1
  refine (dowellaw14_heavy.calls 4097 Ar c rs start _ w1 (Kd.C_below HR.out L1'.out.bel) HC.out (heavy_f rs start (fun x hx => (HBB.out x hx).1) _ (by omega))).mono ?_
  rintro e w2 ⟨rfl, hbw⟩
  have L2 := Lib.hid (L1'.out.below hbw)
  clear hbw L1'
  dsimp only
  by_cases hh : decide (4096 < rs.length ∨ 1048576 < sz rs) = true
  · rw [hh]
    go_wp2
    go_ret
    exact ⟨rfl, L2.out.bel⟩
  have hh' : decide (4096 < rs.length ∨ 1048576 < sz rs) = false := by simpa using hh
  have HM := Lib.hid (heavy_no hh')
  have HM4 : Hid (rs.length ≤ 4096) := by show _ ≤ _; have := of_decide_eq_false hh'; omega
  rw [hh']
  clear hh hh'
  have a0 : w2.cell? ⟨w.heap.size, 0, none⟩ = some (.slice Ar rs.length c) := L2.out.b0.cell 0
  have a1 : w2.cell? ⟨w.heap.size, 1, none⟩ = some (.int .i64 start) := L2.out.b0.cell 1
  go_wp2_with (fail)
  clear a0 a1
  refine (dowelref09_Check.calls 100001 Ar c rs start _ w2 (Kd.C_below HR.out L2.out.bel) HC.out (check_f rs start (fun x hx => (HBB.out x hx).1) _ (by omega))).mono ?_
  rintro e w3 ⟨rfl, hbw⟩
  have L3 := Lib.hid (L2.out.below hbw)
  clear hbw L2
  dsimp only
  by_cases hk : chk rs start = true
  case neg =>
    rw [if_neg hk]
    clear hk
    go_wp2
    go_ret
    exact ⟨rfl, L3.out.bel⟩
  rw [if_pos hk]
  have HU := Lib.hid (uLaw rs start inp hk)
  have HK := Lib.hid hk
  clear hk
  go_upto_region 6 with fail
  obtain ⟨wb, hwb⟩ : ∃ wb, wb = w3.alloc (.cells #[.int .i64 3000, .int .i64 50000] 26) := ⟨_, rfl⟩
  rw [← hwb]
  have L4 : Hid (L1 w wb Ar rs.length c start ∧ Blk wb w3.heap.size 26 [.int .i64 3000, .int .i64 50000]) := by
    rw [hwb]; exact ⟨L3.out.below ((Below.refl _ _).alloc (Nat.le_refl _) _), Blk.alloc w3 _ _⟩
  clear hwb L3
  generalize w3.heap.size = fb at *
  obtain ⟨X, hX⟩ : ∃ X, atAns rs start start inp 0 3000 50000 = X := ⟨_, rfl⟩
  rw [hX] at HU
  have hmx : (ansRes X).forest.length ≤ 1048576 := by rw [← hX]; exact atAns_few _ _ _ _ _ _ _
  have HX1 := Lib.hid hX; clear hX
  have HMX := Lib.hid hmx; clear hmx
  refine U6.wp w wb Ar c start rs inp fb X w.heap.size HX1.out HR.out L4.out.1.bel HM.out.1 HM.out.2 HBB.out L4.out.1.b0 L4.out.2 _ _ rfl rfl rfl rfl ?_
  intro f1 w4 q1 q2 A1 c1 e8 e9 e10 l1 l2 hb3 y1 y2 ow1
  have L5 := Lib.hid (And.intro (L4.out.1.below hb3) (L4.out.2.below hb3 L4.out.2.lt))
  have Y1 := Lib.hid y1; have Y2 := Lib.hid y2; have OW := Lib.hid ow1
  clear y1 y2 ow1 l1 l2 hb3 L4
  simp only [Act.puts, Act.put, List.setIfInBounds_toArray, List.set_cons_zero, List.set_cons_succ]
  rw [e8, e9, e10]
  clear e8 e9 e10
  have a0 : w4.cell? ⟨w.heap.size, 0, none⟩ = some (.slice Ar rs.length c) := L5.out.1.b0.cell 0
  have a1 : w4.cell? ⟨w.heap.size, 1, none⟩ = some (.int .i64 start) := L5.out.1.b0.cell 1
  go_wp2_with (fail)
  clear a0 a1
  refine (LendCore.calls Ar c start rs w4 (Kd.C_below HR.out L5.out.1.bel) HM.out.1 HM.out.2).mono ?_
  rintro e w5 ⟨br, P, rfl, hcore, hbr, hbw⟩
  have L6 := Lib.hid (And.intro (L5.out.1.below hbw) (L5.out.2.below hbw L5.out.2.lt))
  have Y3 := Lib.hid (Y1.out.below hbw Y1.out.lt)
  have Y4 := Lib.hid (Y2.out.below hbw Y2.out.lt)
  have OW1 := Lib.hid (OW.out.more (Go.X.grown_of_below hbw none))
  have HCO := Lib.hid hcore
  have HLO : Hid (w.heap.size ≤ w4.heap.size) := L5.out.1.bel.size
  clear hcore hbr L5 Y1 Y2 OW hbw
  dsimp only
  have H7 : ∀ wz : World, wz = w5.alloc (.cells #[.slice (some ⟨br, 0, none⟩) rs.length (rs.length + 1), .int .i64 start] 24) → Hid (L1 w wz Ar rs.length c start ∧ Below w5.heap.size w5 wz) := by
    rintro wz rfl
    exact ⟨L6.out.1.below ((Below.refl _ _).alloc (Nat.le_refl _) _), (Below.refl _ _).alloc (Nat.le_refl _) _⟩
  have a1 : (w5.alloc (.cells #[.slice (some ⟨br, 0, none⟩) rs.length (rs.length + 1), .int .i64 start] 24)).cell? ⟨w.heap.size, 1, none⟩ = some (.int .i64 start) := (H7 _ rfl).out.1.b0.cell 1
  go_wp2_with (fail)
  clear a1
  obtain ⟨wu, hwu⟩ : ∃ wu, wu = ((w5.alloc (.cells #[.slice (some ⟨br, 0, none⟩) rs.length (rs.length + 1), .int .i64 start] 24)).alloc (.cells #[.slice none 0 0, .int .i64 start] 24)) := ⟨_, rfl⟩
  have HB : Hid (UB w wu w.heap.size fb q1 q2 w5.heap.size (w5.heap.size + 1) Ar rs.length c start br A1 c1 X wb.heap.size P ∧ UL wu wu w4.heap.size br (w5.heap.size + 1) P rs start 0 0 wu.heap.size (.slice none 0 0) []) := by
    rw [hwu]; exact ub_start L6.out.1 L6.out.2 Y3.out Y4.out OW1.out HCO.out HLO.out
  rw [← hwu]
  clear hwu H7 L6 Y3 Y4 OW1 HCO HLO
  generalize w5.heap.size + 1 = bb at *
  generalize w5.heap.size = nb at *
  generalize w4.heap.size = lo2 at *
  have HB1 := Lib.hid HB.out.1
  have HB2 := Lib.hid HB.out.2
  clear HB
  go_loopg [11] rs.length (fun q rv wr => ∃ (r hr : Nat) (vr : Value) (vs : List Value), q + r = rs.length ∧ rv = .int .i64 (r : Nat) ∧ Hid (UL wu wr lo2 br bb P rs start r 0 hr vr vs))
  case atStart => exact ⟨0, _, _, _, by simp, rfl, HB2.out⟩
  case round =>
    clear HB2
    rename World => wr
    obtain ⟨r, hr, vr, vs, hq, rfl, HI⟩ := hrel
    have BO := Lib.hid (HB1.out.later HI.out)
    have a0 : wr.cell? ⟨w.heap.size, 0, none⟩ = some (.slice Ar rs.length c) := BO.out.x2.cell 0
    by_cases hlt : r < rs.length
    · have HI2 : Hid (UL wu wr lo2 br bb P rs start r 0 wr.heap.size vr vs) := HI.out.low'
      have HHR : Hid (wu.heap.size ≤ wr.heap.size) := HI2.out.hi.1
      clear HI
      go_wp2
      generalize wr.heap.size = hr' at *
      go_loopg [12, 13] (cr rs r).f1.length (fun q vb iv wi => ∃ (i : Nat), q + i = (cr rs r).f1.length ∧ iv = .int .i64 (i : Nat) ∧ Hid (UL wu wi lo2 br bb P rs start r i hr' vr vs ∧ OwnBody wi hr' vb (((cr rs r).f1.take i).filter isB)))
      case atStart => exact ⟨0, by simp, rfl, HI2.out, World.ownsRow_nil _ _ _ _⟩
      case round =>
        clear HI2 a0 BO
        rename World => wi
        obtain ⟨i, hqi, rfl, HJ⟩ := hrel
        have BO := Lib.hid (HB1.out.later HJ.out.1)
        have a0 : wi.cell? ⟨w.heap.size, 0, none⟩ = some (.slice Ar rs.length c) := BO.out.x2.cell 0
        obtain ⟨ad, A2, c2, eA, z0, z1, zc, hbody⟩ := cr_at (Kd.C_below HR.out BO.out.bel) r hlt
        subst eA
        have hbl : (cr rs r).f1.length ≤ 1048576 := HM.out.2 _ (cr_mem hlt)
        have HBD := Lib.hid hbody; clear hbody
        by_cases hil : i < (cr rs r).f1.length
        · obtain ⟨ad2, eA2, y0, y1, y2, y3, y4, y5, y6⟩ := at_T47 HBD.out (i : Int) (by omega) (by omega)
          subst eA2
          have ex : rd_T47 (cr rs r).f1 (i : Int) = (cr rs r).f1[i] := by rw [rd_T47, Int.toNat_natCast, List.getD_eq_getElem?_getD, List.getElem?_eq_getElem hil]; rfl
          rw [ex, Int.toNat_natCast] at y0 y1 y2 y3 y4 y5 y6
          clear ex
          have hkw : wrap64 ((i : Int) + 1) = ((i + 1 : Nat) : Int) := by rw [IntWalk.wrap64_in _ (by omega)]; rfl
          by_cases h8 : (cr rs r).f1[i].f0 = 8
          · obtain ⟨s1, ⟨v6, s2⟩, s3⟩ := HJ.out.1.spot hlt hil
            have HUL := Lib.hid (HJ.out.1.name hlt hil h8)
            have HOB : Hid (OwnBody (wi.setCell ⟨P r, i * 7 + 6, none⟩ (.string otherS)) hr' u12 (((cr rs r).f1.take (i + 1)).filter isB)) := by
              have h := OwnBody.named HJ.out.1 hlt HJ.out.2 (i * 7 + 6) (.string otherS)
              show OwnBody _ _ _ _
              rwa [filter_step hil, if_pos h8, List.append_nil]
            have s0 : wi.cell? ⟨nb, 0, none⟩ = some (.slice (some ⟨br, 0, none⟩) rs.length (rs.length + 1)) := BO.out.xn.cell 0
            rw [h8] at y0
            clear HJ BO h8
            go_wp2
            go_roundg ((cr rs r).f1.length - (i + 1))
            case measure => omega
            case rel => exact ⟨i + 1, by omega, by first | rfl | rw [hkw], HUL.out, HOB.out⟩
          · have h8b : ((cr rs r).f1[i].f0 == 8) = false := by simp [h8]
            have HUL : Hid (∀ w', (wi.alloc (.cells (nodeC (cr rs r).f1[i]).toArray 47)).grownBy w' u12.ownBlock → UL wu w' lo2 br bb P rs start r (i + 1) hr' vr vs) := fun w' hg => (HJ.out.1.grew HJ.out.2 hg).pass hlt hil h8
            have HOWN := Lib.hid HJ.out.2
            have hfl : (((cr rs r).f1.take i).filter isB).length ≤ i := Nat.le_trans (List.length_filter_le _ _) (by simp; omega)
            have HLO : Hid (hr' ≤ wi.heap.size) := HJ.out.1.hi.2
            have HST : Hid (((cr rs r).f1.take (i + 1)).filter isB = ((cr rs r).f1.take i).filter isB ++ [(cr rs r).f1[i]]) := by show _ = _; rw [filter_step hil, if_neg h8]
            clear HJ BO h8
            generalize ((cr rs r).f1.take i).filter isB = bs at *
            go_wp2_with (first
              | (at_builtin; refine Go.X.append1 rfl (.tmp 85) (.tmp 95) 40 47 rfl hr' _ 7 64 Tryd.underlying40 info47 rfl u12 bs.length (nodesC bs) rfl HOWN.out [.int .i64 (cr rs r).f1[i].f0, .int .u64 (cr rs r).f1[i].f1.f0, .int .u64 (cr rs r).f1[i].f1.f1, .int .u64 (cr rs r).f1[i].f1.f2, .int .u64 (cr rs r).f1[i].f1.f3, .int .i64 (cr rs r).f1[i].f2, .string (cr rs r).f1[i].f3] rfl rfl ?_ ?_ ?_ ?_ ?_)
              | fail)
            · intro u hu; simp at hu; rcases hu with rfl | rfl | rfl | rfl | rfl | rfl | rfl <;> rfl
            · simp only [maxLen]; omega
            · omega
            · exact HLO.out
            · intro v' w5 hown hap
              have HS := Lib.hid (HUL.out w5 hap.grown)
              have HOB : Hid (OwnBody w5 hr' v' (((cr rs r).f1.take (i + 1)).filter isB)) := by
                show OwnBody _ _ _ _
                rw [HST.out]
                exact OwnBody.snoc hown
              obtain ⟨A', c', rfl⟩ := Go.X.own_slice hown
              clear hown hap HUL HOWN HST
              go_wp2
              go_roundg ((cr rs r).f1.length - (i + 1))
              case measure => omega
              case rel => exact ⟨i + 1, by omega, by first | rfl | rw [hkw], HS.out, HOB.out⟩
        · have hd : decide (i < (cr rs r).f1.length) = false := decide_eq_false hil
          have hd2 : decide ((i : Int) < ((cr rs r).f1.length : Int)) = false := decide_eq_false (by omega)
          have HIL : Hid (¬ i < (cr rs r).f1.length) := hil
          clear hil
          obtain ⟨A3, c3, e3⟩ := Go.X.own_slice HJ.out.1.rows.rows
          have hvb : ∃ A n c, u12 = .slice A n c := by
            obtain ⟨A, c, e⟩ := Go.X.own_slice HJ.out.2
            exact ⟨_, _, _, e⟩
          obtain ⟨A4, n4, c4, e4⟩ := hvb
          go_upto_region 19 with fail
          have hlr : ((rsB rs).take r).length = r := by simp [rsB]; omega
          refine U19.wp wi bb w.heap.size vr u12 A3 A4 n4 c4 ad rs.length c r (cr rs r).f0 wu.heap.size ((rsB rs).take r).length start (rowsC ((rsB rs).take r) vs) c3 e3 e4 HJ.out.1.rows.rows (by have := HM.out.1; rw [hlr]; omega) (Nat.le_trans HJ.out.1.hi.1 HJ.out.1.hi.2) hlt HJ.out.1.box BO.out.x2 z0 _ _ rfl rfl rfl rfl rfl ?_
          intro f2 v' wa wx wy h1 h2 h3 h4 h5
          have HN := Lib.hid (HJ.out.1.next hlt (by have := HIL.out; omega) (by have h := HJ.out.2; rwa [List.take_of_length_le (by have := HIL.out; omega)] at h) h1 h2 h3 h4 h5)
          clear h1 h2 h3 h4 h5 HJ BO e3 e4 HBD a0 z0 z1 zc
          simp only [Act.puts, Act.put, List.setIfInBounds_toArray, List.set_cons_zero, List.set_cons_succ]
          go_wp2
          go_roundg (rs.length - (r + 1))
          case measure => omega
          case rel => exact ⟨r + 1, _, _, _, by omega, by first | rfl | (rw [IntWalk.wrap64_in _ (by have := HM.out.1; omega)]; rfl), HN.out⟩
    · have hfin : r = rs.length := by omega
      subst hfin
      obtain ⟨A3, c3, rfl, hc3, hum, hnc⟩ := um_start BO.out HI.out HM.out.1 HM.out.2
      have HUM := Lib.hid hum
      have HNC := Lib.hid hnc
      have HC3 := Lib.hid hc3
      have s0 : wr.cell? ⟨nb, 0, none⟩ = some (.slice (some ⟨br, 0, none⟩) rs.length (rs.length + 1)) := BO.out.xn.cell 0
      have s1 : wr.cell? ⟨nb, 1, none⟩ = some (.int .i64 start) := BO.out.xn.cell 1
      have s2 : wr.cell? ⟨fb, 0, none⟩ = some (.int .i64 3000) := BO.out.x5.cell 0
      have s3 : wr.cell? ⟨fb, 1, none⟩ = some (.int .i64 50000) := BO.out.x5.cell 1
      have hd : decide (rs.length < rs.length) = false := decide_eq_false (by omega)
      have hd2 : decide ((rs.length : Int) < (rs.length : Int)) = false := decide_eq_false (by omega)
      clear hum hnc hc3 HI HB1 BO
      go_wp2_with (fail)
      clear s0 s1 s2 s3 hd hd2 a0
      refine (mrunN (some ⟨br, 0, none⟩) (rs.length + 1) start (rsN rs) rs.length inp 3000 50000 wr (by simp [rsN]) HNC.out (by omega) (sizesN HBB.out)).mono ?_
      rintro e wa hans
      obtain ⟨A2, c2, rfl, hb2, how2⟩ := RunAns.any hans
      clear hans HNC
      have HUM2 := Lib.hid (HUM.out.below hb2)
      have OW2 := Lib.hid how2
      clear hb2 how2 HUM
      generalize atAns (rsN rs) start start inp 0 3000 50000 = Y at *
      dsimp only
      go_upto_region 21 with fail
      have HT := Lib.hid (two_boxes wa (.int .i64 (ansRes Y).kind) (.int .i64 ((ansRes Y).en : Nat)) (.string (ansRes Y).label) (.slice A2 (ansRes Y).forest.length c2) (.int .i64 ((ansSt Y).depth : Nat)) (.int .i64 ((ansSt Y).steps : Nat)) 31 32)
      generalize ((wa.alloc (Obj.cells #[_, _, _, _] 31)).alloc (Obj.cells #[_, _] 32)) = wm at *
      have HUM3 := Lib.hid (HUM2.out.below HT.out.1)
      have HUN := Lib.hid (un_start HU.out HT.out.2.1 HT.out.2.2 OW2.out HT.out.1)
      rw [show (ansSt Y).err = (ansSt X).err from congrArg St.err HU.out.st]
      clear HT HUM2 OW2
      generalize wa.heap.size + 1 = y2 at *
      generalize wa.heap.size = y1 at *
      have s0 : wm.cell? ⟨q2, 0, none⟩ = some (.int .i64 ((ansSt X).depth : Nat)) := HUM3.out.o2.cell 0
      have s1 : wm.cell? ⟨q2, 1, none⟩ = some (.int .i64 ((ansSt X).steps : Nat)) := HUM3.out.o2.cell 1
      have s2 : wm.cell? ⟨y2, 0, none⟩ = some (.int .i64 ((ansSt X).depth : Nat)) := HUN.out.o2.cell 0
      have s3 : wm.cell? ⟨y2, 1, none⟩ = some (.int .i64 ((ansSt X).steps : Nat)) := HUN.out.o2.cell 1
      have s4 : wm.cell? ⟨q1, 3, none⟩ = some (.slice A1 (ansRes X).forest.length c1) := HUM3.out.o1.cell 3
      have s5 : wm.cell? ⟨y1, 3, none⟩ = some (.slice A2 (ansRes X).forest.length c2) := HUN.out.o1.cell 3
      go_wp2
      clear s0 s1 s2 s3 s4 s5
      obtain ⟨F, hF⟩ : ∃ F, (ansRes X).forest = F := ⟨_, rfl⟩
      have HF : Hid ((ansRes X).forest = F) := hF
      rw [hF] at HMX
      clear hF
      go_loopg [17] F.length (fun q iv wi => ∃ (i : Nat), q + i = F.length ∧ iv = .int .i64 (i : Nat) ∧ Hid (UM w wi fb q1 q2 bb A1 c1 X wb.heap.size A3 c3 (rsB rs) rs.length start ∧ UN wi y1 y2 A2 c2 X wr.heap.size))
      case atStart => exact ⟨0, by simp, rfl, HUM3.out, HUN.out⟩
      case round =>
        clear HUM3 HUN
        rename World => wi
        obtain ⟨i, hqi, rfl, HI⟩ := hrel
        have s4 : wi.cell? ⟨q1, 3, none⟩ = some (.slice A1 F.length c1) := by rw [← HF.out]; exact HI.out.1.o1.cell 3
        have s5 : wi.cell? ⟨y1, 3, none⟩ = some (.slice A2 F.length c2) := by rw [← HF.out]; exact HI.out.2.o1.cell 3
        have hm := HMX.out
        by_cases hil : i < F.length
        · obtain ⟨g1, hA1, hg1, r1⟩ := forest_row (i := i) (by have h := HI.out.1.ow; rw [HF.out] at h; exact h) (by omega) hil
          obtain ⟨g2, hA2, hg2, r2⟩ := forest_row (i := i) (by have h := HI.out.2.ow; rw [HF.out] at h; exact h) (by simp; omega) (by simpa using hil)
          rw [List.getElem_map] at r2
          subst hA1 hA2
          go_upto_region 26 with fail
          refine U26.wp wi q1 y1 g1 g2 F.length c1 c2 i F[i] (nmC otherS F[i]) hil s4 s5 r1 r2 hg1 hg2 _ _ rfl rfl rfl rfl ?_
          intro f2 w' u1 u2 e18 e19 hb' k1 k2
          have HJ := Lib.hid (And.intro (HI.out.1.below hb') (HI.out.2.below hb'))
          clear HI s4 s5 r1 r2 hb'
          simp only [Act.puts, Act.put, List.setIfInBounds_toArray, List.set_cons_zero, List.set_cons_succ]
          rw [e18, e19]
          clear e18 e19
          have z0 : w'.cell? ⟨u2, 0, none⟩ = some (.string ⟨#[111, 116, 104, 101, 114]⟩) := k2.cell 0
          have z1 : w'.cell? ⟨u2, 1, none⟩ = some (.int .i64 F[i].fr) := k2.cell 1
          have z2 : w'.cell? ⟨u2, 2, none⟩ = some (.int .i64 F[i].to) := k2.cell 2
          have z3 : w'.cell? ⟨u2, 3, none⟩ = some (.int .i64 F[i].kids) := k2.cell 3
          have x1 : w'.cell? ⟨u1, 1, none⟩ = some (.int .i64 F[i].fr) := k1.cell 1
          have x2 : w'.cell? ⟨u1, 2, none⟩ = some (.int .i64 F[i].to) := k1.cell 2
          have x3 : w'.cell? ⟨u1, 3, none⟩ = some (.int .i64 F[i].kids) := k1.cell 3
          clear k1 k2
          have hkw : wrap64 ((i : Int) + 1) = ((i + 1 : Nat) : Int) := by rw [IntWalk.wrap64_in _ (by omega)]; rfl
          go_wp2
          go_roundg (F.length - (i + 1))
          case measure => omega
          case rel => exact ⟨i + 1, by omega, by first | rfl | rw [hkw], HJ.out⟩
        · have hd : decide (i < F.length) = false := decide_eq_false hil
          have hd2 : decide ((i : Int) < (F.length : Int)) = false := decide_eq_false (by omega)
          have b0 : wi.cell? ⟨bb, 0, none⟩ = some (.slice A3 rs.length c3) := HI.out.1.xb.cell 0
          have b1 : wi.cell? ⟨bb, 1, none⟩ = some (.int .i64 start) := HI.out.1.xb.cell 1
          have b2 : wi.cell? ⟨fb, 0, none⟩ = some (.int .i64 3000) := HI.out.1.x5.cell 0
          have b3 : wi.cell? ⟨fb, 1, none⟩ = some (.int .i64 50000) := HI.out.1.x5.cell 1
          clear hil
          go_wp2_with (fail)
          clear s4 s5 hd hd2 b0 b1 b2 b3
          refine (mrunN A3 c3 start (rsB rs) rs.length inp 3000 50000 wi (by simp [rsB]) HI.out.1.cb HC3.out (sizesB HBB.out)).mono ?_
          rintro e wv hans
          obtain ⟨A4, c4, rfl, hb2, how2⟩ := RunAns.any hans
          clear hans how2
          have HJ := Lib.hid (And.intro (HI.out.1.below hb2) (HI.out.2.below hb2))
          clear hb2 HI
          generalize atAns (rsB rs) start start inp 0 3000 50000 = V at *
          dsimp only
          go_upto_region 30 with fail
          have HT := Lib.hid (two_boxes wv (.int .i64 (ansRes V).kind) (.int .i64 ((ansRes V).en : Nat)) (.string (ansRes V).label) (.slice A4 (ansRes V).forest.length c4) (.int .i64 ((ansSt V).depth : Nat)) (.int .i64 ((ansSt V).steps : Nat)) 31 32)
          generalize ((wv.alloc (Obj.cells #[_, _, _, _] 31)).alloc (Obj.cells #[_, _] 32)) = wz at *
          have HK := Lib.hid (And.intro (HJ.out.1.below HT.out.1) (HJ.out.2.below HT.out.1))
          clear HJ
          by_cases he : (ansSt X).err = 0
          · obtain ⟨v1, v2, v3, v4, v5, v6, v7⟩ := HU.out.bare he
            have x0 : wz.cell? ⟨q1, 0, none⟩ = some (.int .i64 (ansRes X).kind) := HK.out.1.o1.cell 0
            have x1 : wz.cell? ⟨q1, 1, none⟩ = some (.int .i64 ((ansRes X).en : Nat)) := HK.out.1.o1.cell 1
            have x2 : wz.cell? ⟨q1, 2, none⟩ = some (.string (ansRes X).label) := HK.out.1.o1.cell 2
            have y0 : wz.cell? ⟨y1, 0, none⟩ = some (.int .i64 (ansRes X).kind) := HK.out.2.o1.cell 0
            have ya : wz.cell? ⟨y1, 1, none⟩ = some (.int .i64 ((ansRes X).en : Nat)) := HK.out.2.o1.cell 1
            have yb : wz.cell? ⟨y1, 2, none⟩ = some (.string (ansRes X).label) := HK.out.2.o1.cell 2
            have z0 : wz.cell? ⟨wv.heap.size, 0, none⟩ = some (.int .i64 (ansRes X).kind) := by rw [← v2]; exact HT.out.2.1.cell 0
            have z1 : wz.cell? ⟨wv.heap.size, 1, none⟩ = some (.int .i64 ((ansRes X).en : Nat)) := by rw [← v3]; exact HT.out.2.1.cell 1
            have z2 : wz.cell? ⟨wv.heap.size, 2, none⟩ = some (.string (ansRes X).label) := by rw [← v4]; exact HT.out.2.1.cell 2
            have z3 : wz.cell? ⟨wv.heap.size, 3, none⟩ = some (.slice A4 0 c4) := by have h := HT.out.2.1.cell 3; rw [v5] at h; exact h
            have t0 : wz.cell? ⟨wv.heap.size + 1, 0, none⟩ = some (.int .i64 ((ansSt V).depth : Nat)) := HT.out.2.2.cell 0
            have t1 : wz.cell? ⟨wv.heap.size + 1, 1, none⟩ = some (.int .i64 ((ansSt V).steps : Nat)) := HT.out.2.2.cell 1
            have p0 : wz.cell? ⟨q2, 0, none⟩ = some (.int .i64 ((ansSt X).depth : Nat)) := HK.out.1.o2.cell 0
            have p1 : wz.cell? ⟨q2, 1, none⟩ = some (.int .i64 ((ansSt X).steps : Nat)) := HK.out.1.o2.cell 1
            have l1 : decide (((ansSt V).steps : Int) ≤ ((ansSt X).steps : Int)) = true := decide_eq_true (by omega)
            have l2 : decide (((ansSt V).depth : Int) ≤ ((ansSt X).depth : Int)) = true := decide_eq_true (by omega)
            rw [he, v1]
            clear v1 v2 v3 v4 v5 HT
            go_wp2
            go_ret
            exact ⟨rfl, HK.out.1.bel⟩
          · have he1 : ((ansSt X).err == 0) = false := by simp [he]
            have he2 : ((ansSt X).err != 0) = true := by simp [he]
            clear HT
            go_wp2
            go_ret
            exact ⟨rfl, HK.out.1.bel⟩
end Go.Proofs.YtmpkkphohilkoaaDoor.B
