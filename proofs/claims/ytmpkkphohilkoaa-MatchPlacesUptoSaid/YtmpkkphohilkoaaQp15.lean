/- Texts joined and shortened (wip/tools/shrink.py): MRunR, MLend, MKept, MLawB, MPlacesLaw. -/
import Derived.Test.YtmpkkphohilkoaaQp14
import Derived.Test.YtmpkkphohilkoaaQp10
import Derived.Deep.RegionHeld3
import Derived.Outline
import Derived.Test.YtmpkkphohilkoaaQp2
import Derived.Test.YtmpkkphohilkoaaQp11
import Derived.Laws.Concat
/- dowelref14.Run and At, walked (printed by wip/tools/genrun.py). -/
namespace Go.Proofs.Ytmpkkphohilkoaa.B
open Go Go.RowKit Go.X Go.Ma Go.Proofs.YtmpkkphohilkoaaW.PrintWords Go.Proofs.Ytmpkkphohilkoaa.F

theorem E4.own {w wr w' : World} {Ar : Option Addr} {N c b : Nat} {start D S : Int} (h : E4 w wr Ar N c start D S) (hg : wr.grownBy w' (some b)) (hb : w.heap.size + 1 + 1 + 1 < b) : E4 w w' Ar N c start D S :=
  ⟨h.bel.grown hg h.bel.size (fun k hk => by injection hk with hk; omega), h.b0.grown hg (by intro e; injection e with e; omega), h.b1.grown hg (by intro e; injection e with e; omega), h.b2.grown hg (by intro e; injection e with e; omega), h.b3.grown hg (by intro e; injection e with e; omega)⟩
theorem far4' {w : World} {b : Nat} {p : Addr} {v x0 x1 x2 x3 : Value} (h : b ≠ p.block) (hp : w.cell? p = some v) : ((((w.setCell ⟨b, 0, none⟩ x0).setCell ⟨b, 1, none⟩ x1).setCell ⟨b, 2, none⟩ x2).setCell ⟨b, 3, none⟩ x3).cell? p = some v := far1 h (far1 h (far1 h (far1 h hp)))
theorem far6' {w : World} {b b' : Nat} {p : Addr} {v x0 x1 x2 x3 y0 y1 : Value} (h : b ≠ p.block) (h' : b' ≠ p.block) (hp : w.cell? p = some v) : ((((((w.setCell ⟨b, 0, none⟩ x0).setCell ⟨b, 1, none⟩ x1).setCell ⟨b, 2, none⟩ x2).setCell ⟨b, 3, none⟩ x3).setCell ⟨b', 0, none⟩ y0).setCell ⟨b', 1, none⟩ y1).cell? p = some v := far1 h' (far1 h' (far1 h (far1 h (far1 h (far1 h hp)))))
theorem told_at {Y : Cy} {rb : Nat} (h : Y.rb = rb) (s : St) (k : Int) (en : Nat) (lb : ByteArray) (v : Option Addr) (fl fc : Nat) (w : World) (hr : Rm Y s w) :
    Calls Try.prog 20 #[.pointer (some ⟨rb, 0, none⟩), .agg #[.int .i64 k, .int .i64 (en : Nat), .string lb, .slice v fl fc]] w (ToldP s k en lb (.slice v fl fc) w) := by
  subst h
  exact told.calls Y s k en lb v fl fc w hr
theorem told_ans {x : Res × St} {v : Value} {w w' : World} {e : Ending} {base : Nat} (h : ToldP x.2 x.1.kind x.1.en x.1.label v w e w') (ho : OwnF w base v x.1.forest) :
    ∃ v', e = .returned (tupC (ansRes x).kind (ansRes x).en (ansRes x).label v' (ansSt x).depth (ansSt x).steps (ansSt x).err) ∧ OwnF w' base v' (ansRes x).forest := by
  obtain ⟨he, hb⟩ := h
  by_cases h0 : x.2.err = 0
  · rw [if_pos h0] at he
    refine ⟨v, ?_, ?_⟩
    · rw [he]
      simp only [ansRes, ansSt]
      rw [if_pos h0, if_pos h0, h0]
    · simp only [ansRes, if_pos h0]
      exact ho.more (Go.X.grown_of_below hb none)
  · rw [if_neg h0] at he
    refine ⟨.slice none 0 0, ?_, ?_⟩
    · rw [he]
      simp only [ansRes, ansSt, if_neg h0]
      rfl
    · simp only [ansRes, if_neg h0]
      exact OwnF.nil _ _
set_option maxRecDepth 100000 in
set_option maxHeartbeats 4000000 in
theorem rrun.calls (Ar : Option Addr) (c : Nat) (start : Int) (rs : List S45) (inp : ByteArray) (D S : Int) (w : World) (hr : Kd.C k45 w Ar rs.length rs) (hc : rs.length ≤ c) (hb : ∀ x ∈ rs, x.f1.length ≤ 140737488355328 ∧ x.f0.size ≤ 140737488355328) :
    Calls Try.prog 9 #[.agg #[.slice Ar rs.length c, .int .i64 start], .string inp, .agg #[.int .i64 D, .int .i64 S]] w (RunAns w (atAns rs start start inp 0 D S)) := by
  have HR := Lib.hid hr; clear hr
  have HC := Lib.hid hc; clear hc
  have HBB := Lib.hid hb; clear hb
  have HA := Lib.hid (E4.start w Ar rs.length c start D S)
  go_enter Try.func9, Try.ntmps9
  go_wp2_with (fail)
  have hwa0 : start4 w Ar rs.length c start D S = (((w.alloc (.cells #[.slice Ar rs.length c, .int .i64 start] 24)).alloc (.cells #[.int .i64 D, .int .i64 S] 26)).alloc (.cells #[.int .i64 0, .int .i64 0, .string ⟨#[]⟩, .slice none 0 0] 31)).alloc (.cells #[.int .i64 0, .int .i64 0] 32) := rfl
  rw [hwa0] at HA
  clear hwa0
  generalize (((w.alloc (.cells #[.slice Ar rs.length c, .int .i64 start] 24)).alloc (.cells #[.int .i64 D, .int .i64 S] 26)).alloc (.cells #[.int .i64 0, .int .i64 0, .string ⟨#[]⟩, .slice none 0 0] 31)).alloc (.cells #[.int .i64 0, .int .i64 0] 32) = wa at *
  refine (dowelref09_Check.calls 100001 Ar c rs start (if chk rs start = true then 0 else 6) wa (Kd.C_below HR.out HA.out.bel) HC.out (check_f rs start (fun x hx => (HBB.out x hx).1) _ (by omega))).mono ?_
  rintro e w1 ⟨he, hbw⟩
  have he' : e = .returned (.int .i64 (chkI rs start)) := he
  clear he
  subst he'
  have HB : Hid (E4 w w1 Ar rs.length c start D S) := HA.out.below hbw
  clear hbw HA
  dsimp only
  have s0 : w1.cell? ⟨w.heap.size + 1 + 1, 0, none⟩ = some (.int .i64 0) := HB.out.b2.cell 0
  have s1 : w1.cell? ⟨w.heap.size + 1 + 1, 1, none⟩ = some (.int .i64 0) := HB.out.b2.cell 1
  have s2 : w1.cell? ⟨w.heap.size + 1 + 1, 2, none⟩ = some (.string ⟨#[]⟩) := HB.out.b2.cell 2
  have s3 : w1.cell? ⟨w.heap.size + 1 + 1, 3, none⟩ = some (.slice none 0 0) := HB.out.b2.cell 3
  have t0 : w1.cell? ⟨w.heap.size + 1 + 1 + 1, 0, none⟩ = some (.int .i64 0) := HB.out.b3.cell 0
  have t1 : w1.cell? ⟨w.heap.size + 1 + 1 + 1, 1, none⟩ = some (.int .i64 0) := HB.out.b3.cell 1
  have f0 := HB.out.b2.frozen 0
  have f1 := HB.out.b2.frozen 1
  have f2 := HB.out.b2.frozen 2
  have f3 := HB.out.b2.frozen 3
  have g0 := HB.out.b3.frozen 0
  have g1 := HB.out.b3.frozen 1
  by_cases hk : chk rs start = true
  · rw [chkI_of hk]
    have HCK := Lib.hid hk
    have HS : Hid (0 ≤ start ∧ start < rs.length ∧ rs.length ≤ 256) := by
      have := ((chk_iff rs start).1 hk).1
      exact ⟨this.2.2.1, this.2.2.2.1, this.2.1⟩
    have HG := Lib.hid (good_of hk)
    clear hk
    have a0 : w1.cell? ⟨w.heap.size, 0, none⟩ = some (.slice Ar rs.length c) := HB.out.b0.cell 0
    have a1 : w1.cell? ⟨w.heap.size, 1, none⟩ = some (.int .i64 start) := HB.out.b0.cell 1
    have d0 : w1.cell? ⟨w.heap.size + 1, 0, none⟩ = some (.int .i64 D) := HB.out.b1.cell 0
    have d1 : w1.cell? ⟨w.heap.size + 1, 1, none⟩ = some (.int .i64 S) := HB.out.b1.cell 1
    have HRU : Hid (0 ≤ start ∧ start < rs.length) := ⟨HS.out.1, HS.out.2.1⟩
    by_cases hl : (65536 : Int) < (inp.size : Int)
    · have HV : Hid (atAns rs start start inp 0 D S = (.zero, ⟨0, 0, 1⟩)) := atAns_long HCK.out HRU.out (by omega)
      go_wp2
      clear s0 s1 s2 s3 t0 t1 f0 f1 f2 f3 g0 g1
      (try simp only [Exit.inBlock, Exit.then])
      show bodyPost _ _ _ _ _ (put42 w1 (w.heap.size + 1 + 1) (.int .i64 0) (.int .i64 ((0 : Nat) : Int)) (.string ⟨#[]⟩) (.slice none 0 0) (.int .i64 ((0 : Nat) : Int)) (.int .i64 ((0 : Nat) : Int)))
      obtain ⟨wz, hwz⟩ : ∃ wz, wz = put42 w1 (w.heap.size + 1 + 1) (.int .i64 0) (.int .i64 ((0 : Nat) : Int)) (.string ⟨#[]⟩) (.slice none 0 0) (.int .i64 ((0 : Nat) : Int)) (.int .i64 ((0 : Nat) : Int)) := ⟨_, rfl⟩
      rw [← hwz]
      obtain ⟨hb, ho, k1, k2⟩ := E4.fin HB.out (OwnF.nil _ _) hwz
      clear hwz
      have r0 : wz.cell? ⟨w.heap.size + 1 + 1, 0, none⟩ = some (.int .i64 0) := k1.cell 0
      have r1 : wz.cell? ⟨w.heap.size + 1 + 1, 1, none⟩ = some (.int .i64 ((0 : Nat) : Int)) := k1.cell 1
      have r2 : wz.cell? ⟨w.heap.size + 1 + 1, 2, none⟩ = some (.string ⟨#[]⟩) := k1.cell 2
      have r3 : wz.cell? ⟨w.heap.size + 1 + 1, 3, none⟩ = some (.slice none 0 0) := k1.cell 3
      have r4 : wz.cell? ⟨w.heap.size + 1 + 1 + 1, 0, none⟩ = some (.int .i64 ((0 : Nat) : Int)) := k2.cell 0
      have r5 : wz.cell? ⟨w.heap.size + 1 + 1 + 1, 1, none⟩ = some (.int .i64 ((0 : Nat) : Int)) := k2.cell 1
      refine bodyPost_ret (v := tupC 0 (0) ⟨#[]⟩ (.slice none 0 0) (0) (0) 1) (by simp [results, tupC, rsC, Try.results9, go_sem, r0, r1, r2, r3, r4, r5]) rfl ?_
      rw [HV.out]
      exact runAns_zero (by decide) hb
    have HLN : Hid (inp.size ≤ 65536) := by show _ ≤ _; omega
    obtain ⟨r, hrr⟩ : ∃ r : Nat, start = (r : Int) := ⟨start.toNat, by have := HS.out; omega⟩
    subst hrr
    have HRP : Hid (r < rs.length ∧ 0 ≤ inp.size) := ⟨by have := HRU.out; omega, Nat.zero_le _⟩
    have HV : Hid (atAns rs (r : Nat) (r : Nat) inp 0 D S = runOf rs inp r 0 D S) := atAns_run (p := 0) HCK.out HRP.out.1 HLN.out HRP.out.2
    have HFY' : ∀ (g cP rb : Nat), Hid (Fy ⟨inp, Ar, c, (r : Nat), ⟨g, 0, none⟩, cP, rb, clamp D S, rs, w1⟩) := fun g cP rb =>
      ⟨Kd.C_below HR.out HB.out.bel, HG.out, (clamp_le D S).2, Nat.le_trans (clamp_le D S).1 (by decide), Nat.le_trans HLN.out (by decide)⟩
    have HLT : Hid (w.heap.size + 1 + 1 + 1 < w1.heap.size) := HB.out.b3.lt
    go_wp2_with (fail)
    clear a0 a1 d0 d1
    refine (begin14.calls Ar c (r : Nat) rs inp D S w1 (Kd.C_below HR.out HB.out.bel) HG.out).mono ?_
    rintro e w2 ⟨rb, g, cP, rfl, hrm⟩
    have HFY := HFY' g cP rb
    clear HFY'
    have HRM := Lib.hid hrm
    have HE : Hid (E4 w w2 Ar rs.length c (r : Nat) D S) := HB.out.below hrm.bel
    have HLO : Hid (w.heap.size + 1 + 1 + 1 < rb) := Nat.lt_of_lt_of_le HLT.out hrm.lo
    clear hrm HB s0 s1 s2 s3 t0 t1 f0 f1 f2 f3 g0 g1 HLT
    obtain ⟨ad, A1, c1, eA, _, e1, _, _⟩ := cr_at HR.out r HRP.out.1
    subst eA
    have HCELL : Hid (∀ w' : World, Below w.heap.size w w' → w'.cell? ⟨(ad.add (r * 2)).block, (ad.add (r * 2)).off + 1, none⟩ = some (.slice A1 (cr rs r).f1.length c1)) := fun w' hb => Below.cell_some' hb e1
    have HBLK : Hid ((ad.add (r * 2)).block < w.heap.size) := by have := World.block_lt_of_cell? w _ e1; exact this
    clear e1
    obtain ⟨l', hl'⟩ : ∃ l', (cr rs r).f1.length = l' + 1 := by
      have h1 := HG.out.one r HRP.out.1
      refine ⟨(cr rs r).f1.length - 1, ?_⟩
      rcases Nat.eq_zero_or_pos (cr rs r).f1.length with h0 | h0
      · rw [h0] at h1; simp [istk] at h1
      · omega
    have HLB : Hid ((cr rs r).f1.length = l' + 1 ∧ (cr rs r).f1.length ≤ 1048576) := ⟨hl', HG.out.len r HRP.out.1⟩
    clear hl'
    have HTRE : Hid (tr (bod rs r) l' = tre rs r) := by
      show _ = _
      rw [tre, HLB.out.1]
      rfl
    generalize hY : (⟨inp, some ad, c, (r : Nat), ⟨g, 0, none⟩, cP, rb, clamp D S, rs, w1⟩ : Cy) = Y at *
    have HY := Lib.hid hY
    have hYrb : Y.rb = rb := by rw [← hY]
    have HYE : Hid (Y.rs = rs ∧ Y.l = clamp D S ∧ Y.inp = inp ∧ Y.e = envOf rs inp ∧ Y.b = bod rs ∧ Y.n r = (cr rs r).f1.length) := by rw [← hY]; exact ⟨rfl, rfl, rfl, rfl, rfl, rfl⟩
    have HND : Hid (∀ w', Rm Y st0 w' → Calls Try.prog 21 #[.pointer (some ⟨rb, 0, none⟩), .int .i64 (r : Nat), .int .i64 (l' : Nat), .int .i64 (0 : Nat), .int .i64 (1 : Nat)] w' (ToldM Y w' (runOf rs inp r 0 D S))) := by
      intro w' hw'
      have h := node.calls Y HFY.out (2 * (clamp D S).steps + 1) _ (Nat.le_refl _) r l' 0 1 st0 w' (by rw [HYE.out.1]; exact HRP.out.1) (by rw [HYE.out.2.2.2.2.2]; have := HLB.out; omega) (by rw [HYE.out.1, HYE.out.2.2.2.2.1, HTRE.out]; exact HG.out.low r HRP.out.1) (by rw [HYE.out.2.1]; simp only [st0]; omega) (by rw [HYE.out.2.2.1]; exact HRP.out.2) (by omega) (Nat.zero_le _) (Nat.zero_le _) hw'
      rw [HYE.out.2.1, HYE.out.2.2.2.1, HYE.out.2.2.2.2.1, HTRE.out, hYrb] at h
      exact h
    clear hY
    have HRMD : Hid (Rm Y st0 w2.drew) := HRM.out.grown (Go.X.grown_of_below (Below.drewQ ⟨1, rfl⟩) none)
    have HED : Hid (E4 w w2.drew (some ad) rs.length c (r : Nat) D S) := HE.out.below (Below.drewQ ⟨1, rfl⟩)
    have s0 : w2.cell? ⟨w.heap.size + 1 + 1, 0, none⟩ = some (.int .i64 0) := HE.out.b2.cell 0
    have s1 : w2.cell? ⟨w.heap.size + 1 + 1, 1, none⟩ = some (.int .i64 0) := HE.out.b2.cell 1
    have s2 : w2.cell? ⟨w.heap.size + 1 + 1, 2, none⟩ = some (.string ⟨#[]⟩) := HE.out.b2.cell 2
    have s3 : w2.cell? ⟨w.heap.size + 1 + 1, 3, none⟩ = some (.slice none 0 0) := HE.out.b2.cell 3
    have t0 : w2.cell? ⟨w.heap.size + 1 + 1 + 1, 0, none⟩ = some (.int .i64 0) := HE.out.b3.cell 0
    have t1 : w2.cell? ⟨w.heap.size + 1 + 1 + 1, 1, none⟩ = some (.int .i64 0) := HE.out.b3.cell 1
    have f0 := HE.out.b2.frozen 0
    have f1 := HE.out.b2.frozen 1
    have f2 := HE.out.b2.frozen 2
    have f3 := HE.out.b2.frozen 3
    have g0 := HE.out.b3.frozen 0
    have g1 := HE.out.b3.frozen 1
    have a0 : w2.cell? ⟨w.heap.size, 0, none⟩ = some (.slice (some ad) rs.length c) := HE.out.b0.cell 0
    have a1 : w2.cell? ⟨w.heap.size, 1, none⟩ = some (.int .i64 (r : Nat)) := HE.out.b0.cell 1
    have e1 := HCELL.out w2 HE.out.bel
    have hr0 : (0 : Int) ≤ (r : Int) := Int.natCast_nonneg _
    have hr1 : (r : Int) < (rs.length : Int) := Int.ofNat_lt.2 HRP.out.1
    have hlw2 : IntKind.i64.wrap (((cr rs r).f1.length : Int) - 1) = ((l' : Nat) : Int) := by have := HLB.out; rw [IntWalk.i64_in _ (by omega)]; omega
    have HNE : Hid (w.heap.size + 1 + 1 ≠ w.heap.size ∧ w.heap.size + 1 + 1 + 1 ≠ w.heap.size ∧ w.heap.size + 1 + 1 ≠ (ad.add (r * 2)).block ∧ w.heap.size + 1 + 1 + 1 ≠ (ad.add (r * 2)).block) := by have := HBLK.out; exact ⟨by omega, by omega, by omega, by omega⟩
    go_wp2
    go_region_held3 (fun w' => w'.cell? ⟨w.heap.size, 0, none⟩ = some (.slice (some ad) rs.length c) ∧ w'.cell? ⟨w.heap.size, 1, none⟩ = some (.int .i64 (r : Nat)) ∧ w'.cell? ⟨(ad.add (r * 2)).block, (ad.add (r * 2)).off + 1, none⟩ = some (.slice A1 (cr rs r).f1.length c1))
      (first
        | with_reducible exact ⟨k0, k1, k2⟩
        | with_reducible exact ⟨far4' HNE.out.1 k0, far4' HNE.out.1 k1, far4' HNE.out.2.2.1 k2⟩
        | with_reducible exact ⟨far6' HNE.out.1 HNE.out.2.1 k0, far6' HNE.out.1 HNE.out.2.1 k1, far6' HNE.out.2.2.1 HNE.out.2.2.2 k2⟩
        | go_keep)
      (first
        | (go_at_call 21; refine (HND.out _ HRMD.out).mono ?_; rintro e w3 ⟨v3, rfl, hg, hr, ho⟩
           obtain ⟨ax, cx, hv⟩ := Go.X.own_slice ho
           subst hv
           rw [hYrb] at hg
           have HE3 : Hid (E4 w w3 (some ad) rs.length c (r : Nat) D S) := HED.out.own hg HLO.out
           have HO3 : Hid (OwnF w3 w.heap.size (.slice ax (runOf rs inp r 0 D S).1.forest.length cx) (runOf rs inp r 0 D S).1.forest) := ho.low HED.out.bel.size
           have HR3 := Lib.hid hr
           clear hg hr ho
           have k0 : w3.cell? ⟨w.heap.size, 0, none⟩ = some (.slice (some ad) rs.length c) := HE3.out.b0.cell 0
           have k1 : w3.cell? ⟨w.heap.size, 1, none⟩ = some (.int .i64 (r : Nat)) := HE3.out.b0.cell 1
           have k2 := HCELL.out w3 HE3.out.bel
           generalize runOf rs inp r 0 D S = x at *
           dsimp only [rsC])
        | (go_at_call 20; refine (told_at hYrb x.2 x.1.kind x.1.en x.1.label ax x.1.forest.length cx _ HR3.out).mono ?_; rintro e w4 htp
           obtain ⟨v4, he4, ho4⟩ := told_ans htp HO3.out
           subst he4
           have HE4 : Hid (E4 w w4 (some ad) rs.length c (r : Nat) D S) := HE3.out.below htp.2
           clear htp k0 k1 k2
           have k0 : w4.cell? ⟨w.heap.size, 0, none⟩ = some (.slice (some ad) rs.length c) := HE4.out.b0.cell 0
           have k1 : w4.cell? ⟨w.heap.size, 1, none⟩ = some (.int .i64 (r : Nat)) := HE4.out.b0.cell 1
           have k2 := HCELL.out w4 HE4.out.bel
           obtain ⟨a4, c4, hv4⟩ := Go.X.own_slice ho4
           subst hv4
           generalize hq1 : ansRes x = q1 at ho4 ⊢
           generalize hq2 : ansSt x = q2 at *
           have HQ := Lib.hid (And.intro hq1 hq2)
           clear hq1 hq2
           obtain ⟨xk, xe, xl, xf, xt⟩ := q1
           obtain ⟨ys, yd, ye⟩ := q2
           dsimp only [tupC, rsC] at ho4 ⊢
           have HO4 := Lib.hid ho4
           clear ho4
           clear s0 s1 s2 s3 t0 t1 f0 f1 f2 f3 g0 g1
           have s0 : w4.cell? ⟨w.heap.size + 1 + 1, 0, none⟩ = some (.int .i64 0) := HE4.out.b2.cell 0
           have s1 : w4.cell? ⟨w.heap.size + 1 + 1, 1, none⟩ = some (.int .i64 0) := HE4.out.b2.cell 1
           have s2 : w4.cell? ⟨w.heap.size + 1 + 1, 2, none⟩ = some (.string ⟨#[]⟩) := HE4.out.b2.cell 2
           have s3 : w4.cell? ⟨w.heap.size + 1 + 1, 3, none⟩ = some (.slice none 0 0) := HE4.out.b2.cell 3
           have t0 : w4.cell? ⟨w.heap.size + 1 + 1 + 1, 0, none⟩ = some (.int .i64 0) := HE4.out.b3.cell 0
           have t1 : w4.cell? ⟨w.heap.size + 1 + 1 + 1, 1, none⟩ = some (.int .i64 0) := HE4.out.b3.cell 1
           have f0 := HE4.out.b2.frozen 0
           have f1 := HE4.out.b2.frozen 1
           have f2 := HE4.out.b2.frozen 2
           have f3 := HE4.out.b2.frozen 3
           have g0 := HE4.out.b3.frozen 0
           have g1 := HE4.out.b3.frozen 1))
    rename_i hHeld
    clear hHeld k0 k1 k2 a0 a1 e1 hlw2
    go_wp2
    clear s0 s1 s2 s3 t0 t1 f0 f1 f2 f3 g0 g1
    (try simp only [Exit.inBlock, Exit.then])
    show bodyPost _ _ _ _ _ (put42 w4 (w.heap.size + 1 + 1) (.int .i64 xk) (.int .i64 ((xe : Nat) : Int)) (.string xl) (.slice a4 xf.length c4) (.int .i64 ((yd : Nat) : Int)) (.int .i64 ((ys : Nat) : Int)))
    obtain ⟨wz, hwz⟩ : ∃ wz, wz = put42 w4 (w.heap.size + 1 + 1) (.int .i64 xk) (.int .i64 ((xe : Nat) : Int)) (.string xl) (.slice a4 xf.length c4) (.int .i64 ((yd : Nat) : Int)) (.int .i64 ((ys : Nat) : Int)) := ⟨_, rfl⟩
    rw [← hwz]
    obtain ⟨hb, ho, k1, k2⟩ := E4.fin HE4.out HO4.out hwz
    clear hwz
    have r0 : wz.cell? ⟨w.heap.size + 1 + 1, 0, none⟩ = some (.int .i64 xk) := k1.cell 0
    have r1 : wz.cell? ⟨w.heap.size + 1 + 1, 1, none⟩ = some (.int .i64 ((xe : Nat) : Int)) := k1.cell 1
    have r2 : wz.cell? ⟨w.heap.size + 1 + 1, 2, none⟩ = some (.string xl) := k1.cell 2
    have r3 : wz.cell? ⟨w.heap.size + 1 + 1, 3, none⟩ = some (.slice a4 xf.length c4) := k1.cell 3
    have r4 : wz.cell? ⟨w.heap.size + 1 + 1 + 1, 0, none⟩ = some (.int .i64 ((yd : Nat) : Int)) := k2.cell 0
    have r5 : wz.cell? ⟨w.heap.size + 1 + 1 + 1, 1, none⟩ = some (.int .i64 ((ys : Nat) : Int)) := k2.cell 1
    refine bodyPost_ret (v := tupC xk (xe) xl (.slice a4 xf.length c4) (yd) (ys) ye) (by simp [results, tupC, rsC, Try.results9, go_sem, r0, r1, r2, r3, r4, r5]) rfl ?_
    rw [HV.out]
    have := runAns_of (x := x) hb (v := .slice a4 xf.length c4) (by rw [HQ.out.1]; exact ho)
    rw [HQ.out.1, HQ.out.2] at this
    exact this
  · have hk' := nochk hk
    rw [chkI_off hk']
    have HV : Hid (atAns rs start start inp 0 D S = (.zero, ⟨0, 0, 6⟩)) := atAns_shape hk'
    go_wp2
    clear s0 s1 s2 s3 t0 t1 f0 f1 f2 f3 g0 g1
    (try simp only [Exit.inBlock, Exit.then])
    show bodyPost _ _ _ _ _ (put42 w1 (w.heap.size + 1 + 1) (.int .i64 0) (.int .i64 ((0 : Nat) : Int)) (.string ⟨#[]⟩) (.slice none 0 0) (.int .i64 ((0 : Nat) : Int)) (.int .i64 ((0 : Nat) : Int)))
    obtain ⟨wz, hwz⟩ : ∃ wz, wz = put42 w1 (w.heap.size + 1 + 1) (.int .i64 0) (.int .i64 ((0 : Nat) : Int)) (.string ⟨#[]⟩) (.slice none 0 0) (.int .i64 ((0 : Nat) : Int)) (.int .i64 ((0 : Nat) : Int)) := ⟨_, rfl⟩
    rw [← hwz]
    obtain ⟨hb, ho, k1, k2⟩ := E4.fin HB.out (OwnF.nil _ _) hwz
    clear hwz
    have r0 : wz.cell? ⟨w.heap.size + 1 + 1, 0, none⟩ = some (.int .i64 0) := k1.cell 0
    have r1 : wz.cell? ⟨w.heap.size + 1 + 1, 1, none⟩ = some (.int .i64 ((0 : Nat) : Int)) := k1.cell 1
    have r2 : wz.cell? ⟨w.heap.size + 1 + 1, 2, none⟩ = some (.string ⟨#[]⟩) := k1.cell 2
    have r3 : wz.cell? ⟨w.heap.size + 1 + 1, 3, none⟩ = some (.slice none 0 0) := k1.cell 3
    have r4 : wz.cell? ⟨w.heap.size + 1 + 1 + 1, 0, none⟩ = some (.int .i64 ((0 : Nat) : Int)) := k2.cell 0
    have r5 : wz.cell? ⟨w.heap.size + 1 + 1 + 1, 1, none⟩ = some (.int .i64 ((0 : Nat) : Int)) := k2.cell 1
    refine bodyPost_ret (v := tupC 0 (0) ⟨#[]⟩ (.slice none 0 0) (0) (0) 6) (by simp [results, tupC, rsC, Try.results9, go_sem, r0, r1, r2, r3, r4, r5]) rfl ?_
    rw [HV.out]
    exact runAns_zero (by decide) hb
set_option maxRecDepth 100000 in
set_option maxHeartbeats 4000000 in
theorem rat.calls (Ar : Option Addr) (c : Nat) (start rule : Int) (rs : List S45) (inp : ByteArray) (at_ D S : Int) (w : World) (hr : Kd.C k45 w Ar rs.length rs) (hc : rs.length ≤ c) (hb : ∀ x ∈ rs, x.f1.length ≤ 140737488355328 ∧ x.f0.size ≤ 140737488355328) :
    Calls Try.prog 14 #[.agg #[.slice Ar rs.length c, .int .i64 start], .int .i64 rule, .string inp, .int .i64 at_, .agg #[.int .i64 D, .int .i64 S]] w (RunAns w (atAns rs start rule inp at_ D S)) := by
  have HR := Lib.hid hr; clear hr
  have HC := Lib.hid hc; clear hc
  have HBB := Lib.hid hb; clear hb
  have HA := Lib.hid (E4.start w Ar rs.length c start D S)
  go_enter Try.func14, Try.ntmps14
  go_wp2_with (fail)
  have hwa0 : start4 w Ar rs.length c start D S = (((w.alloc (.cells #[.slice Ar rs.length c, .int .i64 start] 24)).alloc (.cells #[.int .i64 D, .int .i64 S] 26)).alloc (.cells #[.int .i64 0, .int .i64 0, .string ⟨#[]⟩, .slice none 0 0] 31)).alloc (.cells #[.int .i64 0, .int .i64 0] 32) := rfl
  rw [hwa0] at HA
  clear hwa0
  generalize (((w.alloc (.cells #[.slice Ar rs.length c, .int .i64 start] 24)).alloc (.cells #[.int .i64 D, .int .i64 S] 26)).alloc (.cells #[.int .i64 0, .int .i64 0, .string ⟨#[]⟩, .slice none 0 0] 31)).alloc (.cells #[.int .i64 0, .int .i64 0] 32) = wa at *
  refine (dowelref09_Check.calls 100001 Ar c rs start (if chk rs start = true then 0 else 6) wa (Kd.C_below HR.out HA.out.bel) HC.out (check_f rs start (fun x hx => (HBB.out x hx).1) _ (by omega))).mono ?_
  rintro e w1 ⟨he, hbw⟩
  have he' : e = .returned (.int .i64 (chkI rs start)) := he
  clear he
  subst he'
  have HB : Hid (E4 w w1 Ar rs.length c start D S) := HA.out.below hbw
  clear hbw HA
  dsimp only
  have s0 : w1.cell? ⟨w.heap.size + 1 + 1, 0, none⟩ = some (.int .i64 0) := HB.out.b2.cell 0
  have s1 : w1.cell? ⟨w.heap.size + 1 + 1, 1, none⟩ = some (.int .i64 0) := HB.out.b2.cell 1
  have s2 : w1.cell? ⟨w.heap.size + 1 + 1, 2, none⟩ = some (.string ⟨#[]⟩) := HB.out.b2.cell 2
  have s3 : w1.cell? ⟨w.heap.size + 1 + 1, 3, none⟩ = some (.slice none 0 0) := HB.out.b2.cell 3
  have t0 : w1.cell? ⟨w.heap.size + 1 + 1 + 1, 0, none⟩ = some (.int .i64 0) := HB.out.b3.cell 0
  have t1 : w1.cell? ⟨w.heap.size + 1 + 1 + 1, 1, none⟩ = some (.int .i64 0) := HB.out.b3.cell 1
  have f0 := HB.out.b2.frozen 0
  have f1 := HB.out.b2.frozen 1
  have f2 := HB.out.b2.frozen 2
  have f3 := HB.out.b2.frozen 3
  have g0 := HB.out.b3.frozen 0
  have g1 := HB.out.b3.frozen 1
  by_cases hk : chk rs start = true
  · rw [chkI_of hk]
    have HCK := Lib.hid hk
    have HS : Hid (0 ≤ start ∧ start < rs.length ∧ rs.length ≤ 256) := by
      have := ((chk_iff rs start).1 hk).1
      exact ⟨this.2.2.1, this.2.2.2.1, this.2.1⟩
    have HG := Lib.hid (good_of hk)
    clear hk
    have a0 : w1.cell? ⟨w.heap.size, 0, none⟩ = some (.slice Ar rs.length c) := HB.out.b0.cell 0
    have a1 : w1.cell? ⟨w.heap.size, 1, none⟩ = some (.int .i64 start) := HB.out.b0.cell 1
    have d0 : w1.cell? ⟨w.heap.size + 1, 0, none⟩ = some (.int .i64 D) := HB.out.b1.cell 0
    have d1 : w1.cell? ⟨w.heap.size + 1, 1, none⟩ = some (.int .i64 S) := HB.out.b1.cell 1
    by_cases hr0 : rule < 0
    · have HV : Hid (atAns rs start rule inp at_ D S = (.zero, ⟨0, 0, 5⟩)) := atAns_rule HCK.out (by omega)
      go_wp2
      clear s0 s1 s2 s3 t0 t1 f0 f1 f2 f3 g0 g1
      (try simp only [Exit.inBlock, Exit.then])
      show bodyPost _ _ _ _ _ (put42 w1 (w.heap.size + 1 + 1) (.int .i64 0) (.int .i64 ((0 : Nat) : Int)) (.string ⟨#[]⟩) (.slice none 0 0) (.int .i64 ((0 : Nat) : Int)) (.int .i64 ((0 : Nat) : Int)))
      obtain ⟨wz, hwz⟩ : ∃ wz, wz = put42 w1 (w.heap.size + 1 + 1) (.int .i64 0) (.int .i64 ((0 : Nat) : Int)) (.string ⟨#[]⟩) (.slice none 0 0) (.int .i64 ((0 : Nat) : Int)) (.int .i64 ((0 : Nat) : Int)) := ⟨_, rfl⟩
      rw [← hwz]
      obtain ⟨hb, ho, k1, k2⟩ := E4.fin HB.out (OwnF.nil _ _) hwz
      clear hwz
      have r0 : wz.cell? ⟨w.heap.size + 1 + 1, 0, none⟩ = some (.int .i64 0) := k1.cell 0
      have r1 : wz.cell? ⟨w.heap.size + 1 + 1, 1, none⟩ = some (.int .i64 ((0 : Nat) : Int)) := k1.cell 1
      have r2 : wz.cell? ⟨w.heap.size + 1 + 1, 2, none⟩ = some (.string ⟨#[]⟩) := k1.cell 2
      have r3 : wz.cell? ⟨w.heap.size + 1 + 1, 3, none⟩ = some (.slice none 0 0) := k1.cell 3
      have r4 : wz.cell? ⟨w.heap.size + 1 + 1 + 1, 0, none⟩ = some (.int .i64 ((0 : Nat) : Int)) := k2.cell 0
      have r5 : wz.cell? ⟨w.heap.size + 1 + 1 + 1, 1, none⟩ = some (.int .i64 ((0 : Nat) : Int)) := k2.cell 1
      refine bodyPost_ret (v := tupC 0 (0) ⟨#[]⟩ (.slice none 0 0) (0) (0) 5) (by simp [results, tupC, rsC, Try.results14, go_sem, r0, r1, r2, r3, r4, r5]) rfl ?_
      rw [HV.out]
      exact runAns_zero (by decide) hb
    by_cases hr1 : (rs.length : Int) ≤ rule
    · have HV : Hid (atAns rs start rule inp at_ D S = (.zero, ⟨0, 0, 5⟩)) := atAns_rule HCK.out (by omega)
      go_wp2
      clear s0 s1 s2 s3 t0 t1 f0 f1 f2 f3 g0 g1
      (try simp only [Exit.inBlock, Exit.then])
      show bodyPost _ _ _ _ _ (put42 w1 (w.heap.size + 1 + 1) (.int .i64 0) (.int .i64 ((0 : Nat) : Int)) (.string ⟨#[]⟩) (.slice none 0 0) (.int .i64 ((0 : Nat) : Int)) (.int .i64 ((0 : Nat) : Int)))
      obtain ⟨wz, hwz⟩ : ∃ wz, wz = put42 w1 (w.heap.size + 1 + 1) (.int .i64 0) (.int .i64 ((0 : Nat) : Int)) (.string ⟨#[]⟩) (.slice none 0 0) (.int .i64 ((0 : Nat) : Int)) (.int .i64 ((0 : Nat) : Int)) := ⟨_, rfl⟩
      rw [← hwz]
      obtain ⟨hb, ho, k1, k2⟩ := E4.fin HB.out (OwnF.nil _ _) hwz
      clear hwz
      have r0 : wz.cell? ⟨w.heap.size + 1 + 1, 0, none⟩ = some (.int .i64 0) := k1.cell 0
      have r1 : wz.cell? ⟨w.heap.size + 1 + 1, 1, none⟩ = some (.int .i64 ((0 : Nat) : Int)) := k1.cell 1
      have r2 : wz.cell? ⟨w.heap.size + 1 + 1, 2, none⟩ = some (.string ⟨#[]⟩) := k1.cell 2
      have r3 : wz.cell? ⟨w.heap.size + 1 + 1, 3, none⟩ = some (.slice none 0 0) := k1.cell 3
      have r4 : wz.cell? ⟨w.heap.size + 1 + 1 + 1, 0, none⟩ = some (.int .i64 ((0 : Nat) : Int)) := k2.cell 0
      have r5 : wz.cell? ⟨w.heap.size + 1 + 1 + 1, 1, none⟩ = some (.int .i64 ((0 : Nat) : Int)) := k2.cell 1
      refine bodyPost_ret (v := tupC 0 (0) ⟨#[]⟩ (.slice none 0 0) (0) (0) 5) (by simp [results, tupC, rsC, Try.results14, go_sem, r0, r1, r2, r3, r4, r5]) rfl ?_
      rw [HV.out]
      exact runAns_zero (by decide) hb
    have HRU : Hid (0 ≤ rule ∧ rule < rs.length) := ⟨by omega, by omega⟩
    by_cases hl : (65536 : Int) < (inp.size : Int)
    · have HV : Hid (atAns rs start rule inp at_ D S = (.zero, ⟨0, 0, 1⟩)) := atAns_long HCK.out HRU.out (by omega)
      go_wp2
      clear s0 s1 s2 s3 t0 t1 f0 f1 f2 f3 g0 g1
      (try simp only [Exit.inBlock, Exit.then])
      show bodyPost _ _ _ _ _ (put42 w1 (w.heap.size + 1 + 1) (.int .i64 0) (.int .i64 ((0 : Nat) : Int)) (.string ⟨#[]⟩) (.slice none 0 0) (.int .i64 ((0 : Nat) : Int)) (.int .i64 ((0 : Nat) : Int)))
      obtain ⟨wz, hwz⟩ : ∃ wz, wz = put42 w1 (w.heap.size + 1 + 1) (.int .i64 0) (.int .i64 ((0 : Nat) : Int)) (.string ⟨#[]⟩) (.slice none 0 0) (.int .i64 ((0 : Nat) : Int)) (.int .i64 ((0 : Nat) : Int)) := ⟨_, rfl⟩
      rw [← hwz]
      obtain ⟨hb, ho, k1, k2⟩ := E4.fin HB.out (OwnF.nil _ _) hwz
      clear hwz
      have r0 : wz.cell? ⟨w.heap.size + 1 + 1, 0, none⟩ = some (.int .i64 0) := k1.cell 0
      have r1 : wz.cell? ⟨w.heap.size + 1 + 1, 1, none⟩ = some (.int .i64 ((0 : Nat) : Int)) := k1.cell 1
      have r2 : wz.cell? ⟨w.heap.size + 1 + 1, 2, none⟩ = some (.string ⟨#[]⟩) := k1.cell 2
      have r3 : wz.cell? ⟨w.heap.size + 1 + 1, 3, none⟩ = some (.slice none 0 0) := k1.cell 3
      have r4 : wz.cell? ⟨w.heap.size + 1 + 1 + 1, 0, none⟩ = some (.int .i64 ((0 : Nat) : Int)) := k2.cell 0
      have r5 : wz.cell? ⟨w.heap.size + 1 + 1 + 1, 1, none⟩ = some (.int .i64 ((0 : Nat) : Int)) := k2.cell 1
      refine bodyPost_ret (v := tupC 0 (0) ⟨#[]⟩ (.slice none 0 0) (0) (0) 1) (by simp [results, tupC, rsC, Try.results14, go_sem, r0, r1, r2, r3, r4, r5]) rfl ?_
      rw [HV.out]
      exact runAns_zero (by decide) hb
    have HLN : Hid (inp.size ≤ 65536) := by show _ ≤ _; omega
    by_cases hp0 : at_ < 0
    · have HV : Hid (atAns rs start rule inp at_ D S = (.zero, ⟨0, 0, 5⟩)) := atAns_at HCK.out HRU.out HLN.out (by omega)
      go_wp2
      clear s0 s1 s2 s3 t0 t1 f0 f1 f2 f3 g0 g1
      (try simp only [Exit.inBlock, Exit.then])
      show bodyPost _ _ _ _ _ (put42 w1 (w.heap.size + 1 + 1) (.int .i64 0) (.int .i64 ((0 : Nat) : Int)) (.string ⟨#[]⟩) (.slice none 0 0) (.int .i64 ((0 : Nat) : Int)) (.int .i64 ((0 : Nat) : Int)))
      obtain ⟨wz, hwz⟩ : ∃ wz, wz = put42 w1 (w.heap.size + 1 + 1) (.int .i64 0) (.int .i64 ((0 : Nat) : Int)) (.string ⟨#[]⟩) (.slice none 0 0) (.int .i64 ((0 : Nat) : Int)) (.int .i64 ((0 : Nat) : Int)) := ⟨_, rfl⟩
      rw [← hwz]
      obtain ⟨hb, ho, k1, k2⟩ := E4.fin HB.out (OwnF.nil _ _) hwz
      clear hwz
      have r0 : wz.cell? ⟨w.heap.size + 1 + 1, 0, none⟩ = some (.int .i64 0) := k1.cell 0
      have r1 : wz.cell? ⟨w.heap.size + 1 + 1, 1, none⟩ = some (.int .i64 ((0 : Nat) : Int)) := k1.cell 1
      have r2 : wz.cell? ⟨w.heap.size + 1 + 1, 2, none⟩ = some (.string ⟨#[]⟩) := k1.cell 2
      have r3 : wz.cell? ⟨w.heap.size + 1 + 1, 3, none⟩ = some (.slice none 0 0) := k1.cell 3
      have r4 : wz.cell? ⟨w.heap.size + 1 + 1 + 1, 0, none⟩ = some (.int .i64 ((0 : Nat) : Int)) := k2.cell 0
      have r5 : wz.cell? ⟨w.heap.size + 1 + 1 + 1, 1, none⟩ = some (.int .i64 ((0 : Nat) : Int)) := k2.cell 1
      refine bodyPost_ret (v := tupC 0 (0) ⟨#[]⟩ (.slice none 0 0) (0) (0) 5) (by simp [results, tupC, rsC, Try.results14, go_sem, r0, r1, r2, r3, r4, r5]) rfl ?_
      rw [HV.out]
      exact runAns_zero (by decide) hb
    by_cases hp1 : (inp.size : Int) < at_
    · have HV : Hid (atAns rs start rule inp at_ D S = (.zero, ⟨0, 0, 5⟩)) := atAns_at HCK.out HRU.out HLN.out (by omega)
      go_wp2
      clear s0 s1 s2 s3 t0 t1 f0 f1 f2 f3 g0 g1
      (try simp only [Exit.inBlock, Exit.then])
      show bodyPost _ _ _ _ _ (put42 w1 (w.heap.size + 1 + 1) (.int .i64 0) (.int .i64 ((0 : Nat) : Int)) (.string ⟨#[]⟩) (.slice none 0 0) (.int .i64 ((0 : Nat) : Int)) (.int .i64 ((0 : Nat) : Int)))
      obtain ⟨wz, hwz⟩ : ∃ wz, wz = put42 w1 (w.heap.size + 1 + 1) (.int .i64 0) (.int .i64 ((0 : Nat) : Int)) (.string ⟨#[]⟩) (.slice none 0 0) (.int .i64 ((0 : Nat) : Int)) (.int .i64 ((0 : Nat) : Int)) := ⟨_, rfl⟩
      rw [← hwz]
      obtain ⟨hb, ho, k1, k2⟩ := E4.fin HB.out (OwnF.nil _ _) hwz
      clear hwz
      have r0 : wz.cell? ⟨w.heap.size + 1 + 1, 0, none⟩ = some (.int .i64 0) := k1.cell 0
      have r1 : wz.cell? ⟨w.heap.size + 1 + 1, 1, none⟩ = some (.int .i64 ((0 : Nat) : Int)) := k1.cell 1
      have r2 : wz.cell? ⟨w.heap.size + 1 + 1, 2, none⟩ = some (.string ⟨#[]⟩) := k1.cell 2
      have r3 : wz.cell? ⟨w.heap.size + 1 + 1, 3, none⟩ = some (.slice none 0 0) := k1.cell 3
      have r4 : wz.cell? ⟨w.heap.size + 1 + 1 + 1, 0, none⟩ = some (.int .i64 ((0 : Nat) : Int)) := k2.cell 0
      have r5 : wz.cell? ⟨w.heap.size + 1 + 1 + 1, 1, none⟩ = some (.int .i64 ((0 : Nat) : Int)) := k2.cell 1
      refine bodyPost_ret (v := tupC 0 (0) ⟨#[]⟩ (.slice none 0 0) (0) (0) 5) (by simp [results, tupC, rsC, Try.results14, go_sem, r0, r1, r2, r3, r4, r5]) rfl ?_
      rw [HV.out]
      exact runAns_zero (by decide) hb
    obtain ⟨r, hrr⟩ : ∃ r : Nat, rule = (r : Int) := ⟨rule.toNat, by omega⟩
    obtain ⟨p, hpp⟩ : ∃ p : Nat, at_ = (p : Int) := ⟨at_.toNat, by omega⟩
    subst hrr
    subst hpp
    have HRP : Hid (r < rs.length ∧ p ≤ inp.size) := ⟨by omega, by omega⟩
    have HV : Hid (atAns rs start (r : Nat) inp (p : Nat) D S = runOf rs inp r p D S) := atAns_run HCK.out HRP.out.1 HLN.out HRP.out.2
    have HFY' : ∀ (g cP rb : Nat), Hid (Fy ⟨inp, Ar, c, start, ⟨g, 0, none⟩, cP, rb, clamp D S, rs, w1⟩) := fun g cP rb =>
      ⟨Kd.C_below HR.out HB.out.bel, HG.out, (clamp_le D S).2, Nat.le_trans (clamp_le D S).1 (by decide), Nat.le_trans HLN.out (by decide)⟩
    have HLT : Hid (w.heap.size + 1 + 1 + 1 < w1.heap.size) := HB.out.b3.lt
    go_wp2_with (fail)
    clear a0 a1 d0 d1
    refine (begin14.calls Ar c start rs inp D S w1 (Kd.C_below HR.out HB.out.bel) HG.out).mono ?_
    rintro e w2 ⟨rb, g, cP, rfl, hrm⟩
    have HFY := HFY' g cP rb
    clear HFY'
    have HRM := Lib.hid hrm
    have HE : Hid (E4 w w2 Ar rs.length c start D S) := HB.out.below hrm.bel
    have HLO : Hid (w.heap.size + 1 + 1 + 1 < rb) := Nat.lt_of_lt_of_le HLT.out hrm.lo
    clear hrm HB s0 s1 s2 s3 t0 t1 f0 f1 f2 f3 g0 g1 HLT
    obtain ⟨ad, A1, c1, eA, _, e1, _, _⟩ := cr_at HR.out r HRP.out.1
    subst eA
    have HCELL : Hid (∀ w' : World, Below w.heap.size w w' → w'.cell? ⟨(ad.add (r * 2)).block, (ad.add (r * 2)).off + 1, none⟩ = some (.slice A1 (cr rs r).f1.length c1)) := fun w' hb => Below.cell_some' hb e1
    have HBLK : Hid ((ad.add (r * 2)).block < w.heap.size) := by have := World.block_lt_of_cell? w _ e1; exact this
    clear e1
    obtain ⟨l', hl'⟩ : ∃ l', (cr rs r).f1.length = l' + 1 := by
      have h1 := HG.out.one r HRP.out.1
      refine ⟨(cr rs r).f1.length - 1, ?_⟩
      rcases Nat.eq_zero_or_pos (cr rs r).f1.length with h0 | h0
      · rw [h0] at h1; simp [istk] at h1
      · omega
    have HLB : Hid ((cr rs r).f1.length = l' + 1 ∧ (cr rs r).f1.length ≤ 1048576) := ⟨hl', HG.out.len r HRP.out.1⟩
    clear hl'
    have HTRE : Hid (tr (bod rs r) l' = tre rs r) := by
      show _ = _
      rw [tre, HLB.out.1]
      rfl
    generalize hY : (⟨inp, some ad, c, start, ⟨g, 0, none⟩, cP, rb, clamp D S, rs, w1⟩ : Cy) = Y at *
    have HY := Lib.hid hY
    have hYrb : Y.rb = rb := by rw [← hY]
    have HYE : Hid (Y.rs = rs ∧ Y.l = clamp D S ∧ Y.inp = inp ∧ Y.e = envOf rs inp ∧ Y.b = bod rs ∧ Y.n r = (cr rs r).f1.length) := by rw [← hY]; exact ⟨rfl, rfl, rfl, rfl, rfl, rfl⟩
    have HND : Hid (∀ w', Rm Y st0 w' → Calls Try.prog 21 #[.pointer (some ⟨rb, 0, none⟩), .int .i64 (r : Nat), .int .i64 (l' : Nat), .int .i64 (p : Nat), .int .i64 (1 : Nat)] w' (ToldM Y w' (runOf rs inp r p D S))) := by
      intro w' hw'
      have h := node.calls Y HFY.out (2 * (clamp D S).steps + 1) _ (Nat.le_refl _) r l' p 1 st0 w' (by rw [HYE.out.1]; exact HRP.out.1) (by rw [HYE.out.2.2.2.2.2]; have := HLB.out; omega) (by rw [HYE.out.1, HYE.out.2.2.2.2.1, HTRE.out]; exact HG.out.low r HRP.out.1) (by rw [HYE.out.2.1]; simp only [st0]; omega) (by rw [HYE.out.2.2.1]; exact HRP.out.2) (by omega) (Nat.zero_le _) (Nat.zero_le _) hw'
      rw [HYE.out.2.1, HYE.out.2.2.2.1, HYE.out.2.2.2.2.1, HTRE.out, hYrb] at h
      exact h
    clear hY
    have HRMD : Hid (Rm Y st0 w2.drew) := HRM.out.grown (Go.X.grown_of_below (Below.drewQ ⟨1, rfl⟩) none)
    have HED : Hid (E4 w w2.drew (some ad) rs.length c start D S) := HE.out.below (Below.drewQ ⟨1, rfl⟩)
    have s0 : w2.cell? ⟨w.heap.size + 1 + 1, 0, none⟩ = some (.int .i64 0) := HE.out.b2.cell 0
    have s1 : w2.cell? ⟨w.heap.size + 1 + 1, 1, none⟩ = some (.int .i64 0) := HE.out.b2.cell 1
    have s2 : w2.cell? ⟨w.heap.size + 1 + 1, 2, none⟩ = some (.string ⟨#[]⟩) := HE.out.b2.cell 2
    have s3 : w2.cell? ⟨w.heap.size + 1 + 1, 3, none⟩ = some (.slice none 0 0) := HE.out.b2.cell 3
    have t0 : w2.cell? ⟨w.heap.size + 1 + 1 + 1, 0, none⟩ = some (.int .i64 0) := HE.out.b3.cell 0
    have t1 : w2.cell? ⟨w.heap.size + 1 + 1 + 1, 1, none⟩ = some (.int .i64 0) := HE.out.b3.cell 1
    have f0 := HE.out.b2.frozen 0
    have f1 := HE.out.b2.frozen 1
    have f2 := HE.out.b2.frozen 2
    have f3 := HE.out.b2.frozen 3
    have g0 := HE.out.b3.frozen 0
    have g1 := HE.out.b3.frozen 1
    have a0 : w2.cell? ⟨w.heap.size, 0, none⟩ = some (.slice (some ad) rs.length c) := HE.out.b0.cell 0
    have a1 : w2.cell? ⟨w.heap.size, 1, none⟩ = some (.int .i64 start) := HE.out.b0.cell 1
    have e1 := HCELL.out w2 HE.out.bel
    have hr0 : (0 : Int) ≤ (r : Int) := Int.natCast_nonneg _
    have hr1 : (r : Int) < (rs.length : Int) := Int.ofNat_lt.2 HRP.out.1
    have hlw2 : IntKind.i64.wrap (((cr rs r).f1.length : Int) - 1) = ((l' : Nat) : Int) := by have := HLB.out; rw [IntWalk.i64_in _ (by omega)]; omega
    have HNE : Hid (w.heap.size + 1 + 1 ≠ w.heap.size ∧ w.heap.size + 1 + 1 + 1 ≠ w.heap.size ∧ w.heap.size + 1 + 1 ≠ (ad.add (r * 2)).block ∧ w.heap.size + 1 + 1 + 1 ≠ (ad.add (r * 2)).block) := by have := HBLK.out; exact ⟨by omega, by omega, by omega, by omega⟩
    go_wp2_with (fail)
    clear a0 a1 e1 hlw2
    refine (HND.out _ HRM.out).mono ?_
    rintro e w3 ⟨v3, rfl, hg, hr, ho⟩
    obtain ⟨ax, cx, hv⟩ := Go.X.own_slice ho
    subst hv
    rw [hYrb] at hg
    have HE3 : Hid (E4 w w3 (some ad) rs.length c start D S) := HE.out.own hg HLO.out
    have HO3 : Hid (OwnF w3 w.heap.size (.slice ax (runOf rs inp r p D S).1.forest.length cx) (runOf rs inp r p D S).1.forest) := ho.low HE.out.bel.size
    have HR3 := Lib.hid hr
    clear hg hr ho
    generalize runOf rs inp r p D S = x at *
    dsimp only [rsC]
    go_wp2_with (fail)
    refine (told_at hYrb x.2 x.1.kind x.1.en x.1.label ax x.1.forest.length cx _ HR3.out).mono ?_
    rintro e w4 htp
    obtain ⟨v4, he4, ho4⟩ := told_ans htp HO3.out
    subst he4
    have HE4 : Hid (E4 w w4 (some ad) rs.length c start D S) := HE3.out.below htp.2
    clear htp
    obtain ⟨a4, c4, hv4⟩ := Go.X.own_slice ho4
    subst hv4
    generalize hq1 : ansRes x = q1 at ho4 ⊢
    generalize hq2 : ansSt x = q2 at *
    have HQ := Lib.hid (And.intro hq1 hq2)
    clear hq1 hq2
    obtain ⟨xk, xe, xl, xf, xt⟩ := q1
    obtain ⟨ys, yd, ye⟩ := q2
    dsimp only [tupC, rsC] at ho4 ⊢
    have HO4 := Lib.hid ho4
    clear ho4
    generalize hfl : xf.length = fl at *
    have HFL := Lib.hid hfl
    clear hfl
    clear s0 s1 s2 s3 t0 t1 f0 f1 f2 f3 g0 g1
    have s0 : w4.cell? ⟨w.heap.size + 1 + 1, 0, none⟩ = some (.int .i64 0) := HE4.out.b2.cell 0
    have s1 : w4.cell? ⟨w.heap.size + 1 + 1, 1, none⟩ = some (.int .i64 0) := HE4.out.b2.cell 1
    have s2 : w4.cell? ⟨w.heap.size + 1 + 1, 2, none⟩ = some (.string ⟨#[]⟩) := HE4.out.b2.cell 2
    have s3 : w4.cell? ⟨w.heap.size + 1 + 1, 3, none⟩ = some (.slice none 0 0) := HE4.out.b2.cell 3
    have t0 : w4.cell? ⟨w.heap.size + 1 + 1 + 1, 0, none⟩ = some (.int .i64 0) := HE4.out.b3.cell 0
    have t1 : w4.cell? ⟨w.heap.size + 1 + 1 + 1, 1, none⟩ = some (.int .i64 0) := HE4.out.b3.cell 1
    have f0 := HE4.out.b2.frozen 0
    have f1 := HE4.out.b2.frozen 1
    have f2 := HE4.out.b2.frozen 2
    have f3 := HE4.out.b2.frozen 3
    have g0 := HE4.out.b3.frozen 0
    have g1 := HE4.out.b3.frozen 1
    go_wp2
    clear s0 s1 s2 s3 t0 t1 f0 f1 f2 f3 g0 g1
    (try simp only [Exit.inBlock, Exit.then])
    show bodyPost _ _ _ _ _ (put42 w4 (w.heap.size + 1 + 1) (.int .i64 xk) (.int .i64 ((xe : Nat) : Int)) (.string xl) (.slice a4 fl c4) (.int .i64 ((yd : Nat) : Int)) (.int .i64 ((ys : Nat) : Int)))
    obtain ⟨wz, hwz⟩ : ∃ wz, wz = put42 w4 (w.heap.size + 1 + 1) (.int .i64 xk) (.int .i64 ((xe : Nat) : Int)) (.string xl) (.slice a4 fl c4) (.int .i64 ((yd : Nat) : Int)) (.int .i64 ((ys : Nat) : Int)) := ⟨_, rfl⟩
    rw [← hwz]
    obtain ⟨hb, ho, k1, k2⟩ := E4.fin HE4.out HO4.out hwz
    clear hwz
    have r0 : wz.cell? ⟨w.heap.size + 1 + 1, 0, none⟩ = some (.int .i64 xk) := k1.cell 0
    have r1 : wz.cell? ⟨w.heap.size + 1 + 1, 1, none⟩ = some (.int .i64 ((xe : Nat) : Int)) := k1.cell 1
    have r2 : wz.cell? ⟨w.heap.size + 1 + 1, 2, none⟩ = some (.string xl) := k1.cell 2
    have r3 : wz.cell? ⟨w.heap.size + 1 + 1, 3, none⟩ = some (.slice a4 fl c4) := k1.cell 3
    have r4 : wz.cell? ⟨w.heap.size + 1 + 1 + 1, 0, none⟩ = some (.int .i64 ((yd : Nat) : Int)) := k2.cell 0
    have r5 : wz.cell? ⟨w.heap.size + 1 + 1 + 1, 1, none⟩ = some (.int .i64 ((ys : Nat) : Int)) := k2.cell 1
    refine bodyPost_ret (v := tupC xk (xe) xl (.slice a4 fl c4) (yd) (ys) ye) (by simp [results, tupC, rsC, Try.results14, go_sem, r0, r1, r2, r3, r4, r5]) rfl ?_
    rw [HV.out]
    have := runAns_of (x := x) hb (v := .slice a4 fl c4) (by rw [HQ.out.1]; exact ho)
    rw [HQ.out.1, HQ.out.2] at this
    exact this
  · have hk' := nochk hk
    rw [chkI_off hk']
    have HV : Hid (atAns rs start rule inp at_ D S = (.zero, ⟨0, 0, 6⟩)) := atAns_shape hk'
    go_wp2
    clear s0 s1 s2 s3 t0 t1 f0 f1 f2 f3 g0 g1
    (try simp only [Exit.inBlock, Exit.then])
    show bodyPost _ _ _ _ _ (put42 w1 (w.heap.size + 1 + 1) (.int .i64 0) (.int .i64 ((0 : Nat) : Int)) (.string ⟨#[]⟩) (.slice none 0 0) (.int .i64 ((0 : Nat) : Int)) (.int .i64 ((0 : Nat) : Int)))
    obtain ⟨wz, hwz⟩ : ∃ wz, wz = put42 w1 (w.heap.size + 1 + 1) (.int .i64 0) (.int .i64 ((0 : Nat) : Int)) (.string ⟨#[]⟩) (.slice none 0 0) (.int .i64 ((0 : Nat) : Int)) (.int .i64 ((0 : Nat) : Int)) := ⟨_, rfl⟩
    rw [← hwz]
    obtain ⟨hb, ho, k1, k2⟩ := E4.fin HB.out (OwnF.nil _ _) hwz
    clear hwz
    have r0 : wz.cell? ⟨w.heap.size + 1 + 1, 0, none⟩ = some (.int .i64 0) := k1.cell 0
    have r1 : wz.cell? ⟨w.heap.size + 1 + 1, 1, none⟩ = some (.int .i64 ((0 : Nat) : Int)) := k1.cell 1
    have r2 : wz.cell? ⟨w.heap.size + 1 + 1, 2, none⟩ = some (.string ⟨#[]⟩) := k1.cell 2
    have r3 : wz.cell? ⟨w.heap.size + 1 + 1, 3, none⟩ = some (.slice none 0 0) := k1.cell 3
    have r4 : wz.cell? ⟨w.heap.size + 1 + 1 + 1, 0, none⟩ = some (.int .i64 ((0 : Nat) : Int)) := k2.cell 0
    have r5 : wz.cell? ⟨w.heap.size + 1 + 1 + 1, 1, none⟩ = some (.int .i64 ((0 : Nat) : Int)) := k2.cell 1
    refine bodyPost_ret (v := tupC 0 (0) ⟨#[]⟩ (.slice none 0 0) (0) (0) 6) (by simp [results, tupC, rsC, Try.results14, go_sem, r0, r1, r2, r3, r4, r5]) rfl ?_
    rw [HV.out]
    exact runAns_zero (by decide) hb
end Go.Proofs.Ytmpkkphohilkoaa.B
/- dowelbook.LendCore: a copy of a core grammar, all through, in new memory, its holder's behind each end. -/
namespace Go.Proofs.Ytmpkkphohilkoaa.B
open Go Go.RowKit Go.X Go.Ma Go.Proofs.YtmpkkphohilkoaaW.PrintWords Go.Proofs.Ytmpkkphohilkoaa.F

def holder : ByteArray := ⟨#[45, 104, 111, 108, 100, 101, 114, 45]⟩
def holdC : List Value := [.int .i64 (-77), .int .u64 0, .int .u64 0, .int .u64 0, .int .u64 0, .int .i64 0, .string ⟨#[]⟩]
def holdR : List Value := [.string holder, .slice none 0 0]
/-- A lent rule's cells: its body's block. -/
def ruleAt (x : S45) (p : Nat) : List Value := [.string x.f0, .slice (some ⟨p, 0, none⟩) x.f1.length (x.f1.length + 1)]
def rowsTo (rs : List S45) (P : Nat → Nat) : Nat → List Value
  | 0 => []
  | i + 1 => rowsTo rs P i ++ ruleAt (cr rs i) (P i)
/-- The bodies of the first n rules lie lent, in blocks from base on, each in its own. -/
def RulesIn (w : World) (base : Nat) (rs : List S45) (P : Nat → Nat) (n : Nat) : Prop := ∀ i, i < n → base ≤ P i ∧ Lent k55 55 w (P i) (cr rs i).f1 holdC ∧ ∀ j, j < i → P j < P i
/-- A lent core grammar. -/
structure CoreAt (w : World) (base br : Nat) (rs : List S45) (P : Nat → Nat) : Prop where
  rows : Blk w br 45 (rowsTo rs P rs.length ++ holdR)
  rules : RulesIn w base rs P rs.length
def LentCore (w : World) (start : Int) (rs : List S45) (e : Ending) (w' : World) : Prop :=
  ∃ br P, e = .returned (.agg #[.slice (some ⟨br, 0, none⟩) rs.length (rs.length + 1), .int .i64 start]) ∧ CoreAt w' w.heap.size br rs P ∧ w.heap.size ≤ br ∧ Below w.heap.size w w'
theorem Below.cell_some {w w' : World} (h : Below w.heap.size w w') {p : Addr} {v : Value} (hp : w.cell? p = some v) : w'.cell? p = some v := (h.cell (World.block_lt_of_cell? w _ hp)).trans hp
theorem rowsTo_length (rs : List S45) (P : Nat → Nat) (i : Nat) : (rowsTo rs P i).length = i * 2 := by
  induction i with
  | zero => rfl
  | succ i ih => rw [rowsTo, List.length_append, ih, Nat.succ_mul]; rfl
theorem rowsTo_congr (rs : List S45) {P P' : Nat → Nat} (i : Nat) (h : ∀ j, j < i → P j = P' j) : rowsTo rs P i = rowsTo rs P' i := by
  induction i with
  | zero => rfl
  | succ i ih => rw [rowsTo, rowsTo, ih (fun j hj => h j (by omega)), h i (by omega)]
theorem info45 : (Try.prog.info? 45).map (fun i => (i.zero, i.size, i.bytes)) = some (some (.agg #[.string ⟨#[]⟩, .slice none 0 0]), 2, 40) := by kernel_rfl
theorem info55 : (Try.prog.info? 55).map (fun i => (i.zero, i.size, i.bytes)) = some (some (.agg #[.int .i64 0, .int .u64 0, .int .u64 0, .int .u64 0, .int .u64 0, .int .i64 0, .string ⟨#[]⟩]), 7, 64) := by kernel_rfl
theorem sz45 : (Try.prog.info? 45).map (·.size) = some 2 := by kernel_rfl
theorem sz55 : (Try.prog.info? 55).map (·.size) = some 7 := by kernel_rfl
theorem Lent.flat {α : Type} {d : Kd α} (hd : ∀ (w w' : World) (x : α) (cs : List Value), d.K w x cs → d.K w' x cs) {e : TypeId} {w w' : World} {b : Nat} {xs : List α} {hold : List Value} (h : Lent d e w b xs hold) (hb : w'.heap[b]? = w.heap[b]?) : Lent d e w' b xs hold := by
  obtain ⟨cs, hr, hk⟩ := h.out
  exact ⟨cs, hr.imp_ (fun _ _ hk => hd _ _ _ _ hk), hb.trans hk⟩
theorem Lent.ne {α : Type} {d : Kd α} {e e' : TypeId} {w : World} {b b' : Nat} {xs : List α} {hold cs : List Value} (h : Lent d e w b xs hold) (h' : Blk w b' e' cs) (hne : e ≠ e') : b ≠ b' := by
  obtain ⟨_, _, hk⟩ := h.out
  exact hk.ne h' hne
theorem flat55 (w w' : World) (x : S55) (cs : List Value) (h : k55.K w x cs) : k55.K w' x cs := h
theorem set2c {α : Type} (l rest : List α) (r0 r1 a b : α) (n : Nat) (hn : n = l.length) : ((l ++ r0 :: r1 :: rest).set n a).set (n + 1) b = l ++ a :: b :: rest := by
  subst hn
  simp
def upd (P : Nat → Nat) (i b : Nat) : Nat → Nat := fun j => if j = i then b else P j
theorem upd_self (P : Nat → Nat) (i b : Nat) : upd P i b i = b := by simp [upd]
theorem upd_lt (P : Nat → Nat) {i b j : Nat} (h : j < i) : upd P i b j = P j := by simp [upd]; omega
theorem CoreAt.below {w w' : World} {base br : Nat} {rs : List S45} {P : Nat → Nat} (h : CoreAt w base br rs P) (hb : Below w.heap.size w w') : CoreAt w' base br rs P :=
  ⟨h.rows.below hb h.rows.lt, fun i hi => by
    obtain ⟨a1, a2, a3⟩ := h.rules i hi
    exact ⟨a1, Lent.below a2 hb, a3⟩⟩
theorem far2h {w : World} {br i j : Nat} {x y : Value} {p : Nat} (hp : p ≠ br) : ((w.setCell ⟨br, i, none⟩ x).setCell ⟨br, j, none⟩ y).heap[p]? = w.heap[p]? := by
  rw [Below.heap_setCell _ _ _ _ hp, Below.heap_setCell _ _ _ _ hp]
/-- What holds at the head of each round. -/
structure CoreHead (w wr : World) (br : Nat) (Ar : Option Addr) (c : Nat) (start : Int) (rs : List S45) (P : Nat → Nat) (i : Nat) : Prop where
  bel : Below w.heap.size w wr
  box : Blk wr w.heap.size 24 [.slice Ar rs.length c, .int .i64 start]
  res : ∃ z, z.length = 2 ∧ Blk wr (w.heap.size + 1) 24 z
  rows : ∃ rest, Blk wr br 45 (rowsTo rs P i ++ rest) ∧ rest.length = (rs.length + 1 - i) * 2
  rules : RulesIn wr w.heap.size rs P i
  lt : w.heap.size + 1 < br
theorem CoreHead.next {w wr w3 w7 : World} {br : Nat} {Ar : Option Addr} {c : Nat} {start : Int} {rs : List S45} {P : Nat → Nat} {i b : Nat} (h : CoreHead w wr br Ar c start rs P i) (hi : i < rs.length)
    (h3 : Below wr.heap.size wr w3) (hb : wr.heap.size ≤ b) (hl : Lent k55 55 w3 b (cr rs i).f1 holdC)
    (e : w7 = ((w3.setCell ⟨br, i * 2, none⟩ (.string (cr rs i).f0)).setCell ⟨br, i * 2 + 1, none⟩ (.slice (some ⟨b, 0, none⟩) (cr rs i).f1.length ((cr rs i).f1.length + 1))).drew) :
    CoreHead w w7 br Ar c start rs (upd P i b) (i + 1) := by
  subst e
  obtain ⟨k1, k2, ⟨z, hz, k3⟩, ⟨rest, k5, hrl⟩, k6, k7⟩ := h
  have B3 : Blk w3 br 45 (rowsTo rs P i ++ rest) := k5.below h3 k5.lt
  have h13 : Below w.heap.size w w3 := k1.trans (h3.mono k1.size)
  have hd : ∀ {p : Nat}, ((w3.setCell ⟨br, i * 2, none⟩ (.string (cr rs i).f0)).setCell ⟨br, i * 2 + 1, none⟩ (.slice (some ⟨b, 0, none⟩) (cr rs i).f1.length ((cr rs i).f1.length + 1))).drew.heap[p]? = ((w3.setCell ⟨br, i * 2, none⟩ (.string (cr rs i).f0)).setCell ⟨br, i * 2 + 1, none⟩ (.slice (some ⟨b, 0, none⟩) (cr rs i).f1.length ((cr rs i).f1.length + 1))).heap[p]? := rfl
  refine ⟨((h13.setCell (by show w.heap.size ≤ br; omega) _).setCell (by show w.heap.size ≤ br; omega) _).drew, ?_, ⟨z, hz, ?_⟩, ?_, ?_, k7⟩
  · exact (hd.trans (far2h (by omega))).trans (k2.below h3 k2.lt)
  · exact (hd.trans (far2h (by omega))).trans (k3.below h3 k3.lt)
  · obtain ⟨r0, r1, rest, rfl⟩ : ∃ r0 r1 r, rest = r0 :: r1 :: r := by
      match rest, hrl with
      | r0 :: r1 :: r, _ => exact ⟨r0, r1, r, rfl⟩
      | [], hl => simp at hl; omega
      | [_], hl => simp at hl; omega
    refine ⟨rest, ?_, ?_⟩
    · have := (B3.setCell (i * 2) (.string (cr rs i).f0)).setCell (i * 2 + 1) (.slice (some ⟨b, 0, none⟩) (cr rs i).f1.length ((cr rs i).f1.length + 1))
      rw [set2c _ _ _ _ _ _ _ (rowsTo_length rs P i).symm] at this
      rw [rowsTo, upd_self, rowsTo_congr rs (P' := P) i (fun j hj => upd_lt P hj), List.append_assoc]
      exact this
    · simp at hrl; omega
  · intro j hj
    rcases Nat.lt_or_ge j i with hji | hji
    · obtain ⟨a1, a2, a3⟩ := k6 j hji
      rw [upd_lt P hji]
      exact ⟨a1, Lent.flat flat55 (Lent.below a2 h3) (hd.trans (far2h (Lent.ne a2 k5 (by decide)))), fun j' hj' => by rw [upd_lt P (by omega)]; exact a3 j' hj'⟩
    · obtain rfl : j = i := by omega
      rw [upd_self]
      refine ⟨Nat.le_trans k1.size hb, Lent.flat flat55 hl (hd.trans (far2h (Lent.ne hl B3 (by decide)))), fun j' hj' => ?_⟩
      rw [upd_lt P hj']
      have := Lent.lt (k6 j' hj').2.1
      omega
theorem far2c {w : World} {br i j : Nat} {x y v : Value} {p : Addr} (h : br ≠ p.block) (hp : w.cell? p = some v) : ((w.setCell ⟨br, i, none⟩ x).setCell ⟨br, j, none⟩ y).cell? p = some v := far1 h (far1 h hp)
set_option maxRecDepth 100000 in
set_option maxHeartbeats 4000000 in
theorem LendCore.calls (Ar : Option Addr) (c : Nat) (start : Int) (rs : List S45) (w : World) (hr : Kd.C k45 w Ar rs.length rs) (mr : rs.length ≤ 1048576) (mb : ∀ x ∈ rs, x.f1.length ≤ 1048576) :
    Calls Try.prog 7 #[.agg #[.slice Ar rs.length c, .int .i64 start]] w (LentCore w start rs) := by
  have HR := Lib.hid hr; clear hr
  have HMB := Lib.hid mb; clear mb
  have HMR := Lib.hid mr
  have HW : ∀ wa : World, wa = (w.alloc (.cells #[.slice Ar rs.length c, .int .i64 start] 24)).alloc (.cells #[.slice none 0 0, .int .i64 0] 24) →
      Hid (Below w.heap.size w wa ∧ Blk wa w.heap.size 24 [.slice Ar rs.length c, .int .i64 start] ∧ Blk wa (w.heap.size + 1) 24 [.slice none 0 0, .int .i64 0]) := by
    rintro wa rfl
    generalize hw1 : w.alloc (.cells #[.slice Ar rs.length c, .int .i64 start] 24) = w1
    have z1 : w1.heap.size = w.heap.size + 1 := by rw [← hw1]; simp
    have g1 : Below w.heap.size w w1 ∧ Blk w1 w.heap.size 24 [.slice Ar rs.length c, .int .i64 start] := by rw [← hw1]; exact ⟨(Below.refl _ w).alloc (Nat.le_refl _) _, Blk.alloc w _ _⟩
    have g2 := World.grownBy_alloc w1 (.cells #[.slice none 0 0, .int .i64 0] 24) none
    have k2 := Blk.alloc w1 #[.slice none 0 0, .int .i64 0] 24
    rw [z1] at k2
    exact ⟨g1.1.grown g2 g1.1.size (fun k hk => by cases hk), g1.2.grown g2 (by simp), k2⟩
  go_enter Try.func7, Try.ntmps7
  go_upto_region 1 with (fail)
  generalize hwa : (w.alloc (.cells #[.slice Ar rs.length c, .int .i64 start] 24)).alloc (.cells #[.slice none 0 0, .int .i64 0] 24) = wa
  have HA := HW wa hwa.symm
  clear HW hwa
  have a0 : wa.cell? ⟨w.heap.size, 0, none⟩ = some (.slice Ar rs.length c) := HA.out.2.1.cell 0
  go_wp2_with (first
    | (at_make; refine X.make rfl _ _ 22 rfl 45 _ 2 40 Try.underlying22 info45 .i64 .i64 _ _ (rs.length + 1) rfl rfl (by simp) (by simp) (by omega) (by simp only [maxLen]; omega) ?_; intro w1 hb1 hg1; obtain ⟨z, hz, hz1⟩ := X.Blk.ex hb1 (size_madeCells _ _); clear hb1
       have HH : Hid (CoreHead w w1 wa.heap.size Ar c start rs (fun _ => 0) 0) :=
         ⟨HA.out.1.grown hg1 HA.out.1.size (by simp), HA.out.2.1.grown hg1 (by simp), ⟨_, rfl, HA.out.2.2.grown hg1 (by simp)⟩, ⟨z, hz1, by rw [hz]; rfl⟩, fun i hi => absurd hi (Nat.not_lt_zero _), HA.out.2.2.lt⟩
       clear hz hz1 hg1 HA a0)
    | fail)
  generalize wa.heap.size = br at *
  clear mr
  have HNB : Hid (∀ ad, Ar = some ad → 0 < rs.length → w.heap.size + 1 < br → ad.block ≠ br) := fun ad e h0 hlt => by
    obtain ⟨ad', _, _, e', cc, _⟩ := cr_at HR.out 0 h0
    rw [e] at e'
    injection e' with e'
    subst e'
    have h1 := World.block_lt_of_cell? w _ cc
    rw [add_blk] at h1
    omega
  go_loopg [4] rs.length (fun q v wr => ∃ (i : Nat) (P : Nat → Nat), q + i = rs.length ∧ v = .int .i64 (i : Nat) ∧ Hid (CoreHead w wr br Ar c start rs P i))
  case atStart => exact ⟨0, _, by simp, rfl, HH.out⟩
  case round =>
    clear HH
    obtain ⟨i, P, hi, rfl, HI⟩ := hrel
    have a0 : wr.cell? ⟨w.heap.size, 0, none⟩ = some (.slice Ar rs.length c) := HI.out.box.cell 0
    by_cases hlt : i < rs.length
    · obtain ⟨ad, A1, c1, eA, e0, e1, _, hc1⟩ := cr_at (Kd.C_below HR.out HI.out.bel) i hlt
      subst eA
      have hm1 := HMB.out _ (cr_mem hlt)
      obtain ⟨x, hx⟩ : ∃ x, cr rs i = x := ⟨_, rfl⟩
      rw [hx] at e0 e1 hc1 hm1
      have HX := Lib.hid hx; clear hx
      obtain ⟨cs, hreps, hcells⟩ := X.C_cells hc1
      have hlen : cs.length = x.f1.length * 7 := hreps.1
      have hone := X.Reps_oneCell hreps
      have HRE := Lib.hid hreps; clear hreps
      have HL := Lib.hid hlen; clear hlen
      have HCE := Lib.hid hcells; clear hcells
      have HO := Lib.hid hone; clear hone hc1
      have HM1 := Lib.hid hm1; clear hm1
      obtain ⟨rest, hrest⟩ := HI.out.rows
      have HRS := Lib.hid hrest; clear hrest
      have HIL := Lib.hid hlt
      have hi0 : (0 : Int) ≤ (i : Int) := Int.natCast_nonneg _
      have hi1 : (i : Int) < (rs.length : Int) := Int.ofNat_lt.2 hlt
      have hi2 : (i : Int) < (rs.length : Int) + 1 := by omega
      have hxl : (x.f1.length : Int) ≤ 1048576 := by have := HM1.out; omega
      go_wp2_with (first
        | (at_make; refine X.make rfl _ _ 43 rfl 55 _ 7 64 Try.underlying43 info55 .i64 .i64 _ _ (x.f1.length + 1) rfl rfl (by simp) (by simp) (by have := HM1.out; omega) (by have := HM1.out; simp only [maxLen]; omega) ?_; intro w1 hb1 hg1; obtain ⟨z, hz, hz1⟩ := X.Blk.ex hb1 (size_madeCells _ _); clear hb1; have HZ := Lib.hid hz; clear hz; have HB1 := Lib.hid hz1; clear hz1; have HG1 := Lib.hid hg1; clear hg1
           have a01 : w1.cell? ⟨w.heap.size, 0, none⟩ = some (.slice (some ad) rs.length c) := HG1.out.cell a0 (by simp)
           have e11 : w1.cell? ⟨(ad.add (i * 2)).block, (ad.add (i * 2)).off + 1, none⟩ = some (.slice A1 x.f1.length c1) := HG1.out.cell e1 (by simp))
        | (with_reducible refine X.copy rfl (.tmp 27) (.tmp 33) 43 43 rfl 55 7 Try.underlying43 sz55 wr.heap.size 0 _ _ _ _ _ rfl rfl _ _ HB1.out cs ?_ ?_ ?_ ?_ ?_)
        | fail)
      · have := HL.out; rw [show x.f1.length.min (x.f1.length + 1) = x.f1.length from Nat.min_eq_left (by omega)]; exact this
      · intro h0
        obtain ⟨ad', e, hc⟩ := HCE.out h0
        exact ⟨ad', e, fun j v hj => HG1.out.cell (hc j v hj) (by simp)⟩
      · have := HL.out; have := HZ.out; omega
      · exact HO.out
      intro w2 hb2 hg2
      have HB2 := Lib.hid hb2; clear hb2
      have HG2 := Lib.hid hg2; clear hg2
      clear a01 e11
      go_wp2_with (first
        | (with_reducible refine X.store rfl 55 (.tmp 40) (.tmp 39) rfl wr.heap.size (x.f1.length * 7) (.agg holdC.toArray) ?_ ?_ _ _ HB2.out ?_ ?_ ?_ ?_)
        | fail)
      · rfl
      · rfl
      · exact sz55
      · have h1 := HL.out; have h2 := HZ.out
        rw [length_splice _ _ _ (by omega), h2]
        show x.f1.length * 7 + 7 ≤ _
        omega
      · intro u hu
        simp [Value.cells, holdC] at hu
        rcases hu with rfl | rfl | rfl | rfl | rfl | rfl <;> rfl
      intro w3 hb3 hg3
      have HB3 : Hid (Below wr.heap.size wr w3) := (((Below.refl _ wr).grown HG1.out (Nat.le_refl _) (by simp)).grown HG2.out HG1.out.size (by simp)).grown hg3 (Nat.le_trans HG1.out.size HG2.out.size) (by simp)
      have HLN : Hid (Lent k55 55 w3 wr.heap.size x.f1 holdC) := by
        have h1 := HL.out; have h2 := HZ.out
        have e : splice (splice z 0 cs) (x.f1.length * 7) holdC = cs ++ holdC := by
          rw [X.splice_begin, ← h1, X.splice_end]
          rw [List.length_drop, h2, h1]
          show _ = 7
          omega
        refine ⟨cs, HRE.out.imp_ (fun _ _ hk => k55.K_below HB3.out hk), ?_⟩
        rw [← e]
        exact hb3
      clear hb3 hg3 HB1 HB2 HG1 HG2 HZ HL HCE HO HRE
      have p0 : w3.cell? ⟨w.heap.size, 0, none⟩ = some (.slice (some ad) rs.length c) := Below.cell_some HB3.out a0
      have p1 : w3.cell? (ad.add (i * 2)) = some (.string x.f0) := Below.cell_some HB3.out e0
      clear a0 e0 e1
      obtain ⟨o0, o1, HOS⟩ : ∃ o0 o1, Hid (w3.cell? ⟨br, i * 2, none⟩ = some o0 ∧ w3.cell? ⟨br, i * 2 + 1, none⟩ = some o1) := by
        have hl : (rowsTo rs P i ++ rest).length = i * 2 + (rs.length + 1 - i) * 2 := by rw [List.length_append, rowsTo_length, HRS.out.2]
        have hb := HRS.out.1.below HB3.out HRS.out.1.lt
        exact ⟨_, _, (hb.cell _).trans (List.getElem?_eq_getElem (by omega)), (hb.cell _).trans (List.getElem?_eq_getElem (by omega))⟩
      have hs0 := HOS.out.1
      have hs1 := HOS.out.2
      have HB6 : Hid (Blk w3 br 45 (rowsTo rs P i ++ rest)) := HRS.out.1.below HB3.out HRS.out.1.lt
      have hf0 := HB6.out.frozen (i * 2)
      have hf1 := HB6.out.frozen (i * 2 + 1)
      have HN1 : Hid (br ≠ w.heap.size) := by have := HI.out.lt; show _ ≠ _; omega
      have HN2 : Hid (br ≠ (ad.add (i * 2)).block) := by rw [add_blk]; exact fun e => HNB.out ad rfl (by omega) HI.out.lt e.symm
      have hsl : IntKind.i64.wrap (x.f1.length : Int) = (x.f1.length : Int) := by rw [IntWalk.i64_in _ (by omega)]
      have hl0 : (0 : Int) ≤ (x.f1.length : Int) := Int.natCast_nonneg _
      have hl1 : (x.f1.length : Int) ≤ (x.f1.length : Int) + 1 := by omega
      go_wp2
      go_region_held3 (fun w' => w'.cell? ⟨w.heap.size, 0, none⟩ = some (.slice (some ad) rs.length c) ∧ w'.cell? (ad.add (i * 2)) = some (.string x.f0))
        (first
          | with_reducible exact ⟨farD (far2c HN1.out p0), farD (far2c HN2.out p1)⟩
          | with_reducible exact ⟨far2c HN1.out p0, far2c HN2.out p1⟩
          | go_keep)
        (first | fail)
      rename_i hHeld
      clear hHeld
      have hN : ∀ w7 : World, w7 = ((w3.setCell ⟨br, i * 2, none⟩ (.string x.f0)).setCell ⟨br, i * 2 + 1, none⟩ (.slice (some ⟨wr.heap.size, 0, none⟩) x.f1.length (x.f1.length + 1))).drew → Hid (CoreHead w w7 br (some ad) c start rs (upd P i wr.heap.size) (i + 1)) := by
        intro w7 e
        have hx := HX.out
        subst hx
        exact HI.out.next HIL.out HB3.out (Nat.le_refl _) HLN.out e
      clear hs0 hs1 hf0 hf1 p0 p1 hi0 hi1 hi2 HOS HB6 HLN HI hsl hl0 hl1 hxl
      generalize hw7 : ((w3.setCell ⟨br, i * 2, none⟩ (.string x.f0)).setCell ⟨br, i * 2 + 1, none⟩ (.slice (some ⟨wr.heap.size, 0, none⟩) x.f1.length (x.f1.length + 1))).drew = w7
      have HF := hN w7 hw7.symm
      clear hN hw7
      have hiw : wrap64 ((i : Int) + 1) = ((i + 1 : Nat) : Int) := by have := HMR.out; rw [IntWalk.wrap64_in _ (by omega)]; rfl
      go_wp2
      go_roundg (rs.length - (i + 1))
      case measure => clear hiw; omega
      case rel => exact ⟨i + 1, _, by clear hiw; omega, by first | rfl | rw [hiw], HF.out⟩
    · obtain rfl : i = rs.length := by omega
      obtain ⟨rest, hrest⟩ := HI.out.rows
      have HRS := Lib.hid hrest; clear hrest
      go_wp2_with (first
        | (with_reducible refine X.store rfl 45 (.tmp 61) (.tmp 60) rfl br (rs.length * 2) (.agg holdR.toArray) ?_ ?_ _ _ HRS.out.1 ?_ ?_ ?_ ?_)
        | fail)
      · rfl
      · rfl
      · exact sz45
      · have h2 := HRS.out.2
        rw [List.length_append, rowsTo_length, h2]
        show rs.length * 2 + 2 ≤ _
        omega
      · intro u hu
        simp [Value.cells, holdR] at hu
        rcases hu with rfl | rfl <;> rfl
      intro w5 hb5 hg5
      have HG : Hid (CoreAt w5 w.heap.size br rs P ∧ Below w.heap.size w w5 ∧ Blk w5 w.heap.size 24 [.slice Ar rs.length c, .int .i64 start] ∧ ∃ z0 z1, Blk w5 (w.heap.size + 1) 24 [z0, z1]) := by
        obtain ⟨k1, k2, ⟨z, hz, k3⟩, _, k6, k7⟩ := HI.out
        have hh : ∀ k, k < wr.heap.size → k ≠ br → w5.heap[k]? = wr.heap[k]? := fun k hk hne => hg5.block k hk (fun e => hne (by injection e))
        obtain ⟨z0, z1, rfl⟩ : ∃ z0 z1, z = [z0, z1] := by
          match z, hz with
          | [z0, z1], _ => exact ⟨z0, z1, rfl⟩
        refine ⟨⟨?_, fun j hj => ?_⟩, k1.grown hg5 k1.size (fun k e => by injection e with e; omega), k2.grown hg5 (by simp; omega), z0, z1, k3.grown hg5 (by simp; omega)⟩
        · have h2 := HRS.out.2
          have e : splice (rowsTo rs P rs.length ++ rest) (rs.length * 2) holdR = rowsTo rs P rs.length ++ holdR := by
            rw [← rowsTo_length rs P rs.length, X.splice_end]
            show _ = 2
            omega
          rw [← e]
          exact hb5
        · obtain ⟨a1, a2, a3⟩ := k6 j hj
          exact ⟨a1, Lent.flat flat55 a2 (hh _ (Lent.lt a2) (Lent.ne a2 HRS.out.1 (by decide))), a3⟩
      have HLT : Hid (w.heap.size + 1 < br) := HI.out.lt
      clear hb5 hg5 a0 HI HRS
      have c0 : w5.cell? ⟨w.heap.size, 0, none⟩ = some (.slice Ar rs.length c) := HG.out.2.2.1.cell 0
      have c1 : w5.cell? ⟨w.heap.size, 1, none⟩ = some (.int .i64 start) := HG.out.2.2.1.cell 1
      obtain ⟨z0, z1, HZ1⟩ : ∃ z0 z1, Hid (Blk w5 (w.heap.size + 1) 24 [z0, z1]) := HG.out.2.2.2
      have d0 : w5.cell? ⟨w.heap.size + 1, 0, none⟩ = some z0 := HZ1.out.cell 0
      have d1 : w5.cell? ⟨w.heap.size + 1, 1, none⟩ = some z1 := HZ1.out.cell 1
      have f0 := HZ1.out.frozen 0
      have f1 := HZ1.out.frozen 1
      have hr0 : (0 : Int) ≤ (rs.length : Int) := Int.natCast_nonneg _
      have hr1 : (rs.length : Int) ≤ (rs.length : Int) + 1 := by omega
      have d0' : w5.drew.cell? ⟨w.heap.size + 1, 0, none⟩ = some z0 := d0
      have d1' : w5.drew.cell? ⟨w.heap.size + 1, 1, none⟩ = some z1 := d1
      have f0' : w5.drew.frozen? ⟨w.heap.size + 1, 0, none⟩ = false := f0
      have f1' : w5.drew.frozen? ⟨w.heap.size + 1, 1, none⟩ = false := f1
      go_wp2
      go_region_held3 (fun w' => w'.cell? ⟨w.heap.size, 0, none⟩ = some (.slice Ar rs.length c) ∧ w'.cell? ⟨w.heap.size, 1, none⟩ = some (.int .i64 start)) (first | go_keep) (first | fail)
      have hF : ∀ w6 : World, w6 = ((w5.setCell ⟨w.heap.size + 1, 0, none⟩ (.slice (some ⟨br, 0, none⟩) rs.length (rs.length + 1))).setCell ⟨w.heap.size + 1, 1, none⟩ (.int .i64 start)).drew →
          Hid (CoreAt w6 w.heap.size br rs P ∧ Below w.heap.size w w6 ∧ Blk w6 (w.heap.size + 1) 24 [.slice (some ⟨br, 0, none⟩) rs.length (rs.length + 1), .int .i64 start]) := by
        rintro w6 rfl
        have hh : ∀ k, k ≠ w.heap.size + 1 → ((w5.setCell ⟨w.heap.size + 1, 0, none⟩ (.slice (some ⟨br, 0, none⟩) rs.length (rs.length + 1))).setCell ⟨w.heap.size + 1, 1, none⟩ (.int .i64 start)).drew.heap[k]? = w5.heap[k]? := fun k hk => by
          show (((w5.setCell _ _).setCell _ _)).heap[k]? = _
          rw [Below.heap_setCell _ _ _ _ hk, Below.heap_setCell _ _ _ _ hk]
        refine ⟨⟨(hh _ (by have := HLT.out; omega)).trans HG.out.1.rows, fun j hj => ?_⟩, ((HG.out.2.1.setCell (by simp) _).setCell (by simp) _).drew, ?_⟩
        · obtain ⟨a1, a2, a3⟩ := HG.out.1.rules j hj
          exact ⟨a1, Lent.flat flat55 a2 (hh _ (Lent.ne a2 HZ1.out (by decide))), a3⟩
        · exact (HZ1.out.setCell 0 (.slice (some ⟨br, 0, none⟩) rs.length (rs.length + 1))).setCell 1 (.int .i64 start)
      clear d0' d1' f0' f1' c0 c1 HG d0 d1 f0 f1 HZ1
      go_wp2
      generalize hw6 : ((w5.setCell ⟨w.heap.size + 1, 0, none⟩ (.slice (some ⟨br, 0, none⟩) rs.length (rs.length + 1))).setCell ⟨w.heap.size + 1, 1, none⟩ (.int .i64 start)).drew = w6
      have HL := hF _ hw6.symm
      have r0 : w6.cell? ⟨w.heap.size + 1, 0, none⟩ = some (.slice (some ⟨br, 0, none⟩) rs.length (rs.length + 1)) := HL.out.2.2.cell 0
      have r1 : w6.cell? ⟨w.heap.size + 1, 1, none⟩ = some (.int .i64 start) := HL.out.2.2.cell 1
      clear hF hw6
      (try simp only [Exit.inBlock, Exit.then])
      refine bodyPost_ret (v := .agg #[.slice (some ⟨br, 0, none⟩) rs.length (rs.length + 1), .int .i64 start]) (by simp [results, Try.results7, go_sem, r0, r1]) rfl ?_
      exact ⟨br, P, rfl, HL.out.1, by have := HLT.out; omega, HL.out.2.1⟩
end Go.Proofs.Ytmpkkphohilkoaa.B
/- dowelbook.KeptCore of a core grammar as it was lent: true; nothing old is written. Cores, Outcomes of what is alike. -/
namespace Go.Proofs.Ytmpkkphohilkoaa.B
open Go Go.RowKit Go.X Go.Ma Go.Proofs.YtmpkkphohilkoaaW.PrintWords Go.Proofs.Ytmpkkphohilkoaa.F
set_option linter.unusedSimpArgs false

theorem bodies_l0 (xs : List S55) (hl : xs.length ≤ 1048576) : ∀ (d k i : Nat), xs.length - i = d → d < k → i ≤ xs.length → dowelbook_CoreBodies.l0 k xs xs i = some true
  | 0, k, i, hd, hk, hi => by
    obtain ⟨k, rfl⟩ : ∃ m, k = m + 1 := ⟨k - 1, by omega⟩
    rw [dowelbook_CoreBodies.l0, if_neg (by omega)]
  | d + 1, k, i, hd, hk, hi => by
    obtain ⟨k, rfl⟩ : ∃ m, k = m + 1 := ⟨k - 1, by omega⟩
    have hw : wrap64 ((i : Int) + 1) = ((i + 1 : Nat) : Int) := by rw [IntWalk.wrap64_in _ (by omega)]; rfl
    rw [dowelbook_CoreBodies.l0, if_pos (by omega), if_pos (by omega), if_pos (by omega), if_neg (by simp), hw]
    exact bodies_l0 xs hl d k (i + 1) (by omega) (by omega) (by omega)
theorem bodies_f (xs : List S55) (hl : xs.length ≤ 1048576) (k : Nat) (hk : xs.length < k) : dowelbook_CoreBodies.f k xs xs = some true := by
  unfold dowelbook_CoreBodies.f
  rw [if_pos rfl]
  exact bodies_l0 xs hl xs.length k 0 rfl hk (Nat.zero_le _)
theorem cores_l0 (rs : List S45) (st : Int) (hl : rs.length ≤ 1048576) (B : Nat) (hb : ∀ i, i < rs.length → (cr rs i).f1.length ≤ 1048576 ∧ (cr rs i).f1.length ≤ B) : ∀ (d k i : Nat), rs.length - i = d → d + B < k → i ≤ rs.length → dowelbook_Cores.l0 k i rs st rs st = some true
  | 0, k, i, hd, hk, hi => by
    obtain ⟨k, rfl⟩ : ∃ m, k = m + 1 := ⟨k - 1, by omega⟩
    rw [dowelbook_Cores.l0, if_neg (by omega)]
  | d + 1, k, i, hd, hk, hi => by
    obtain ⟨k, rfl⟩ : ∃ m, k = m + 1 := ⟨k - 1, by omega⟩
    have hw : wrap64 ((i : Int) + 1) = ((i + 1 : Nat) : Int) := by rw [IntWalk.wrap64_in _ (by omega)]; rfl
    have hbi := hb i (by omega)
    rw [dowelbook_Cores.l0, if_pos (by omega), if_pos (by omega), if_pos (by omega), if_pos rfl, rd_cr, bodies_f _ hbi.1 _ (by omega), Option.bind_some, if_pos rfl, hw]
    exact cores_l0 rs st hl B hb d k (i + 1) (by omega) (by omega) (by omega)
theorem cores_f (rs : List S45) (st : Int) (hl : rs.length ≤ 1048576) (hb : ∀ x ∈ rs, x.f1.length ≤ 1048576) (k : Nat) (hk : rs.length + 1048577 < k) : dowelbook_Cores.f k rs st rs st = some true := by
  obtain ⟨k, rfl⟩ : ∃ m, k = m + 1 := ⟨k - 1, by omega⟩
  unfold dowelbook_Cores.f
  rw [if_pos rfl, dowelbook_Cores.j0, if_neg (by simp)]
  exact cores_l0 rs st hl 1048576 (fun i hi => ⟨hb _ (cr_mem hi), hb _ (cr_mem hi)⟩) rs.length k 0 rfl (by omega) (Nat.zero_le _)
theorem caps_l0 (xs : List S63) (hl : xs.length ≤ 4000000) : ∀ (d k i : Nat), xs.length - i = d → d < k → i ≤ xs.length → dowelbook_Captures.l0 k xs xs i = some true
  | 0, k, i, hd, hk, hi => by
    obtain ⟨k, rfl⟩ : ∃ m, k = m + 1 := ⟨k - 1, by omega⟩
    rw [dowelbook_Captures.l0, if_neg (by omega)]
  | d + 1, k, i, hd, hk, hi => by
    obtain ⟨k, rfl⟩ : ∃ m, k = m + 1 := ⟨k - 1, by omega⟩
    have hw : wrap64 ((i : Int) + 1) = ((i + 1 : Nat) : Int) := by rw [IntWalk.wrap64_in _ (by omega)]; rfl
    rw [dowelbook_Captures.l0, if_pos (by omega), if_pos (by omega), if_pos (by omega), if_neg (by simp), hw]
    exact caps_l0 xs hl d k (i + 1) (by omega) (by omega) (by omega)
theorem outcomes_f (a b : Int) (s : ByteArray) (xs : List S63) (hl : xs.length ≤ 4000000) (k : Nat) (hk : xs.length < k) : dowelbook_Outcomes.f k a b s xs a b s xs = some true := by
  unfold dowelbook_Outcomes.f dowelbook_Captures.f
  have := caps_l0 xs hl xs.length k 0 rfl hk (Nat.zero_le _)
  rw [show ((0 : Nat) : Int) = 0 from rfl] at this
  rw [if_pos rfl, if_pos rfl, if_pos rfl, if_pos rfl, this]
  rfl
/-- Two outcomes that are alike, in memory. -/
theorem outcomes.calls (A1 A2 : Option Addr) (c1 c2 : Nat) (k : Int) (en : Nat) (lb : ByteArray) (F : List Cap) (b1 b2 : Nat) (w : World) (h1 : OwnF w b1 (.slice A1 F.length c1) F) (h2 : OwnF w b2 (.slice A2 F.length c2) F) (hm : F.length ≤ 4000000) :
    Calls Try.prog 10 #[.agg #[.int .i64 k, .int .i64 (en : Nat), .string lb, .slice A1 F.length c1], .agg #[.int .i64 k, .int .i64 (en : Nat), .string lb, .slice A2 F.length c2]] w fun e w' => e = .returned (.bool true) ∧ Below w.heap.size w w' := by
  have cap_le : ∀ {A : Option Addr} {c b : Nat}, OwnF w b (.slice A F.length c) F → F.length ≤ c := fun h => by
    rcases h.2 with ⟨e, h0⟩ | ⟨g, cap, cur, e, _, _, h4, _⟩
    · injection e with e1 e2 e3; omega
    · injection e with e1 e2 e3; omega
  have e : (F.map toS).length = F.length := List.length_map _
  have := dowelbook_Outcomes.calls 4000001 k en lb A1 c1 (F.map toS) k en lb A2 c2 (F.map toS) true w (by rw [e]; have := caps_C h1 hm; rwa [e] at this) (by rw [e]; exact cap_le h1) (by rw [e]; have := caps_C h2 hm; rwa [e] at this) (by rw [e]; exact cap_le h2) (outcomes_f k en lb _ (by rw [e]; exact hm) _ (by rw [e]; omega))
  rw [e] at this
  exact this
theorem rowsTo_get (rs : List S45) (P : Nat → Nat) (n i j : Nat) (h : i < n) (hj : j < 2) (r : List Value) : (rowsTo rs P n ++ r)[i * 2 + j]? = (ruleAt (cr rs i) (P i))[j]? := by
  rw [List.getElem?_append_left (by rw [rowsTo_length]; omega)]
  induction n with
  | zero => omega
  | succ n ih =>
    rw [rowsTo]
    by_cases hi : i < n
    · rw [List.getElem?_append_left (by rw [rowsTo_length]; omega)]
      exact ih hi
    · obtain rfl : i = n := by omega
      rw [List.getElem?_append_right (by rw [rowsTo_length]; omega), rowsTo_length, Nat.add_sub_cancel_left]
theorem Reps_rows {w : World} {base : Nat} {rs : List S45} {P : Nat → Nat} {N : Nat} (h : RulesIn w base rs P N) (hb : ∀ i, i < N → (cr rs i).f1.length ≤ 1048576) : ∀ n, n ≤ N → n ≤ rs.length → Reps (k45.K w) k45.sz (rs.take n) (rowsTo rs P n)
  | 0, _, _ => Reps.none _ _
  | n + 1, hn, hl => by
    rw [List.take_succ_eq_append_getElem (by omega), rowsTo]
    obtain ⟨_, a3, _⟩ := h n (by omega)
    have hbn := hb n (by omega)
    have e : rs[n]'(by omega) = cr rs n := by rw [cr, List.getD_eq_getElem?_getD, List.getElem?_eq_getElem (by omega)]; rfl
    rw [e]
    exact (Reps_rows h hb n (by omega) (by omega)).snoc (k45_mk w (cr rs n) (by omega) (Lent.C a3 (by omega))) rfl
/-- A lent core grammar is read as what it was made of. -/
theorem CoreAt.C {w : World} {base br : Nat} {rs : List S45} {P : Nat → Nat} (h : CoreAt w base br rs P) (hl : rs.length ≤ 1048576) (hb : ∀ x ∈ rs, x.f1.length ≤ 1048576) : Kd.C k45 w (some ⟨br, 0, none⟩) rs.length rs := by
  have := Reps_rows h.rules (fun i hi => hb _ (cr_mem hi)) rs.length (Nat.le_refl _) (Nat.le_refl _)
  rw [List.take_length] at this
  exact C_of_blk h.rows this (by omega)
/-- Within KeptCore. -/
structure KH (w wr : World) (br : Nat) (Ar : Option Addr) (c n : Nat) (s1 s2 : Int) : Prop where
  bel : Below w.heap.size w wr
  b0 : Blk wr w.heap.size 24 [.slice (some ⟨br, 0, none⟩) n (n + 1), .int .i64 s1]
  b1 : Blk wr (w.heap.size + 1) 24 [.slice Ar n c, .int .i64 s2]
theorem KH.below {w wr w' : World} {br : Nat} {Ar : Option Addr} {c n : Nat} {s1 s2 : Int} (h : KH w wr br Ar c n s1 s2) (hb : Below wr.heap.size wr w') : KH w w' br Ar c n s1 s2 :=
  ⟨h.bel.trans (hb.mono h.bel.size), h.b0.below hb h.b0.lt, h.b1.below hb h.b1.lt⟩
set_option maxRecDepth 100000 in
set_option maxHeartbeats 4000000 in
theorem KeptCore.calls (br base : Nat) (P : Nat → Nat) (Ar : Option Addr) (c : Nat) (start : Int) (rs : List S45) (w : World) (hg : CoreAt w base br rs P) (hr : Kd.C k45 w Ar rs.length rs) (hc : rs.length ≤ c) (mr : rs.length ≤ 1048576) (mb : ∀ x ∈ rs, x.f1.length ≤ 1048576) :
    Calls Try.prog 11 #[.agg #[.slice (some ⟨br, 0, none⟩) rs.length (rs.length + 1), .int .i64 start], .agg #[.slice Ar rs.length c, .int .i64 start]] w fun e w' => e = .returned (.bool true) ∧ Below w.heap.size w w' := by
  have HG := Lib.hid hg; clear hg
  have HR := Lib.hid hr; clear hr
  have HC := Lib.hid hc; clear hc
  have HMR := Lib.hid mr; clear mr
  have HMB := Lib.hid mb; clear mb
  go_enter Try.func11, Try.ntmps11
  go_wp2
  have HB : Hid (KH w ((w.alloc (.cells #[.slice (some ⟨br, 0, none⟩) rs.length (rs.length + 1), .int .i64 start] 24)).alloc (.cells #[.slice Ar rs.length c, .int .i64 start] 24)) br Ar c rs.length start start) :=
    ⟨((Below.refl _ w).alloc (Nat.le_refl _) _).alloc (by simp) _, (Blk.alloc w _ _).grown (World.grownBy_alloc _ _ none) (by simp), by have := Blk.alloc (w.alloc (.cells #[.slice (some ⟨br, 0, none⟩) rs.length (rs.length + 1), .int .i64 start] 24)) #[.slice Ar rs.length c, .int .i64 start] 24; simpa using this⟩
  generalize (w.alloc (.cells #[.slice (some ⟨br, 0, none⟩) rs.length (rs.length + 1), .int .i64 start] 24)).alloc (.cells #[.slice Ar rs.length c, .int .i64 start] 24) = wa at *
  have a0 : wa.cell? ⟨w.heap.size, 0, none⟩ = some (.slice (some ⟨br, 0, none⟩) rs.length (rs.length + 1)) := HB.out.b0.cell 0
  have a1 : wa.cell? ⟨w.heap.size, 1, none⟩ = some (.int .i64 start) := HB.out.b0.cell 1
  have b0 : wa.cell? ⟨w.heap.size + 1, 0, none⟩ = some (.slice Ar rs.length c) := HB.out.b1.cell 0
  have b1 : wa.cell? ⟨w.heap.size + 1, 1, none⟩ = some (.int .i64 start) := HB.out.b1.cell 1
  have HG' : Hid (CoreAt wa base br rs P) := HG.out.below HB.out.bel
  have h1 : wa.cell? ⟨br, rs.length * 2, none⟩ = some (.string holder) := by
    rw [HG'.out.rows.cell, List.getElem?_append_right (by rw [rowsTo_length]; omega), rowsTo_length, Nat.sub_self]; rfl
  have HBD : Hid (Below wa.heap.size wa wa.drew) := (Below.refl _ _).drew
  have s2 : IntKind.i64.wrap ((rs.length : Int) + 1) = (rs.length : Int) + 1 := IntWalk.i64_in _ (by have := HMR.out; omega)
  have p2 : (0 : Int) ≤ (rs.length : Int) + 1 := by omega
  have p4 : (rs.length : Int) < (rs.length : Int) + 1 := by omega
  have t2 : ((rs.length : Int) + 1).toNat = rs.length + 1 := by omega
  have hq : (holder.toList == [45, 104, 111, 108, 100, 101, 114, 45]) = true := by decide +kernel
  go_region_held3 (fun w' => w'.cell? ⟨w.heap.size, 0, none⟩ = some (.slice (some ⟨br, 0, none⟩) rs.length (rs.length + 1)) ∧ w'.cell? ⟨w.heap.size, 1, none⟩ = some (.int .i64 start) ∧ w'.cell? ⟨w.heap.size + 1, 0, none⟩ = some (.slice Ar rs.length c) ∧ w'.cell? ⟨w.heap.size + 1, 1, none⟩ = some (.int .i64 start) ∧ w'.cell? ⟨br, rs.length * 2, none⟩ = some (.string holder))
    (first
      | with_reducible exact ⟨Below.cell_some hbk.out a0, Below.cell_some hbk.out a1, Below.cell_some hbk.out b0, Below.cell_some hbk.out b1, Below.cell_some hbk.out h1⟩
      | go_keep)
    (first
      | (go_at_call 23; refine (dowelbook_Cores.calls (rs.length + 1048578) _ _ rs start _ _ rs start true _ (Kd.C_below (HG'.out.C HMR.out HMB.out) HBD.out) (by omega) (Kd.C_below HR.out (HB.out.bel.trans (HBD.out.mono HB.out.bel.size))) HC.out (cores_f rs start HMR.out HMB.out _ (by omega))).mono ?_; rintro e w5 ⟨rfl, hbl⟩
         have hbk : Hid (Below wa.heap.size wa w5) := HBD.out.trans hbl
         clear hbl))
  have HB5 : Hid (KH w w5 br Ar c rs.length start start) := HB.out.below hbk.out
  have HG5 : Hid (CoreAt w5 base br rs P) := HG'.out.below hbk.out
  clear s2 p2 p4 t2 a0 a1 b0 b1 h1 HB HG' HBD hbk
  go_wp2
  go_loopg [5] rs.length (fun q v wr => ∃ k : Nat, q + k = rs.length ∧ v = .int .i64 k ∧ Hid (KH w wr br Ar c rs.length start start ∧ CoreAt wr base br rs P))
  case atStart => exact ⟨0, by simp, rfl, HB5.out, HG5.out⟩
  case round =>
    clear HB5 HG5
    rename World => wo
    obtain ⟨k, hk, rfl, HW⟩ := hrel
    have b0 : wo.cell? ⟨w.heap.size + 1, 0, none⟩ = some (.slice Ar rs.length c) := HW.out.1.b1.cell 0
    by_cases hlt : k < rs.length
    · have a0 : wo.cell? ⟨w.heap.size, 0, none⟩ = some (.slice (some ⟨br, 0, none⟩) rs.length (rs.length + 1)) := HW.out.1.b0.cell 0
      obtain ⟨ad, A1, c1, eA, e0, e1, l1, g1⟩ := cr_at (Kd.C_below HR.out HW.out.1.bel) k hlt
      subst eA
      clear l1 g1 e0
      obtain ⟨_, u3, _⟩ := HW.out.2.rules k hlt
      have m1 : wo.cell? ⟨br, k * 2 + 1, none⟩ = some (.slice (some ⟨P k, 0, none⟩) (cr rs k).f1.length ((cr rs k).f1.length + 1)) := by
        rw [HW.out.2.rows.cell, rowsTo_get rs P _ k 1 hlt (by omega)]; rfl
      have m3 : wo.cell? ⟨P k, (cr rs k).f1.length * 7, none⟩ = some (.int .i64 (-77)) := Lent.hold u3 0 rfl
      have HX := Lib.hid (HMB.out _ (cr_mem hlt))
      generalize cr rs k = x at *
      have k0 : (0 : Int) ≤ (k : Int) := by omega
      have k1 : (k : Int) < (rs.length : Int) := by omega
      have q1 : IntKind.i64.wrap ((x.f1.length : Int) + 1) = (x.f1.length : Int) + 1 := IntWalk.i64_in _ (by have := HX.out; omega)
      have p1 : (0 : Int) ≤ (x.f1.length : Int) + 1 := by omega
      have t1 : ((x.f1.length : Int) + 1).toNat = x.f1.length + 1 := by omega
      go_wp2
      go_quiet (fail)
      clear q1 p1 t1
      have r1 : wrap64 (x.f1.length : Int) = (x.f1.length : Int) := IntWalk.wrap64_in _ (by have := HX.out; omega)
      go_wp2
      go_roundg (rs.length - (k + 1))
      case measure => omega
      case rel => exact ⟨k + 1, by clear r1; omega, by rw [IntWalk.wrap64_in _ (by clear r1; have := HMR.out; omega)]; rfl, HW.out.1.below (Below.drewQ ⟨_, rfl⟩), HW.out.2.below (Below.drewQ ⟨_, rfl⟩)⟩
    · go_wp2
      go_ret
      exact ⟨rfl, HW.out.1.bel⟩
end Go.Proofs.Ytmpkkphohilkoaa.B
/- What the laws of chapter 14 go on with: their boxes, what was lent, the answers that are kept. -/
namespace Go.Proofs.Ytmpkkphohilkoaa.B
open Go Go.RowKit Go.X Go.Ma Go.Proofs.YtmpkkphohilkoaaW.PrintWords Go.Proofs.Ytmpkkphohilkoaa.F

theorem eqA32 (d : Nat) (w : World) (x0 y0 : Int) (x1 y1 : Int) :
    (Op.equalIn (d + 2) 32 (.agg #[.int .i64 x0, .int .i64 x1]) (.agg #[.int .i64 y0, .int .i64 y1])).run Try.prog w = .ok (x0 == y0 && (x1 == y1)) w := by
  refine eqA_of Try.underlying32 (by kernel_rfl) ?_
  refine eqf_cons (by rfl) (by go_simp; rfl) (by go_simp; rfl) (by go_simp) ?_
  exact eqf_last (by rfl) (by go_simp; rfl) (by go_simp; rfl) (by go_simp)
/-- The law's boxes. -/
structure LB (w wk : World) (Ar : Option Addr) (n c : Nat) (start D S : Int) : Prop where
  bel : Below w.heap.size w wk
  b0 : Blk wk w.heap.size 24 [.slice Ar n c, .int .i64 start]
  b1 : Blk wk (w.heap.size + 1) 26 [.int .i64 D, .int .i64 S]
theorem LB.start (w : World) (Ar : Option Addr) (n c : Nat) (start D S : Int) : LB w ((w.alloc (.cells #[.slice Ar n c, .int .i64 start] 24)).alloc (.cells #[.int .i64 D, .int .i64 S] 26)) Ar n c start D S :=
  ⟨((Below.refl _ w).alloc (Nat.le_refl _) _).alloc (by simp) _, (Blk.alloc w _ _).grown (World.grownBy_alloc _ _ none) (by simp), by have := Blk.alloc (w.alloc (.cells #[.slice Ar n c, .int .i64 start] 24)) #[.int .i64 D, .int .i64 S] 26; simpa using this⟩
theorem LB.below {w wk w' : World} {Ar : Option Addr} {n c : Nat} {start D S : Int} (h : LB w wk Ar n c start D S) (hb : Below wk.heap.size wk w') : LB w w' Ar n c start D S :=
  ⟨h.bel.trans (hb.mono h.bel.size), h.b0.below hb h.b0.lt, h.b1.below hb h.b1.lt⟩
/-- What was lent, and its box. -/
structure OB (wk : World) (ob lo br : Nat) (start : Int) (rs : List S45) (P : Nat → Nat) : Prop where
  box : Blk wk ob 24 [.slice (some ⟨br, 0, none⟩) rs.length (rs.length + 1), .int .i64 start]
  core : CoreAt wk lo br rs P
theorem OB.below {wk w' : World} {ob lo br : Nat} {start : Int} {rs : List S45} {P : Nat → Nat} (h : OB wk ob lo br start rs P) (hb : Below wk.heap.size wk w') : OB w' ob lo br start rs P := ⟨h.box.below hb h.box.lt, h.core.below hb⟩
theorem OB.start {wk : World} {lo br : Nat} {start : Int} {rs : List S45} {P : Nat → Nat} (h : CoreAt wk lo br rs P) : OB (wk.alloc (.cells #[.slice (some ⟨br, 0, none⟩) rs.length (rs.length + 1), .int .i64 start] 24)) wk.heap.size lo br start rs P :=
  ⟨Blk.alloc wk _ _, h.below ((Below.refl _ _).alloc (Nat.le_refl _) _)⟩
/-- An answer that is kept. -/
structure KA (wk : World) (b lo hi : Nat) (k : Int) (en : Nat) (lb : ByteArray) (v : Value) (dp st : Nat) (F : List Cap) : Prop where
  c : Blk wk b 31 (rsC k en lb v)
  u : Blk wk (b + 1) 32 [.int .i64 (dp : Nat), .int .i64 (st : Nat)]
  own : OwnF wk lo v F
  hi : ∀ q, v.ownBlock = some q → q < hi
theorem KA.below {wk w' : World} {b lo hi : Nat} {k : Int} {en : Nat} {lb : ByteArray} {v : Value} {dp st : Nat} {F : List Cap} (h : KA wk b lo hi k en lb v dp st F) (hb : Below wk.heap.size wk w') : KA w' b lo hi k en lb v dp st F :=
  ⟨h.c.below hb h.c.lt, h.u.below hb h.u.lt, h.own.more (Go.X.grown_of_below hb none), h.hi⟩
def two (w : World) (k : Int) (en : Nat) (lb : ByteArray) (v : Value) (dp st : Nat) : World := (w.alloc (.cells #[.int .i64 k, .int .i64 (en : Nat), .string lb, v] 31)).alloc (.cells #[.int .i64 (dp : Nat), .int .i64 (st : Nat)] 32)
theorem two_below (w : World) (k : Int) (en : Nat) (lb : ByteArray) (v : Value) (dp st : Nat) : Below w.heap.size w (two w k en lb v dp st) := ((Below.refl _ w).alloc (Nat.le_refl _) _).alloc (by simp) _
theorem KA.start {w : World} {lo : Nat} {k : Int} {en : Nat} {lb : ByteArray} {v : Value} {dp st : Nat} {F : List Cap} (h : OwnF w lo v F) : KA (two w k en lb v dp st) w.heap.size lo w.heap.size k en lb v dp st F := by
  refine ⟨(Blk.alloc w _ _).grown (World.grownBy_alloc _ _ none) (by simp), ?_, h.more (Go.X.grown_of_below (two_below w k en lb v dp st) none), fun q hq => (World.ownsRow.lt h q hq).2⟩
  have := Blk.alloc (w.alloc (.cells #[.int .i64 k, .int .i64 (en : Nat), .string lb, v] 31)) #[.int .i64 (dp : Nat), .int .i64 (st : Nat)] 32
  simpa [two] using this
theorem RunAns.at {x : Res × St} {k : Int} {en : Nat} {lb : ByteArray} {F : List Cap} {t st dp : Nat} {er : Int} (h1 : ansRes x = ⟨k, en, lb, F, t⟩) (h2 : ansSt x = ⟨st, dp, er⟩) {w w' : World} {e : Ending} (h : RunAns w x e w') :
    ∃ A c, e = .returned (.tuple #[.agg #[.int .i64 k, .int .i64 (en : Nat), .string lb, .slice A F.length c], .agg #[.int .i64 (dp : Nat), .int .i64 (st : Nat)], .int .i64 er]) ∧ Below w.heap.size w w' ∧ OwnF w' w.heap.size (.slice A F.length c) F := by
  obtain ⟨v, he, hb, ho⟩ := h
  rw [h1] at he ho
  rw [h2] at he
  obtain ⟨A, c, rfl⟩ := Go.X.own_slice ho
  exact ⟨A, c, he, hb, ho⟩
theorem runOf_few (rs : List S45) (inp : ByteArray) (r p : Nat) (D S : Int) : (runOf rs inp r p D S).1.forest.length ≤ 1048576 := by
  have h := ev_ok (envOf rs inp) (clamp D S) (2 * (clamp D S).steps + 1) (tre rs r) p 1 st0 (by simp only [st0]; omega)
  have h1 := h.few
  have h2 := h.max (Nat.zero_le _)
  have h3 := (clamp_le D S).2
  unfold runOf
  omega
theorem atAns_few (rs : List S45) (start rule : Int) (inp : ByteArray) (at_ D S : Int) : (ansRes (atAns rs start rule inp at_ D S)).forest.length ≤ 1048576 := by
  have hz : ∀ e : Int, (ansRes ((.zero, ⟨0, 0, e⟩) : Res × St)).forest.length ≤ 1048576 := fun e => by
    rw [ansRes]
    split <;> exact Nat.zero_le _
  unfold atAns
  split
  · split
    · split
      · split
        · rw [ansRes]
          split
          · exact runOf_few _ _ _ _ _ _
          · exact Nat.zero_le _
        · exact hz 5
      · exact hz 1
    · exact hz 5
  · exact hz 6
theorem heavy_no {rs : List S45} (h : decide (4096 < rs.length ∨ 1048576 < sz rs) = false) : rs.length ≤ 1048576 ∧ ∀ x ∈ rs, x.f1.length ≤ 1048576 := by
  have h' := of_decide_eq_false h
  exact ⟨by omega, fun x hx => by have := sz_mem hx; omega⟩
end Go.Proofs.Ytmpkkphohilkoaa.B
/- The walk of the law MatchPlaces (printed by wip/tools/genlaw14.py). -/
namespace Go.Proofs.Ytmpkkphohilkoaa.B
open Go Go.RowKit Go.X Go.Ma Go.Proofs.YtmpkkphohilkoaaW.PrintWords Go.Proofs.Ytmpkkphohilkoaa.F
attribute [local go_sem high] eqA32

set_option maxRecDepth 100000 in
set_option maxHeartbeats 4000000 in
theorem MatchPlaces.calls (Ar : Option Addr) (c : Nat) (start rule : Int) (rs : List S45) (inp : ByteArray) (at_ D S : Int) (w : World) (hr : Kd.C k45 w Ar rs.length rs) (hc : rs.length ≤ c) (hb : ∀ x ∈ rs, x.f1.length ≤ 140737488355328 ∧ x.f0.size ≤ 140737488355328) (hi : inp.size ≤ 140737488355328) :
    Calls Try.prog 5 #[.agg #[.slice Ar rs.length c, .int .i64 start], .int .i64 rule, .string inp, .int .i64 at_, .agg #[.int .i64 D, .int .i64 S]] w fun e w' => e = .returned (.bool true) ∧ Below w.heap.size w w' := by
  have HR := Lib.hid hr; clear hr
  have HC := Lib.hid hc; clear hc
  have HBB := Lib.hid hb; clear hb
  have HQL := Lib.hid (atAns_few rs start rule inp at_ D S)
  obtain ⟨q1, hq1⟩ : ∃ q, ansRes (atAns rs start rule inp at_ D S) = q := ⟨_, rfl⟩
  obtain ⟨q2, hq2⟩ : ∃ q, ansSt (atAns rs start rule inp at_ D S) = q := ⟨_, rfl⟩
  rw [hq1] at HQL
  obtain ⟨k, en, lb, F, t⟩ := q1
  obtain ⟨st, dp, er⟩ := q2
  have HQ := Lib.hid (And.intro hq1 hq2)
  clear hq1 hq2
  have L0 := Lib.hid (LB.start w Ar rs.length c start D S)
  go_enter Try.func5, Try.ntmps5
  go_wp2_with (fail)
  generalize ((w.alloc (.cells #[.slice Ar rs.length c, .int .i64 start] 24)).alloc (.cells #[.int .i64 D, .int .i64 S] 26)) = wa at *
  refine (dowellaw14_heavy.calls 4097 Ar c rs start _ wa (Kd.C_below HR.out L0.out.bel) HC.out (heavy_f rs start (fun x hx => (HBB.out x hx).1) _ (by omega))).mono ?_
  rintro e w1 ⟨rfl, hbw⟩
  have L1 := Lib.hid (L0.out.below hbw)
  clear L0
  clear hbw
  dsimp only
  by_cases hh : decide (4096 < rs.length ∨ 1048576 < sz rs) = true
  · rw [hh]
    go_wp2
    go_ret
    exact ⟨rfl, L1.out.bel⟩
  have hh' : decide (4096 < rs.length ∨ 1048576 < sz rs) = false := by simpa using hh
  have HM := Lib.hid (heavy_no hh')
  rw [hh']
  clear hh hh'
  have a0 : w1.cell? ⟨w.heap.size, 0, none⟩ = some (.slice Ar rs.length c) := L1.out.b0.cell 0
  have a1 : w1.cell? ⟨w.heap.size, 1, none⟩ = some (.int .i64 start) := L1.out.b0.cell 1
  go_wp2_with (fail)
  clear a0 a1
  refine (LendCore.calls Ar c start rs w1 (Kd.C_below HR.out L1.out.bel) HM.out.1 HM.out.2).mono ?_
  rintro e w2 ⟨br, Q, rfl, hcore, _, hbw⟩
  have L2 := Lib.hid (L1.out.below hbw)
  clear L1
  clear hbw
  dsimp only
  have HO' : ∀ wz : World, wz = w2.alloc (.cells #[.slice (some ⟨br, 0, none⟩) rs.length (rs.length + 1), .int .i64 start] 24) → Hid (LB w wz Ar rs.length c start D S ∧ OB wz w2.heap.size w1.heap.size br start rs Q ∧ w.heap.size ≤ w2.heap.size) := by
    rintro wz rfl
    exact ⟨L2.out.below ((Below.refl _ _).alloc (Nat.le_refl _) _), OB.start hcore, L2.out.bel.size⟩
  have o0 : (w2.alloc (.cells #[.slice (some ⟨br, 0, none⟩) rs.length (rs.length + 1), .int .i64 start] 24)).cell? ⟨w2.heap.size, 0, none⟩ = some (.slice (some ⟨br, 0, none⟩) rs.length (rs.length + 1)) := (HO' _ rfl).out.2.1.box.cell 0
  have o1 : (w2.alloc (.cells #[.slice (some ⟨br, 0, none⟩) rs.length (rs.length + 1), .int .i64 start] 24)).cell? ⟨w2.heap.size, 1, none⟩ = some (.int .i64 start) := (HO' _ rfl).out.2.1.box.cell 1
  have d0 : (w2.alloc (.cells #[.slice (some ⟨br, 0, none⟩) rs.length (rs.length + 1), .int .i64 start] 24)).cell? ⟨w.heap.size + 1, 0, none⟩ = some (.int .i64 D) := (HO' _ rfl).out.1.b1.cell 0
  have d1 : (w2.alloc (.cells #[.slice (some ⟨br, 0, none⟩) rs.length (rs.length + 1), .int .i64 start] 24)).cell? ⟨w.heap.size + 1, 1, none⟩ = some (.int .i64 S) := (HO' _ rfl).out.1.b1.cell 1
  clear hcore L2
  go_wp2_with (fail)
  clear o0 o1 d0 d1
  generalize hw3 : w2.alloc (.cells #[.slice (some ⟨br, 0, none⟩) rs.length (rs.length + 1), .int .i64 start] 24) = w3
  have HOO := HO' w3 hw3.symm
  clear HO' hw3
  generalize hob : w2.heap.size = ob at *
  clear hob
  have L3 := Lib.hid HOO.out.1
  have O3 := Lib.hid HOO.out.2.1
  have HOB := Lib.hid HOO.out.2.2
  clear HOO
  refine (mat.calls (some ⟨br, 0, none⟩) (rs.length + 1) start rule rs inp at_ D S w3 (O3.out.core.C HM.out.1 HM.out.2) (by omega) HBB.out).mono ?_
  rintro e w4 hans
  obtain ⟨A1, c1, rfl, hbw, hown1⟩ := RunAns.at HQ.out.1 HQ.out.2 hans
  clear hans
  have HS1 : Hid (w.heap.size ≤ w3.heap.size ∧ w3.heap.size ≤ w4.heap.size) := ⟨L3.out.bel.size, hbw.size⟩
  have L4 := Lib.hid (L3.out.below hbw)
  have O4 := Lib.hid (O3.out.below hbw)
  clear L3 O3
  clear hbw
  dsimp only
  have HK' : ∀ wz : World, wz = (w4.alloc (.cells #[.int .i64 k, .int .i64 (en : Nat), .string lb, .slice A1 F.length c1] 31)).alloc (.cells #[.int .i64 (dp : Nat), .int .i64 (st : Nat)] 32) → Hid (Below w4.heap.size w4 wz ∧ KA wz w4.heap.size w3.heap.size w4.heap.size k en lb (.slice A1 F.length c1) dp st F) := by
    rintro wz rfl
    exact ⟨two_below w4 k en lb (.slice A1 F.length c1) dp st, KA.start hown1⟩
  have o0 : ((w4.alloc (.cells #[.int .i64 k, .int .i64 (en : Nat), .string lb, .slice A1 F.length c1] 31)).alloc (.cells #[.int .i64 (dp : Nat), .int .i64 (st : Nat)] 32)).cell? ⟨w.heap.size, 0, none⟩ = some (.slice Ar rs.length c) := (L4.out.below (HK' _ rfl).out.1).b0.cell 0
  have o1 : ((w4.alloc (.cells #[.int .i64 k, .int .i64 (en : Nat), .string lb, .slice A1 F.length c1] 31)).alloc (.cells #[.int .i64 (dp : Nat), .int .i64 (st : Nat)] 32)).cell? ⟨w.heap.size, 1, none⟩ = some (.int .i64 start) := (L4.out.below (HK' _ rfl).out.1).b0.cell 1
  have d0 : ((w4.alloc (.cells #[.int .i64 k, .int .i64 (en : Nat), .string lb, .slice A1 F.length c1] 31)).alloc (.cells #[.int .i64 (dp : Nat), .int .i64 (st : Nat)] 32)).cell? ⟨w.heap.size + 1, 0, none⟩ = some (.int .i64 D) := (L4.out.below (HK' _ rfl).out.1).b1.cell 0
  have d1 : ((w4.alloc (.cells #[.int .i64 k, .int .i64 (en : Nat), .string lb, .slice A1 F.length c1] 31)).alloc (.cells #[.int .i64 (dp : Nat), .int .i64 (st : Nat)] 32)).cell? ⟨w.heap.size + 1, 1, none⟩ = some (.int .i64 S) := (L4.out.below (HK' _ rfl).out.1).b1.cell 1
  go_wp2_with (fail)
  clear hown1 o0 o1 d0 d1
  generalize hw5 : (w4.alloc (.cells #[.int .i64 k, .int .i64 (en : Nat), .string lb, .slice A1 F.length c1] 31)).alloc (.cells #[.int .i64 (dp : Nat), .int .i64 (st : Nat)] 32) = w5
  have HKK := HK' w5 hw5.symm
  clear HK' hw5
  have L5 := Lib.hid (L4.out.below HKK.out.1)
  have O5 := Lib.hid (O4.out.below HKK.out.1)
  clear L4 O4
  have K15 := Lib.hid HKK.out.2
  clear HKK
  have HB1 : Hid (w.heap.size ≤ w3.heap.size ∧ w3.heap.size ≤ w4.heap.size) := HS1.out
  generalize hb1 : w4.heap.size = b1 at *
  generalize hl1 : w3.heap.size = lo1 at *
  clear hb1 hl1 HS1
  have HORD0' := K15.out.u.lt
  refine (rat.calls Ar c start rule rs inp at_ D S w5 (Kd.C_below HR.out L5.out.bel) HC.out HBB.out).mono ?_
  rintro e w6 hans
  obtain ⟨A3, c3, rfl, hbw, hown3⟩ := RunAns.at HQ.out.1 HQ.out.2 hans
  clear hans
  have HORD0 : Hid (b1 + 1 < w6.heap.size) := Nat.lt_of_lt_of_le HORD0' hbw.size
  clear HORD0'
  have HS3 : Hid (w.heap.size ≤ w5.heap.size ∧ w5.heap.size ≤ w6.heap.size) := ⟨L5.out.bel.size, hbw.size⟩
  have L6 := Lib.hid (L5.out.below hbw)
  have O6 := Lib.hid (O5.out.below hbw)
  have K16 := Lib.hid (K15.out.below hbw)
  clear L5 O5 K15
  clear hbw
  dsimp only
  have HK' : ∀ wz : World, wz = (w6.alloc (.cells #[.int .i64 k, .int .i64 (en : Nat), .string lb, .slice A3 F.length c3] 31)).alloc (.cells #[.int .i64 (dp : Nat), .int .i64 (st : Nat)] 32) → Hid (Below w6.heap.size w6 wz ∧ KA wz w6.heap.size w5.heap.size w6.heap.size k en lb (.slice A3 F.length c3) dp st F) := by
    rintro wz rfl
    exact ⟨two_below w6 k en lb (.slice A3 F.length c3) dp st, KA.start hown3⟩
  have u10 : ((w6.alloc (.cells #[.int .i64 k, .int .i64 (en : Nat), .string lb, .slice A3 F.length c3] 31)).alloc (.cells #[.int .i64 (dp : Nat), .int .i64 (st : Nat)] 32)).cell? ⟨b1 + 1, 0, none⟩ = some (.int .i64 (dp : Nat)) := (K16.out.below (HK' _ rfl).out.1).u.cell 0
  have u11 : ((w6.alloc (.cells #[.int .i64 k, .int .i64 (en : Nat), .string lb, .slice A3 F.length c3] 31)).alloc (.cells #[.int .i64 (dp : Nat), .int .i64 (st : Nat)] 32)).cell? ⟨b1 + 1, 1, none⟩ = some (.int .i64 (st : Nat)) := (K16.out.below (HK' _ rfl).out.1).u.cell 1
  have x10 : ((w6.alloc (.cells #[.int .i64 k, .int .i64 (en : Nat), .string lb, .slice A3 F.length c3] 31)).alloc (.cells #[.int .i64 (dp : Nat), .int .i64 (st : Nat)] 32)).cell? ⟨b1, 0, none⟩ = some (.int .i64 k) := (K16.out.below (HK' _ rfl).out.1).c.cell 0
  have x11 : ((w6.alloc (.cells #[.int .i64 k, .int .i64 (en : Nat), .string lb, .slice A3 F.length c3] 31)).alloc (.cells #[.int .i64 (dp : Nat), .int .i64 (st : Nat)] 32)).cell? ⟨b1, 1, none⟩ = some (.int .i64 (en : Nat)) := (K16.out.below (HK' _ rfl).out.1).c.cell 1
  have x12 : ((w6.alloc (.cells #[.int .i64 k, .int .i64 (en : Nat), .string lb, .slice A3 F.length c3] 31)).alloc (.cells #[.int .i64 (dp : Nat), .int .i64 (st : Nat)] 32)).cell? ⟨b1, 2, none⟩ = some (.string lb) := (K16.out.below (HK' _ rfl).out.1).c.cell 2
  have x13 : ((w6.alloc (.cells #[.int .i64 k, .int .i64 (en : Nat), .string lb, .slice A3 F.length c3] 31)).alloc (.cells #[.int .i64 (dp : Nat), .int .i64 (st : Nat)] 32)).cell? ⟨b1, 3, none⟩ = some (.slice A1 F.length c1) := (K16.out.below (HK' _ rfl).out.1).c.cell 3
  have u30 : ((w6.alloc (.cells #[.int .i64 k, .int .i64 (en : Nat), .string lb, .slice A3 F.length c3] 31)).alloc (.cells #[.int .i64 (dp : Nat), .int .i64 (st : Nat)] 32)).cell? ⟨w6.heap.size + 1, 0, none⟩ = some (.int .i64 (dp : Nat)) := (HK' _ rfl).out.2.u.cell 0
  have u31 : ((w6.alloc (.cells #[.int .i64 k, .int .i64 (en : Nat), .string lb, .slice A3 F.length c3] 31)).alloc (.cells #[.int .i64 (dp : Nat), .int .i64 (st : Nat)] 32)).cell? ⟨w6.heap.size + 1, 1, none⟩ = some (.int .i64 (st : Nat)) := (HK' _ rfl).out.2.u.cell 1
  have x30 : ((w6.alloc (.cells #[.int .i64 k, .int .i64 (en : Nat), .string lb, .slice A3 F.length c3] 31)).alloc (.cells #[.int .i64 (dp : Nat), .int .i64 (st : Nat)] 32)).cell? ⟨w6.heap.size, 0, none⟩ = some (.int .i64 k) := (HK' _ rfl).out.2.c.cell 0
  have x31 : ((w6.alloc (.cells #[.int .i64 k, .int .i64 (en : Nat), .string lb, .slice A3 F.length c3] 31)).alloc (.cells #[.int .i64 (dp : Nat), .int .i64 (st : Nat)] 32)).cell? ⟨w6.heap.size, 1, none⟩ = some (.int .i64 (en : Nat)) := (HK' _ rfl).out.2.c.cell 1
  have x32 : ((w6.alloc (.cells #[.int .i64 k, .int .i64 (en : Nat), .string lb, .slice A3 F.length c3] 31)).alloc (.cells #[.int .i64 (dp : Nat), .int .i64 (st : Nat)] 32)).cell? ⟨w6.heap.size, 2, none⟩ = some (.string lb) := (HK' _ rfl).out.2.c.cell 2
  have x33 : ((w6.alloc (.cells #[.int .i64 k, .int .i64 (en : Nat), .string lb, .slice A3 F.length c3] 31)).alloc (.cells #[.int .i64 (dp : Nat), .int .i64 (st : Nat)] 32)).cell? ⟨w6.heap.size, 3, none⟩ = some (.slice A3 F.length c3) := (HK' _ rfl).out.2.c.cell 3
  go_wp2_with (fail)
  clear hown3 u10 u11 x10 x11 x12 x13 u30 u31 x30 x31 x32 x33
  generalize hw7 : (w6.alloc (.cells #[.int .i64 k, .int .i64 (en : Nat), .string lb, .slice A3 F.length c3] 31)).alloc (.cells #[.int .i64 (dp : Nat), .int .i64 (st : Nat)] 32) = w7
  have HKK := HK' w7 hw7.symm
  clear HK' hw7
  have L7 := Lib.hid (L6.out.below HKK.out.1)
  have O7 := Lib.hid (O6.out.below HKK.out.1)
  have K17 := Lib.hid (K16.out.below HKK.out.1)
  clear L6 O6 K16
  have K37 := Lib.hid HKK.out.2
  clear HKK
  have HB3 : Hid (w.heap.size ≤ w5.heap.size ∧ w5.heap.size ≤ w6.heap.size) := HS3.out
  generalize hb3 : w6.heap.size = b3 at *
  generalize hl3 : w5.heap.size = lo3 at *
  have HORD : Hid (b1 + 1 < b3) := HORD0.out
  clear hb3 hl3 HS3 HORD0
  refine (outcomes.calls A1 A3 c1 c3 k en lb F lo1 lo3 w7 K17.out.own K37.out.own (Nat.le_trans HQL.out (by decide))).mono ?_
  rintro e w8 ⟨rfl, hbw⟩
  have L8 := Lib.hid (L7.out.below hbw)
  have O8 := Lib.hid (O7.out.below hbw)
  have K18 := Lib.hid (K17.out.below hbw)
  have K38 := Lib.hid (K37.out.below hbw)
  clear L7 O7 K17 K37
  clear hbw
  dsimp only
  have o0 : w8.cell? ⟨ob, 0, none⟩ = some (.slice (some ⟨br, 0, none⟩) rs.length (rs.length + 1)) := O8.out.box.cell 0
  have o1 : w8.cell? ⟨ob, 1, none⟩ = some (.int .i64 start) := O8.out.box.cell 1
  have a0 : w8.cell? ⟨w.heap.size, 0, none⟩ = some (.slice Ar rs.length c) := L8.out.b0.cell 0
  have a1 : w8.cell? ⟨w.heap.size, 1, none⟩ = some (.int .i64 start) := L8.out.b0.cell 1
  go_wp2_with (fail)
  clear o0 o1 a0 a1
  refine (KeptCore.calls br _ Q Ar c start rs w8 O8.out.core (Kd.C_below HR.out L8.out.bel) HC.out HM.out.1 HM.out.2).mono ?_
  rintro e w9 ⟨rfl, hbw⟩
  have L9 := Lib.hid (L8.out.below hbw)
  have O9 := Lib.hid (O8.out.below hbw)
  have K19 := Lib.hid (K18.out.below hbw)
  have K39 := Lib.hid (K38.out.below hbw)
  clear L8 O8 K18 K38
  clear hbw
  dsimp only
  by_cases her : er = 0
  rotate_left
  · have herb : (er == (0 : Int)) = false := beq_eq_false_iff_ne.2 her
    go_wp2
    go_ret
    exact ⟨rfl, L9.out.bel⟩
  have herb : (er == (0 : Int)) = true := by rw [her]; rfl
  have hcat : ∀ wq : World, (Op.stringOp .add inp ⟨#[97]⟩).run Try.prog wq = .ok (.string (inp ++ ⟨#[97]⟩)) wq := fun wq => run_string_add_sum wq inp ⟨#[97]⟩ (by have : (⟨#[97]⟩ : ByteArray).size = 1 := rfl; omega)
  clear hi
  have o0 : w9.cell? ⟨ob, 0, none⟩ = some (.slice (some ⟨br, 0, none⟩) rs.length (rs.length + 1)) := O9.out.box.cell 0
  have o1 : w9.cell? ⟨ob, 1, none⟩ = some (.int .i64 start) := O9.out.box.cell 1
  have d0 : w9.cell? ⟨w.heap.size + 1, 0, none⟩ = some (.int .i64 D) := L9.out.b1.cell 0
  have d1 : w9.cell? ⟨w.heap.size + 1, 1, none⟩ = some (.int .i64 S) := L9.out.b1.cell 1
  go_wp2_with (fail)
  clear o0 o1 d0 d1
  refine (mrun.calls (some ⟨br, 0, none⟩) (rs.length + 1) start rs _ D S w9 (O9.out.core.C HM.out.1 HM.out.2) (by omega) HBB.out).mono ?_
  rintro e w10 ⟨v10, rfl, hbw, _⟩
  have L10 := Lib.hid (L9.out.below hbw)
  have O10 := Lib.hid (O9.out.below hbw)
  have K110 := Lib.hid (K19.out.below hbw)
  have K310 := Lib.hid (K39.out.below hbw)
  clear L9 O9 K19 K39
  clear hbw
  dsimp only
  have o0 : w10.cell? ⟨ob, 0, none⟩ = some (.slice (some ⟨br, 0, none⟩) rs.length (rs.length + 1)) := O10.out.box.cell 0
  have o1 : w10.cell? ⟨ob, 1, none⟩ = some (.int .i64 start) := O10.out.box.cell 1
  have d0 : w10.cell? ⟨w.heap.size + 1, 0, none⟩ = some (.int .i64 D) := L10.out.b1.cell 0
  have d1 : w10.cell? ⟨w.heap.size + 1, 1, none⟩ = some (.int .i64 S) := L10.out.b1.cell 1
  go_wp2_with (fail)
  clear o0 o1 d0 d1
  refine (mat.calls (some ⟨br, 0, none⟩) (rs.length + 1) start rule rs inp at_ D S w10 (O10.out.core.C HM.out.1 HM.out.2) (by omega) HBB.out).mono ?_
  rintro e w11 hans
  obtain ⟨A2, c2, rfl, hbw, hown2⟩ := RunAns.at HQ.out.1 HQ.out.2 hans
  clear hans
  have L11 := Lib.hid (L10.out.below hbw)
  have O11 := Lib.hid (O10.out.below hbw)
  have K111 := Lib.hid (K110.out.below hbw)
  have K311 := Lib.hid (K310.out.below hbw)
  clear L10 O10 K110 K310
  clear hbw
  dsimp only
  have HK' : ∀ wz : World, wz = ((w11.alloc (.cells #[.int .i64 k, .int .i64 (en : Nat), .string lb, .slice A2 F.length c2] 31)).setCell ⟨b1 + 1, 0, none⟩ (.int .i64 (dp : Nat))).setCell ⟨b1 + 1, 1, none⟩ (.int .i64 (st : Nat)) → Hid (Below w.heap.size w wz ∧ Blk wz w11.heap.size 31 (rsC k en lb (.slice A2 F.length c2)) ∧ OwnF wz w10.heap.size (.slice A2 F.length c2) F ∧ KA wz b3 lo3 b3 k en lb (.slice A3 F.length c3) dp st F ∧ Blk wz (b1 + 1) 32 [.int .i64 (dp : Nat), .int .i64 (st : Nat)]) := by
    rintro wz rfl
    have g1 := World.grownBy_alloc w11 (.cells #[.int .i64 k, .int .i64 (en : Nat), .string lb, .slice A2 F.length c2] 31) none
    have k1 := K111.out.u.grown g1 (by simp)
    have g2 : (w11.alloc (.cells #[.int .i64 k, .int .i64 (en : Nat), .string lb, .slice A2 F.length c2] 31)).grownBy (((w11.alloc (.cells #[.int .i64 k, .int .i64 (en : Nat), .string lb, .slice A2 F.length c2] 31)).setCell ⟨b1 + 1, 0, none⟩ (.int .i64 (dp : Nat))).setCell ⟨b1 + 1, 1, none⟩ (.int .i64 (st : Nat))) (some (b1 + 1)) := Fr4.grown2 (grown_setCell _ _ _) (grown_setCell _ _ _)
    have hlt := K111.out.u.lt
    have hor := HORD.out
    have hb1 := HB1.out
    have o2 : OwnF (w11.alloc (.cells #[.int .i64 k, .int .i64 (en : Nat), .string lb, .slice A2 F.length c2] 31)) w10.heap.size (.slice A2 F.length c2) F := hown2.more g1
    refine ⟨(L11.out.bel.grown g1 L11.out.bel.size (by simp)).grown g2 (by have := L11.out.bel.size; have := g1.size; omega) (fun q hq => by injection hq with hq; omega), (Blk.alloc w11 #[.int .i64 k, .int .i64 (en : Nat), .string lb, .slice A2 F.length c2] 31).grown g2 (by intro e; injection e with e; omega), o2.kept g2 k1 (by decide), ⟨?_, ?_, ?_, K311.out.hi⟩, ?_⟩
    · exact (K311.out.c.grown g1 (by simp)).grown g2 (by intro e; injection e with e; omega)
    · exact (K311.out.u.grown g1 (by simp)).grown g2 (by intro e; injection e with e; omega)
    · exact (K311.out.own.more g1).kept g2 k1 (by decide)
    · exact (k1.setCell 0 _).setCell 1 _
  have hk1 := K111.out.u.grown (World.grownBy_alloc w11 (.cells #[.int .i64 k, .int .i64 (en : Nat), .string lb, .slice A2 F.length c2] 31) none) (by simp)
  have f0 := hk1.frozen 0
  have f1 := hk1.frozen 1
  have y0 : (w11.alloc (.cells #[.int .i64 k, .int .i64 (en : Nat), .string lb, .slice A2 F.length c2] 31)).cell? ⟨b1 + 1, 0, none⟩ = some (.int .i64 (dp : Nat)) := hk1.cell 0
  have y1 : (w11.alloc (.cells #[.int .i64 k, .int .i64 (en : Nat), .string lb, .slice A2 F.length c2] 31)).cell? ⟨b1 + 1, 1, none⟩ = some (.int .i64 (st : Nat)) := hk1.cell 1
  clear hk1
  have u10 : (((w11.alloc (.cells #[.int .i64 k, .int .i64 (en : Nat), .string lb, .slice A2 F.length c2] 31)).setCell ⟨b1 + 1, 0, none⟩ (.int .i64 (dp : Nat))).setCell ⟨b1 + 1, 1, none⟩ (.int .i64 (st : Nat))).cell? ⟨b1 + 1, 0, none⟩ = some (.int .i64 (dp : Nat)) := (HK' _ rfl).out.2.2.2.2.cell 0
  have u11 : (((w11.alloc (.cells #[.int .i64 k, .int .i64 (en : Nat), .string lb, .slice A2 F.length c2] 31)).setCell ⟨b1 + 1, 0, none⟩ (.int .i64 (dp : Nat))).setCell ⟨b1 + 1, 1, none⟩ (.int .i64 (st : Nat))).cell? ⟨b1 + 1, 1, none⟩ = some (.int .i64 (st : Nat)) := (HK' _ rfl).out.2.2.2.2.cell 1
  have u30 : (((w11.alloc (.cells #[.int .i64 k, .int .i64 (en : Nat), .string lb, .slice A2 F.length c2] 31)).setCell ⟨b1 + 1, 0, none⟩ (.int .i64 (dp : Nat))).setCell ⟨b1 + 1, 1, none⟩ (.int .i64 (st : Nat))).cell? ⟨b3 + 1, 0, none⟩ = some (.int .i64 (dp : Nat)) := (HK' _ rfl).out.2.2.2.1.u.cell 0
  have u31 : (((w11.alloc (.cells #[.int .i64 k, .int .i64 (en : Nat), .string lb, .slice A2 F.length c2] 31)).setCell ⟨b1 + 1, 0, none⟩ (.int .i64 (dp : Nat))).setCell ⟨b1 + 1, 1, none⟩ (.int .i64 (st : Nat))).cell? ⟨b3 + 1, 1, none⟩ = some (.int .i64 (st : Nat)) := (HK' _ rfl).out.2.2.2.1.u.cell 1
  have x20 : (((w11.alloc (.cells #[.int .i64 k, .int .i64 (en : Nat), .string lb, .slice A2 F.length c2] 31)).setCell ⟨b1 + 1, 0, none⟩ (.int .i64 (dp : Nat))).setCell ⟨b1 + 1, 1, none⟩ (.int .i64 (st : Nat))).cell? ⟨w11.heap.size, 0, none⟩ = some (.int .i64 k) := (HK' _ rfl).out.2.1.cell 0
  have x21 : (((w11.alloc (.cells #[.int .i64 k, .int .i64 (en : Nat), .string lb, .slice A2 F.length c2] 31)).setCell ⟨b1 + 1, 0, none⟩ (.int .i64 (dp : Nat))).setCell ⟨b1 + 1, 1, none⟩ (.int .i64 (st : Nat))).cell? ⟨w11.heap.size, 1, none⟩ = some (.int .i64 (en : Nat)) := (HK' _ rfl).out.2.1.cell 1
  have x22 : (((w11.alloc (.cells #[.int .i64 k, .int .i64 (en : Nat), .string lb, .slice A2 F.length c2] 31)).setCell ⟨b1 + 1, 0, none⟩ (.int .i64 (dp : Nat))).setCell ⟨b1 + 1, 1, none⟩ (.int .i64 (st : Nat))).cell? ⟨w11.heap.size, 2, none⟩ = some (.string lb) := (HK' _ rfl).out.2.1.cell 2
  have x23 : (((w11.alloc (.cells #[.int .i64 k, .int .i64 (en : Nat), .string lb, .slice A2 F.length c2] 31)).setCell ⟨b1 + 1, 0, none⟩ (.int .i64 (dp : Nat))).setCell ⟨b1 + 1, 1, none⟩ (.int .i64 (st : Nat))).cell? ⟨w11.heap.size, 3, none⟩ = some (.slice A2 F.length c2) := (HK' _ rfl).out.2.1.cell 3
  have x30 : (((w11.alloc (.cells #[.int .i64 k, .int .i64 (en : Nat), .string lb, .slice A2 F.length c2] 31)).setCell ⟨b1 + 1, 0, none⟩ (.int .i64 (dp : Nat))).setCell ⟨b1 + 1, 1, none⟩ (.int .i64 (st : Nat))).cell? ⟨b3, 0, none⟩ = some (.int .i64 k) := (HK' _ rfl).out.2.2.2.1.c.cell 0
  have x31 : (((w11.alloc (.cells #[.int .i64 k, .int .i64 (en : Nat), .string lb, .slice A2 F.length c2] 31)).setCell ⟨b1 + 1, 0, none⟩ (.int .i64 (dp : Nat))).setCell ⟨b1 + 1, 1, none⟩ (.int .i64 (st : Nat))).cell? ⟨b3, 1, none⟩ = some (.int .i64 (en : Nat)) := (HK' _ rfl).out.2.2.2.1.c.cell 1
  have x32 : (((w11.alloc (.cells #[.int .i64 k, .int .i64 (en : Nat), .string lb, .slice A2 F.length c2] 31)).setCell ⟨b1 + 1, 0, none⟩ (.int .i64 (dp : Nat))).setCell ⟨b1 + 1, 1, none⟩ (.int .i64 (st : Nat))).cell? ⟨b3, 2, none⟩ = some (.string lb) := (HK' _ rfl).out.2.2.2.1.c.cell 2
  have x33 : (((w11.alloc (.cells #[.int .i64 k, .int .i64 (en : Nat), .string lb, .slice A2 F.length c2] 31)).setCell ⟨b1 + 1, 0, none⟩ (.int .i64 (dp : Nat))).setCell ⟨b1 + 1, 1, none⟩ (.int .i64 (st : Nat))).cell? ⟨b3, 3, none⟩ = some (.slice A3 F.length c3) := (HK' _ rfl).out.2.2.2.1.c.cell 3
  clear hown2
  go_wp2_with (fail)
  clear f0 f1 y0 y1 u10 u11 u30 u31 x20 x21 x22 x23 x30 x31 x32 x33
  generalize hw12 : ((w11.alloc (.cells #[.int .i64 k, .int .i64 (en : Nat), .string lb, .slice A2 F.length c2] 31)).setCell ⟨b1 + 1, 0, none⟩ (.int .i64 (dp : Nat))).setCell ⟨b1 + 1, 1, none⟩ (.int .i64 (st : Nat)) = w12
  have HKK := HK' w12 hw12.symm
  clear HK' hw12
  refine (outcomes.calls A2 A3 c2 c3 k en lb F _ _ w12 HKK.out.2.2.1 HKK.out.2.2.2.1.own (Nat.le_trans HQL.out (by decide))).mono ?_
  rintro e w13 ⟨rfl, hbw⟩
  have HE : Hid (Below w.heap.size w w13) := HKK.out.1.trans (hbw.mono HKK.out.1.size)
  clear hbw HKK
  dsimp only
  go_wp2
  go_ret
  exact ⟨rfl, HE.out⟩
end Go.Proofs.Ytmpkkphohilkoaa.B
