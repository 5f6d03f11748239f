/- script.Check. -/
import Derived.Test.YtmikgaphknbcaaaCCheckm
namespace Go.Proofs.Ytmikgaphknbcaaa.B
open Go Go.RowKit Go.X Go.Proofs.YtmikgaphknbcaaaW.PrintWords Go.Proofs.Ytmikgaphknbcaaa.F

def useOK (u : S69) : Bool := decide (ownOK u.f0 = true ∧ 1 ≤ u.f1.size ∧ u.f1.size ≤ 64)
def ruleOK (x : S34) : Bool := headOK x && shapedOK x.f2
def deepOK (x : S34) : Bool := decide (nestOf x.f2 ≤ 100)
def checkCode (us : List S69) (rs : List S34) : Int :=
  if tooLong us rs = true then 1 else if rs.length = 0 then 6 else if us.all useOK = false then 6 else if rs.all ruleOK = false then 6 else if rs.all deepOK = false then 3 else 0
/-- The texts of a grammar are texts. -/
def GramTexts (us : List S69) (rs : List S34) : Prop := (∀ u ∈ us, u.f0.size ≤ 9223372036854775807 ∧ u.f1.size ≤ 9223372036854775807) ∧ ∀ x ∈ rs, ParFit x.f1 ∧ TextsFit x.f2
theorem drop_use {us : List S69} {k : Nat} (h : k < us.length) : us.drop k = ul us k :: us.drop (k + 1) := by
  rw [List.drop_eq_getElem_cons h, ul, List.getD_eq_getElem?_getD, List.getElem?_eq_getElem h]; rfl
theorem ul_mem {us : List S69} {k : Nat} (h : k < us.length) : ul us k ∈ us := by rw [ul, List.getD_eq_getElem?_getD, List.getElem?_eq_getElem h]; exact List.getElem_mem h
/-- One step of a loop that asks p of each. -/
theorem all_step {α : Type} {l : List α} {p : α → Bool} {k : Nat} {x : α} (h : l.drop k = x :: l.drop (k + 1)) (hk : (l.drop k).all p = l.all p) :
    (p x = true → (l.drop (k + 1)).all p = l.all p) ∧ (p x = false → l.all p = false) := by
  rw [h, List.all_cons] at hk
  exact ⟨fun h => by rw [h] at hk; exact hk, fun h => by rw [h] at hk; exact hk.symm⟩
theorem all_done {α : Type} {l : List α} {p : α → Bool} {k : Nat} (hk : (l.drop k).all p = l.all p) (h : l.length ≤ k) : l.all p = true := by
  rw [List.drop_of_length_le h] at hk
  exact hk.symm
theorem short_len {us : List S69} {rs : List S34} (h : tooLong us rs = false) : ∀ x ∈ rs, x.f2.length ≤ 4096 := by
  rw [tooLong, decide_eq_false_iff_not] at h
  have ht : total rs ≤ 4096 := by omega
  clear h
  induction rs with
  | nil => intro x hx; cases hx
  | cons y r ih =>
    rw [total] at ht
    intro x hx
    rcases List.mem_cons.1 hx with rfl | hx
    · omega
    · exact ih (by omega) x hx
set_option maxRecDepth 100000 in
set_option maxHeartbeats 4000000 in
theorem Check.calls (Au Ar : Option Addr) (cu cr : Nat) (us : List S69) (rs : List S34) (w : World) (hu : Kd.C k69 w Au us.length us) (hr : Kd.C k34 w Ar rs.length rs) (hok : GramOK us rs) (ht : GramTexts us rs) :
    Calls Try.prog 29 #[.agg #[.slice Au us.length cu, .slice Ar rs.length cr]] w fun e w' => e = .returned (.int .i64 (checkCode us rs)) ∧ Below w.heap.size w w' := by
  have HU := Lib.hid hu; clear hu
  have HR := Lib.hid hr; clear hr
  have HOK := Lib.hid hok; clear hok
  have HT := Lib.hid ht; clear ht
  have m1 := HOK.out.1
  have m2 := HOK.out.2.1
  go_enter Try.func29, Try.ntmps29
  go_wp2_with (fail)
  have HB : Hid (Below w.heap.size w (w.alloc (.cells #[.slice Au us.length cu, .slice Ar rs.length cr] 26)) ∧ Blk (w.alloc (.cells #[.slice Au us.length cu, .slice Ar rs.length cr] 26)) w.heap.size 26 [.slice Au us.length cu, .slice Ar rs.length cr]) :=
    ⟨(Below.refl _ w).alloc (Nat.le_refl _) _, Blk.alloc w _ _⟩
  generalize w.alloc (.cells #[.slice Au us.length cu, .slice Ar rs.length cr] 26) = wa at *
  refine (long.calls Au Ar cu cr us rs wa (Kd.C_below HR.out HB.out.1) HOK.out).mono ?_
  rintro e w1 ⟨rfl, hb⟩
  have HB1 : Hid (Below w.heap.size w w1 ∧ Blk w1 w.heap.size 26 [.slice Au us.length cu, .slice Ar rs.length cr]) :=
    ⟨HB.out.1.trans (hb.mono HB.out.1.size), HB.out.2.below hb HB.out.2.lt⟩
  clear hb HB
  dsimp only
  cases hl : tooLong us rs
  case true =>
    have HV : Hid (checkCode us rs = 1) := by show _ = _; rw [checkCode, if_pos hl]
    clear hl
    go_wp2
    go_ret
    exact ⟨by rw [HV.out]; rfl, HB1.out.1⟩
  have HS := Lib.hid (short_len hl)
  have HC : Hid (checkCode us rs = if rs.length = 0 then 6 else if us.all useOK = false then 6 else if rs.all ruleOK = false then 6 else if rs.all deepOK = false then 3 else 0) := by
    show _ = _; rw [checkCode, if_neg (by rw [hl]; decide)]
  clear hl
  have a0 : w1.cell? ⟨w.heap.size, 0, none⟩ = some (.slice Au us.length cu) := HB1.out.2.cell 0
  have a1 : w1.cell? ⟨w.heap.size, 1, none⟩ = some (.slice Ar rs.length cr) := HB1.out.2.cell 1
  by_cases h0 : rs.length = 0
  · have HV : Hid (checkCode us rs = 6) := by have := HC.out; rw [if_pos h0] at this; exact this
    have h0' : ((rs.length : Int) == 0) = true := by simp [h0]
    clear h0
    go_wp2
    go_ret
    exact ⟨by rw [HV.out]; rfl, HB1.out.1⟩
  have h0' : ((rs.length : Int) == 0) = false := by rw [beq_eq_false_iff_ne]; omega
  have HC2 : Hid (checkCode us rs = if us.all useOK = false then 6 else if rs.all ruleOK = false then 6 else if rs.all deepOK = false then 3 else 0) := by have := HC.out; rw [if_neg h0] at this; exact this
  clear HC
  have HN := Lib.hid h0; clear h0
  go_wp2
  clear a0 a1 h0'
  go_loopg [18] us.length (fun q v wr => ∃ k : Nat, q + k = us.length ∧ v = .int .i64 k ∧ Hid ((us.drop k).all useOK = us.all useOK) ∧ Hid (Below w.heap.size w wr ∧ Blk wr w.heap.size 26 [.slice Au us.length cu, .slice Ar rs.length cr]))
  case atStart => exact ⟨0, by simp, rfl, rfl, HB1⟩
  case round =>
    clear HB1
    obtain ⟨k, hk, rfl, HM, HW⟩ := hrel
    by_cases hlt : k < us.length
    · have HST := Lib.hid (all_step (drop_use hlt) HM.out)
      have HX := Lib.hid (HT.out.1 _ (ul_mem hlt))
      clear HM
      obtain ⟨ad, eA, c0, c1⟩ := use_at (Kd.C_below HU.out HW.out.1) k hlt
      subst eA
      generalize ul us k = u at *
      go_wp2_with (fail)
      clear c0 c1
      have HB2 : Hid (Below w.heap.size w (wr.alloc (.cells #[.string u.f0, .string u.f1] 69)) ∧ Blk (wr.alloc (.cells #[.string u.f0, .string u.f1] 69)) w.heap.size 26 [.slice (some ad) us.length cu, .slice Ar rs.length cr]) :=
        ⟨HW.out.1.alloc HW.out.1.size _, HW.out.2.grown (World.grownBy_alloc _ _ none) (by simp)⟩
      refine (ownText.calls u.f0 _ HX.out.1).mono ?_
      rintro e w2 ⟨rfl, rfl⟩
      dsimp only
      have HNO : Hid (useOK u = false → checkCode us rs = 6) := fun h => by have := HC2.out; rw [if_pos (HST.out.2 h)] at this; exact this
      cases ho : ownOK u.f0
      · have HV := Lib.hid (HNO.out (by rw [useOK, decide_eq_false_iff_not]; simp [ho]))
        clear ho
        go_wp2
        go_ret
        exact ⟨by rw [HV.out]; rfl, HB2.out.1⟩
      by_cases h1 : u.f1.size < 1
      · have HV := Lib.hid (HNO.out (by rw [useOK, decide_eq_false_iff_not]; omega))
        have h1' : (u.f1.size : Int) < 1 := by omega
        clear ho
        go_wp2
        go_ret
        exact ⟨by rw [HV.out]; rfl, HB2.out.1⟩
      have h1' : ¬ (u.f1.size : Int) < 1 := by omega
      by_cases h2 : 64 < u.f1.size
      · have HV := Lib.hid (HNO.out (by rw [useOK, decide_eq_false_iff_not]; omega))
        have h2' : (64 : Int) < (u.f1.size : Int) := by omega
        clear ho
        go_wp2
        go_ret
        exact ⟨by rw [HV.out]; rfl, HB2.out.1⟩
      have h2' : ¬ (64 : Int) < (u.f1.size : Int) := by omega
      have HV := Lib.hid (HST.out.1 (by rw [useOK, decide_eq_true_iff]; exact ⟨ho, by omega, by omega⟩))
      clear ho
      go_wp2
      go_roundg (us.length - (k + 1))
      case measure => omega
      case rel => exact ⟨k + 1, by omega, by first | rfl | (rw [IntWalk.wrap64_in _ (by omega)]; rfl), HV, HB2⟩
    · have HC3 : Hid (checkCode us rs = if rs.all ruleOK = false then 6 else if rs.all deepOK = false then 3 else 0) := by have := HC2.out; rw [if_neg (by rw [all_done HM.out (by omega)]; decide)] at this; exact this
      have a1 : wr.cell? ⟨w.heap.size, 1, none⟩ = some (.slice Ar rs.length cr) := HW.out.2.cell 1
      clear HC2 HM
      go_wp2
      clear a1
      go_loopg [42] rs.length (fun q v wr => ∃ k : Nat, q + k = rs.length ∧ v = .int .i64 k ∧ Hid ((rs.drop k).all ruleOK = rs.all ruleOK) ∧ Hid (Below w.heap.size w wr ∧ Blk wr w.heap.size 26 [.slice Au us.length cu, .slice Ar rs.length cr]))
      case atStart => exact ⟨0, by simp, rfl, rfl, HW⟩
      case round =>
        clear HW hlt hk
        rename World => wo
        obtain ⟨k, hk, rfl, HM, HW⟩ := hrel
        by_cases hlt : k < rs.length
        · have HST := Lib.hid (all_step (drop_rule hlt) HM.out)
          have HX := Lib.hid (HT.out.2 _ (rl_mem hlt))
          have HSX := Lib.hid (HS.out _ (rl_mem hlt))
          clear HM
          obtain ⟨ad, A1, c1, A2, c2, eA, e0, e1, e2, l1, g1, l2, g2⟩ := rule_at (Kd.C_below HR.out HW.out.1) k hlt
          subst eA
          generalize rl rs k = x at *
          have L1 := Lib.hid l1; clear l1 l2
          have G1 := Lib.hid g1; clear g1
          have G2 := Lib.hid g2; clear g2
          go_wp2_with (fail)
          clear e0 e1 e2
          have HA : Hid (Below wo.heap.size wo (wo.alloc (.cells #[.string x.f0, .slice A1 x.f1.length c1, .slice A2 x.f2.length c2] 34)) ∧ Blk (wo.alloc (.cells #[.string x.f0, .slice A1 x.f1.length c1, .slice A2 x.f2.length c2] 34)) wo.heap.size 34 [.string x.f0, .slice A1 x.f1.length c1, .slice A2 x.f2.length c2]) :=
            ⟨(Below.refl _ wo).alloc (Nat.le_refl _) _, Blk.alloc wo _ _⟩
          generalize wo.alloc (.cells #[.string x.f0, .slice A1 x.f1.length c1, .slice A2 x.f2.length c2] 34) = wb at *
          refine (headed.calls x A1 A2 c1 x.f2.length c2 wb (Kd.C_below G1.out HA.out.1) L1.out HX.out.1).mono ?_
          rintro e w2 ⟨rfl, hb⟩
          have HB2 : Hid (Below wo.heap.size wo w2 ∧ Blk w2 wo.heap.size 34 [.string x.f0, .slice A1 x.f1.length c1, .slice A2 x.f2.length c2]) :=
            ⟨HA.out.1.trans (hb.mono HA.out.1.size), HA.out.2.below hb HA.out.2.lt⟩
          clear hb HA
          dsimp only
          have HNO : Hid (ruleOK x = false → checkCode us rs = 6) := fun h => by have := HC3.out; rw [if_pos (HST.out.2 h)] at this; exact this
          cases ho : headOK x
          · have HV := Lib.hid (HNO.out (by rw [ruleOK, ho]; rfl))
            clear ho
            go_wp2
            go_ret
            exact ⟨by rw [HV.out]; rfl, HW.out.1.trans (HB2.out.1.mono HW.out.1.size)⟩
          have HO := Lib.hid ho; clear ho
          have d2 : w2.cell? ⟨wo.heap.size, 2, none⟩ = some (.slice A2 x.f2.length c2) := HB2.out.2.cell 2
          go_wp2_with (fail)
          refine (shaped.calls A2 c2 x.f2 w2 (Kd.C_below G2.out HB2.out.1) HX.out.2 (by have := HSX.out; omega)).mono ?_
          rintro e w3 ⟨rfl, hb⟩
          have HB3 : Hid (Below w.heap.size w w3 ∧ Blk w3 w.heap.size 26 [.slice Au us.length cu, .slice (some ad) rs.length cr]) :=
            ⟨HW.out.1.trans ((HB2.out.1.trans (hb.mono HB2.out.1.size)).mono HW.out.1.size), (HW.out.2.below HB2.out.1 HW.out.2.lt).below hb (Nat.lt_of_lt_of_le HW.out.2.lt HB2.out.1.size)⟩
          clear hb HB2 d2
          dsimp only
          cases hs : shapedOK x.f2
          · have HV := Lib.hid (HNO.out (by rw [ruleOK, hs, Bool.and_false]))
            clear hs
            go_wp2
            go_ret
            exact ⟨by rw [HV.out]; rfl, HB3.out.1⟩
          · have HV := Lib.hid (HST.out.1 (by rw [ruleOK, HO.out, hs]; rfl))
            clear hs
            go_wp2
            go_roundg (rs.length - (k + 1))
            case measure => omega
            case rel => exact ⟨k + 1, by omega, by first | rfl | (rw [IntWalk.wrap64_in _ (by omega)]; rfl), HV, HB3⟩
        · have HC4 : Hid (checkCode us rs = if rs.all deepOK = false then 3 else 0) := by have := HC3.out; rw [if_neg (by rw [all_done HM.out (by omega)]; decide)] at this; exact this
          have a1 : wo.cell? ⟨w.heap.size, 1, none⟩ = some (.slice Ar rs.length cr) := HW.out.2.cell 1
          clear HC3 HM
          go_wp2
          clear a1
          go_loopg [59] rs.length (fun q v wr => ∃ k : Nat, q + k = rs.length ∧ v = .int .i64 k ∧ Hid ((rs.drop k).all deepOK = rs.all deepOK) ∧ Hid (Below w.heap.size w wr))
          case atStart => exact ⟨0, by simp, rfl, rfl, HW.out.1⟩
          case round =>
            clear HW hlt hk
            rename World => wz
            obtain ⟨k, hk, rfl, HM, HW⟩ := hrel
            by_cases hlt : k < rs.length
            · have HST := Lib.hid (all_step (drop_rule hlt) HM.out)
              have HSX := Lib.hid (HS.out _ (rl_mem hlt))
              clear HM
              obtain ⟨ad, A1, c1, A2, c2, eA, e0, e1, e2, l1, g1, l2, g2⟩ := rule_at (Kd.C_below HR.out HW.out) k hlt
              subst eA
              generalize rl rs k = x at *
              clear l1 l2 g1
              have G2 := Lib.hid g2; clear g2
              go_wp2_with (fail)
              clear e0 e1 e2
              have HA : Hid (Below wz.heap.size wz (wz.alloc (.cells #[.string x.f0, .slice A1 x.f1.length c1, .slice A2 x.f2.length c2] 34))) := (Below.refl _ wz).alloc (Nat.le_refl _) _
              refine (Nest.calls A2 c2 x.f2 _ (Kd.C_below G2.out HA.out) (by have := HSX.out; omega)).mono ?_
              rintro e w2 ⟨rfl, hb⟩
              have HB2 : Hid (Below w.heap.size w w2) := HW.out.trans ((HA.out.trans (hb.mono HA.out.size)).mono HW.out.size)
              clear hb HA
              dsimp only
              have HD : Hid (deepOK x = decide (nestOf x.f2 ≤ 100)) := rfl
              generalize nestOf x.f2 = m at *
              by_cases hd : 100 < m
              · have HV : Hid (checkCode us rs = 3) := by have := HC4.out; rw [if_pos (HST.out.2 (by rw [HD.out, decide_eq_false_iff_not]; omega))] at this; exact this
                go_wp2
                go_ret
                exact ⟨by rw [HV.out]; rfl, HB2.out⟩
              · have HV := Lib.hid (HST.out.1 (by rw [HD.out, decide_eq_true_iff]; omega))
                go_wp2
                go_roundg (rs.length - (k + 1))
                case measure => omega
                case rel => exact ⟨k + 1, by omega, by first | rfl | (rw [IntWalk.wrap64_in _ (by omega)]; rfl), HV, HB2⟩
            · have HV : Hid (checkCode us rs = 0) := by have := HC4.out; rw [if_neg (by rw [all_done HM.out (by omega)]; decide)] at this; exact this
              go_wp2
              go_ret
              exact ⟨by rw [HV.out]; rfl, HW.out⟩

set_option maxRecDepth 100000 in
set_option maxHeartbeats 4000000 in
theorem CheckR.calls (Au Ar : Option Addr) (cu cr : Nat) (us : List S69) (rs : List S34) (w : World) (hu : Kd.C k69 w Au us.length us) (hr : Kd.C k34 w Ar rs.length rs) (hok : GramOK us rs) (ht : GramTexts us rs) :
    Calls Try.prog 30 #[.agg #[.slice Au us.length cu, .slice Ar rs.length cr]] w fun e w' => e = .returned (.int .i64 (checkCode us rs)) ∧ Below w.heap.size w w' := by
  have HU := Lib.hid hu; clear hu
  have HR := Lib.hid hr; clear hr
  have HOK := Lib.hid hok; clear hok
  have HT := Lib.hid ht; clear ht
  have m1 := HOK.out.1
  have m2 := HOK.out.2.1
  go_enter Try.func30, Try.ntmps30
  by_cases h1 : 64 < us.length
  · have h1' : (64 : Int) < (us.length : Int) := by omega
    have HV : Hid (checkCode us rs = 1) := by show _ = _; rw [checkCode, if_pos (by rw [tooLong, decide_eq_true_iff]; exact .inl h1)]
    go_wp2
    go_ret
    exact ⟨by rw [HV.out]; rfl, (Below.refl _ w).alloc (Nat.le_refl _) _⟩
  have h1' : ¬ (64 : Int) < (us.length : Int) := by omega
  by_cases h2 : 256 < rs.length
  · have h2' : (256 : Int) < (rs.length : Int) := by omega
    have HV : Hid (checkCode us rs = 1) := by show _ = _; rw [checkCode, if_pos (by rw [tooLong, decide_eq_true_iff]; exact .inr (.inl h2))]
    go_wp2
    go_ret
    exact ⟨by rw [HV.out]; rfl, (Below.refl _ w).alloc (Nat.le_refl _) _⟩
  have h2' : ¬ (256 : Int) < (rs.length : Int) := by omega
  have HL : Hid (tooLong us rs = decide (4096 < total rs)) := by
    show _ = _
    rw [tooLong, Bool.eq_iff_iff]
    simp [h1, h2]
  go_wp2
  clear h1 h1' h2 h2'
  have HB : Hid (Below w.heap.size w (w.alloc (.cells #[.slice Au us.length cu, .slice Ar rs.length cr] 26)) ∧ Blk (w.alloc (.cells #[.slice Au us.length cu, .slice Ar rs.length cr] 26)) w.heap.size 26 [.slice Au us.length cu, .slice Ar rs.length cr]) :=
    ⟨(Below.refl _ w).alloc (Nat.le_refl _) _, Blk.alloc w _ _⟩
  generalize w.alloc (.cells #[.slice Au us.length cu, .slice Ar rs.length cr] 26) = wa at *
  have a0 : wa.cell? ⟨w.heap.size, 0, none⟩ = some (.slice Au us.length cu) := HB.out.2.cell 0
  have a1 : wa.cell? ⟨w.heap.size, 1, none⟩ = some (.slice Ar rs.length cr) := HB.out.2.cell 1
  go_loopg [3, 4] rs.length (fun q s v wr => ∃ (k n : Nat), q + k = rs.length ∧ v = .int .i64 k ∧ s = .int .i64 n ∧ n ≤ 4096 ∧ Hid (total rs = n + total (rs.drop k)) ∧ wr = wa)
  case atStart => exact ⟨0, 0, by simp, rfl, rfl, by omega, by show _ = _; simp, rfl⟩
  case round =>
    obtain ⟨k, n, hk, rfl, rfl, hn, HTT, rfl⟩ := hrel
    by_cases hlt : k < rs.length
    · obtain ⟨ad, A1, c1, A2, c2, eA, e0, e1, e2, l1, g1, l2, g2⟩ := rule_at (Kd.C_below HR.out HB.out.1) k hlt
      subst eA
      have hx := (HOK.out.2.2 _ (rl_mem hlt)).2
      have HT2 := Lib.hid (drop_rule hlt ▸ HTT.out)
      clear l1 l2 g1 g2 HTT
      generalize rl rs k = x at *
      have hw : wrap64 ((n : Int) + (x.f2.length : Int)) = ((n + x.f2.length : Nat) : Int) := by rw [IntWalk.wrap64_in _ (by omega)]; rfl
      by_cases hbig : 4096 < n + x.f2.length
      · have hb' : (4096 : Int) < ((n + x.f2.length : Nat) : Int) := by omega
        have HV : Hid (checkCode us rs = 1) := by
          have := HT2.out
          rw [total] at this
          show _ = _
          rw [checkCode, if_pos (by rw [HL.out, decide_eq_true_iff]; omega)]
        go_wp2
        go_ret
        exact ⟨by rw [HV.out]; rfl, HB.out.1⟩
      · have hb' : ¬ (4096 : Int) < ((n + x.f2.length : Nat) : Int) := by omega
        go_wp2
        go_roundg (rs.length - (k + 1))
        case measure => omega
        case rel => exact ⟨k + 1, n + x.f2.length, by omega, by first | rfl | (rw [IntWalk.wrap64_in _ (by omega)]; rfl), by first | rfl | rw [hw], by omega, by have := HT2.out; rw [total] at this; show _ = _; omega, rfl⟩
    have hl : tooLong us rs = false := by
      have := HTT.out
      rw [List.drop_of_length_le (by omega), total] at this
      rw [HL.out, decide_eq_false_iff_not]
      omega
    have HS := Lib.hid (short_len hl)
    have HC : Hid (checkCode us rs = if rs.length = 0 then 6 else if us.all useOK = false then 6 else if rs.all ruleOK = false then 6 else if rs.all deepOK = false then 3 else 0) := by
      show _ = _; rw [checkCode, if_neg (by rw [hl]; decide)]
    clear hl HL HTT
    by_cases h0 : rs.length = 0
    · have HV : Hid (checkCode us rs = 6) := by have := HC.out; rw [if_pos h0] at this; exact this
      have h0' : ((rs.length : Int) == 0) = true := by simp [h0]
      clear h0
      go_wp2
      go_ret
      exact ⟨by rw [HV.out]; rfl, HB.out.1⟩
    have h0' : ((rs.length : Int) == 0) = false := by rw [beq_eq_false_iff_ne]; omega
    have HC2 : Hid (checkCode us rs = if us.all useOK = false then 6 else if rs.all ruleOK = false then 6 else if rs.all deepOK = false then 3 else 0) := by have := HC.out; rw [if_neg h0] at this; exact this
    clear HC
    have HN := Lib.hid h0; clear h0
    go_wp2
    clear h0' hn hk hlt
    go_loopg [5] us.length (fun q v wr' => ∃ k : Nat, q + k = us.length ∧ v = .int .i64 k ∧ Hid ((us.drop k).all useOK = us.all useOK) ∧ wr' = wr)
    case atStart => exact ⟨0, by simp, rfl, rfl, rfl⟩
    case round =>
      obtain ⟨k, hk, rfl, HM, rfl⟩ := hrel
      by_cases hlt : k < us.length
      · have HST := Lib.hid (all_step (drop_use hlt) HM.out)
        clear HM
        obtain ⟨ad, eA, c0, c1⟩ := use_at (Kd.C_below HU.out HB.out.1) k hlt
        subst eA
        generalize ul us k = u at *
        go_wp2_with (fail)
        refine (ownTextR.calls u.f0 _).mono ?_
        rintro e w2 ⟨rfl, rfl⟩
        dsimp only
        have HNO : Hid (useOK u = false → checkCode us rs = 6) := fun h => by have := HC2.out; rw [if_pos (HST.out.2 h)] at this; exact this
        cases ho : ownOK u.f0
        · have HV := Lib.hid (HNO.out (by rw [useOK, decide_eq_false_iff_not]; simp [ho]))
          clear ho
          go_wp2
          go_ret
          exact ⟨by rw [HV.out]; rfl, HB.out.1⟩
        by_cases h1 : u.f1.size < 1
        · have HV := Lib.hid (HNO.out (by rw [useOK, decide_eq_false_iff_not]; omega))
          have h1' : (u.f1.size : Int) < 1 := by omega
          clear ho
          go_wp2
          go_ret
          exact ⟨by rw [HV.out]; rfl, HB.out.1⟩
        have h1' : ¬ (u.f1.size : Int) < 1 := by omega
        by_cases h2 : 64 < u.f1.size
        · have HV := Lib.hid (HNO.out (by rw [useOK, decide_eq_false_iff_not]; omega))
          have h2' : (64 : Int) < (u.f1.size : Int) := by omega
          clear ho
          go_wp2
          go_ret
          exact ⟨by rw [HV.out]; rfl, HB.out.1⟩
        have h2' : ¬ (64 : Int) < (u.f1.size : Int) := by omega
        have HV := Lib.hid (HST.out.1 (by rw [useOK, decide_eq_true_iff]; exact ⟨ho, by omega, by omega⟩))
        clear ho
        go_wp2
        go_roundg (us.length - (k + 1))
        case measure => omega
        case rel => exact ⟨k + 1, by omega, by first | rfl | (rw [IntWalk.wrap64_in _ (by omega)]; rfl), HV, rfl⟩
      · have HC3 : Hid (checkCode us rs = if rs.all ruleOK = false then 6 else if rs.all deepOK = false then 3 else 0) := by have := HC2.out; rw [if_neg (by rw [all_done HM.out (by omega)]; decide)] at this; exact this
        clear HC2 HM
        go_wp2
        clear a0 a1
        go_loopg [6] rs.length (fun q v wo => ∃ k : Nat, q + k = rs.length ∧ v = .int .i64 k ∧ Hid ((rs.drop k).all ruleOK = rs.all ruleOK) ∧ Hid (Below w.heap.size w wo ∧ Blk wo w.heap.size 26 [.slice Au us.length cu, .slice Ar rs.length cr]))
        case atStart => exact ⟨0, by simp, rfl, rfl, HB⟩
        case round =>
          clear HB hlt hk
          rename World => wo
          obtain ⟨k, hk, rfl, HM, HW⟩ := hrel
          have a1 : wo.cell? ⟨w.heap.size, 1, none⟩ = some (.slice Ar rs.length cr) := HW.out.2.cell 1
          by_cases hlt : k < rs.length
          · have HST := Lib.hid (all_step (drop_rule hlt) HM.out)
            have HX := Lib.hid (HT.out.2 _ (rl_mem hlt))
            have HSX := Lib.hid (HS.out _ (rl_mem hlt))
            clear HM
            obtain ⟨ad, A1, c1, A2, c2, eA, e0, e1, e2, l1, g1, l2, g2⟩ := rule_at (Kd.C_below HR.out HW.out.1) k hlt
            subst eA
            generalize rl rs k = x at *
            clear l1 l2
            have G1 := Lib.hid g1; clear g1
            have G2 := Lib.hid g2; clear g2
            have E2 := Lib.hid e2
            go_wp2_with (fail)
            clear e0 e1 e2
            refine (headedR.calls x A1 A2 c1 x.f2.length c2 wo G1.out).mono ?_
            rintro e w2 ⟨rfl, hb⟩
            have HB2 : Hid (Below wo.heap.size wo w2) := hb
            clear hb
            dsimp only
            have HNO : Hid (ruleOK x = false → checkCode us rs = 6) := fun h => by have := HC3.out; rw [if_pos (HST.out.2 h)] at this; exact this
            cases ho : headOK x
            · have HV := Lib.hid (HNO.out (by rw [ruleOK, ho]; rfl))
              clear ho
              go_wp2
              go_ret
              exact ⟨by rw [HV.out]; rfl, HW.out.1.trans (HB2.out.mono HW.out.1.size)⟩
            have HO := Lib.hid ho; clear ho
            have d1 : w2.cell? ⟨w.heap.size, 1, none⟩ = some (.slice (some ad) rs.length cr) := Below.cell_some HB2.out a1
            have d2 : w2.cell? ⟨(ad.add (k * 3)).block, (ad.add (k * 3)).off + 2, none⟩ = some (.slice A2 x.f2.length c2) := Below.cell_some HB2.out E2.out
            clear a1
            go_wp2_with (fail)
            refine (shapedR.calls A2 c2 x.f2 w2 (Kd.C_below G2.out HB2.out) HX.out.2 (by have := HSX.out; omega)).mono ?_
            rintro e w3 ⟨rfl, hb⟩
            have HB3 : Hid (Below w.heap.size w w3 ∧ Blk w3 w.heap.size 26 [.slice Au us.length cu, .slice (some ad) rs.length cr]) :=
              ⟨HW.out.1.trans ((HB2.out.trans (hb.mono HB2.out.size)).mono HW.out.1.size), (HW.out.2.below HB2.out HW.out.2.lt).below hb (Nat.lt_of_lt_of_le HW.out.2.lt HB2.out.size)⟩
            clear hb HB2 d1 d2 E2
            dsimp only
            cases hs : shapedOK x.f2
            · have HV := Lib.hid (HNO.out (by rw [ruleOK, hs, Bool.and_false]))
              clear hs
              go_wp2
              go_ret
              exact ⟨by rw [HV.out]; rfl, HB3.out.1⟩
            · have HV := Lib.hid (HST.out.1 (by rw [ruleOK, HO.out, hs]; rfl))
              clear hs
              go_wp2
              go_roundg (rs.length - (k + 1))
              case measure => omega
              case rel => exact ⟨k + 1, by omega, by first | rfl | (rw [IntWalk.wrap64_in _ (by omega)]; rfl), HV, HB3⟩
          · have HC4 : Hid (checkCode us rs = if rs.all deepOK = false then 3 else 0) := by have := HC3.out; rw [if_neg (by rw [all_done HM.out (by omega)]; decide)] at this; exact this
            clear HC3 HM
            go_wp2
            clear a1
            go_loopg [7] rs.length (fun q v wz => ∃ k : Nat, q + k = rs.length ∧ v = .int .i64 k ∧ Hid ((rs.drop k).all deepOK = rs.all deepOK) ∧ Hid (Below w.heap.size w wz ∧ Blk wz w.heap.size 26 [.slice Au us.length cu, .slice Ar rs.length cr]))
            case atStart => exact ⟨0, by simp, rfl, rfl, HW⟩
            case round =>
              clear HW hlt hk
              rename World => wz
              obtain ⟨k, hk, rfl, HM, HW⟩ := hrel
              have a1 : wz.cell? ⟨w.heap.size, 1, none⟩ = some (.slice Ar rs.length cr) := HW.out.2.cell 1
              by_cases hlt : k < rs.length
              · have HST := Lib.hid (all_step (drop_rule hlt) HM.out)
                have HSX := Lib.hid (HS.out _ (rl_mem hlt))
                clear HM
                obtain ⟨ad, A1, c1, A2, c2, eA, e0, e1, e2, l1, g1, l2, g2⟩ := rule_at (Kd.C_below HR.out HW.out.1) k hlt
                subst eA
                generalize rl rs k = x at *
                clear l1 l2 g1
                have G2 := Lib.hid g2; clear g2
                go_wp2_with (fail)
                clear e0 e1 e2 a1
                refine (NestR.calls A2 c2 x.f2 _ G2.out (by have := HSX.out; omega)).mono ?_
                rintro e w2 ⟨rfl, hb⟩
                have HB2 : Hid (Below w.heap.size w w2 ∧ Blk w2 w.heap.size 26 [.slice Au us.length cu, .slice (some ad) rs.length cr]) := ⟨HW.out.1.trans (hb.mono HW.out.1.size), HW.out.2.below hb HW.out.2.lt⟩
                clear hb
                dsimp only
                have HD : Hid (deepOK x = decide (nestOf x.f2 ≤ 100)) := rfl
                generalize nestOf x.f2 = m at *
                by_cases hd : 100 < m
                · have HV : Hid (checkCode us rs = 3) := by have := HC4.out; rw [if_pos (HST.out.2 (by rw [HD.out, decide_eq_false_iff_not]; omega))] at this; exact this
                  go_wp2
                  go_ret
                  exact ⟨by rw [HV.out]; rfl, HB2.out.1⟩
                · have HV := Lib.hid (HST.out.1 (by rw [HD.out, decide_eq_true_iff]; omega))
                  go_wp2
                  go_roundg (rs.length - (k + 1))
                  case measure => omega
                  case rel => exact ⟨k + 1, by omega, by first | rfl | (rw [IntWalk.wrap64_in _ (by omega)]; rfl), HV, HB2⟩
              · have HV : Hid (checkCode us rs = 0) := by have := HC4.out; rw [if_neg (by rw [all_done HM.out (by omega)]; decide)] at this; exact this
                go_wp2
                go_ret
                exact ⟨by rw [HV.out]; rfl, HW.out.1⟩
end Go.Proofs.Ytmikgaphknbcaaa.B
