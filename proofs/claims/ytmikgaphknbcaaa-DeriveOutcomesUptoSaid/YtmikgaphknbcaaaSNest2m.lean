/- script.nest, script.Nest, dowelref06.Nest: how many nodes stand within one another. -/
import Derived.Test.YtmikgaphknbcaaaSNestm
import Derived.RegionTactic
import Derived.StillTailTactics
namespace Go.Proofs.Ytmikgaphknbcaaa.B
open Go Go.RowKit Go.X Go.Proofs.YtmikgaphknbcaaaW.PrintWords Go.Proofs.Ytmikgaphknbcaaa.F

theorem nums_get {k : IntKind} {l : List Int} {j : Nat} {v : Int} (h : l[j]? = some v) : (nums k l)[j]? = some (.int k v) := by
  rw [nums, List.getElem?_map, h]; rfl
set_option maxRecDepth 100000 in
set_option maxHeartbeats 4000000 in
theorem nest.calls (A A1 : Option Addr) (c c1 : Nat) (xs : List S47) (w : World) (hr : Kd.C k47 w A xs.length xs) (hl : Kd.C (Kd.int .i64) w A1 xs.length (begs xs)) (hn : xs.length ≤ 4000000) :
    Calls Try.prog 47 #[.slice A xs.length c, .slice A1 xs.length c1] w fun e w' => e = .returned (.int .i64 (mostTo xs xs.length)) ∧ Below w.heap.size w w' := by
  have HR := Lib.hid hr; clear hr
  have HL := Lib.hid hl; clear hl
  go_enter Try.func47, Try.ntmps47
  go_wp2_with (first
    | (at_make; refine X.make rfl _ _ 36 rfl 3 (.int .i64 0) 1 8 Try.underlying36 info3 .i64 .i64 _ _ xs.length rfl rfl rfl rfl (by omega) (by simp only [maxLen]; omega) ?_; intro w1 hb1 hg1; have HB1 := Lib.hid hb1; clear hb1; have HG1 := Lib.hid hg1; clear hg1)
    | fail)
  have HI : Hid (Blk w1 w.heap.size 3 (nums .i64 (dpart xs xs.length 0)) ∧ Below w.heap.size w w1) := ⟨by have := HB1.out; rw [made_ints] at this; simpa [dpart, deepTo] using this, (Below.refl _ _).grown HG1.out (Nat.le_refl _) (by simp)⟩
  clear HB1 HG1
  go_loopg [6, 15] xs.length (fun q v6 v wr => ∃ i : Nat, q + i = xs.length ∧ v = .int .i64 i ∧ v6 = .int .i64 (mostTo xs i) ∧ Hid (Blk wr w.heap.size 3 (nums .i64 (dpart xs xs.length i)) ∧ Below w.heap.size w wr))
  case atStart => exact ⟨0, by simp, rfl, rfl, HI⟩
  case round =>
    clear HI
    rename World => wo
    obtain ⟨i, hi, rfl, rfl, HI⟩ := hrel
    by_cases hlt : i < xs.length
    · have hgl := HI.out.1.cell i
      rw [List.getElem?_eq_getElem (by rw [nums, List.length_map, dpart_length _ _ _ (by omega)]; exact hlt)] at hgl
      generalize (nums .i64 (dpart xs xs.length i))[i]'(by rw [nums, List.length_map, dpart_length _ _ _ (by omega)]; exact hlt) = old at hgl
      have hfz := HI.out.1.frozen i
      have HW : Hid (Blk (wo.setCell ⟨w.heap.size, i, none⟩ (.int .i64 1)) w.heap.size 3 (nums .i64 ((dpart xs xs.length i).set i 1)) ∧ Below w.heap.size w (wo.setCell ⟨w.heap.size, i, none⟩ (.int .i64 1))) := by
        refine ⟨?_, HI.out.2.setCell (Nat.le_refl _) _⟩
        have := HI.out.1.setCell i (.int .i64 1)
        rwa [nums, ← List.map_set] at this
      clear HI
      go_wp2_with (fail)
      refine (parts.calls A A1 c c1 xs.length xs i _ (Kd.C_below HR.out HW.out.2) (Kd.C_below HL.out HW.out.2) (Nat.le_refl _) (fun _ h => h) hn).mono ?_
      rintro e w2 ⟨v, rfl, ho, hb2⟩
      have HO : Hid (Blk w2 w.heap.size 3 (nums .i64 ((dpart xs xs.length i).set i 1)) ∧ Below w.heap.size w w2) := ⟨HW.out.1.below hb2 HW.out.1.lt, HW.out.2.trans (hb2.mono HW.out.2.size)⟩
      have hBW := HW.out.1.lt
      replace ho := own_weaken ho (show w.heap.size + 1 ≤ _ by omega)
      clear hBW
      obtain ⟨Ap, cp, rfl, -, -⟩ := C_of_own ho
      have HC := Lib.hid ho; clear ho hb2 HW hgl hfz
      have HPM : Hid (∀ p ∈ partsOf xs i, 0 ≤ p ∧ p < i) := parts_mem xs i hlt
      have HDR : Hid (∀ j, j < i → 1 ≤ (deepTo xs i).getD j 0 ∧ (deepTo xs i).getD j 0 ≤ j + 1) := deep_range xs i (by omega)
      have HDO : Hid (deepOf xs (deepTo xs i) i = mostOf (deepTo xs i) (partsOf xs i) 0 + 1) := rfl
      have hlen : (partsOf xs i).length ≤ 4000000 := by
        unfold partsOf
        split
        · rename_i h
          have := begs_parts xs i hlt (by simpa using h.2.2)
          rw [backs_length]
          simp
          omega
        · simp
      generalize hps : partsOf xs i = ps at *
      clear hps
      dsimp only
      go_wp2
      go_loopg [26] ps.length (fun q v wr => ∃ k : Nat, q + k = ps.length ∧ v = .int .i64 k ∧ Hid (Blk wr w.heap.size 3 (nums .i64 ((dpart xs xs.length i).set i (mostOf (deepTo xs i) (ps.take k) 0 + 1))) ∧ Below w.heap.size w wr ∧ wr.ownsRow (w.heap.size + 1) 3 1 (.slice Ap ps.length cp) ps.length (nums .i64 ps)))
      case atStart => exact ⟨0, by simp, rfl, HO.out.1, HO.out.2, HC.out⟩
      case round =>
        clear HO
        obtain ⟨k, hk, rfl, HO⟩ := hrel
        have hci : wr.cell? ⟨w.heap.size, i, none⟩ = some (.int .i64 (mostOf (deepTo xs i) (ps.take k) 0 + 1)) := by
          rw [HO.out.1.cell]
          exact nums_get (by rw [List.getElem?_set_self (by rw [dpart_length _ _ _ (by omega)]; exact hlt)])
        have hfz := HO.out.1.frozen i
        by_cases hkn : k < ps.length
        · obtain ⟨Ap', cp', e0, -, hC⟩ := C_of_own HO.out.2.2
          obtain ⟨ap, eA, d1⟩ := int_at hC k hkn
          simp at e0
          obtain ⟨rfl, rfl⟩ := e0
          subst eA
          clear hC
          have hpm := HPM.out (ps.getD k 0) (by rw [List.getD_eq_getElem?_getD, List.getElem?_eq_getElem hkn]; exact List.getElem_mem hkn)
          obtain ⟨p, hp⟩ : ∃ p : Nat, ps.getD k 0 = p := ⟨(ps.getD k 0).toNat, by omega⟩
          have HT : Hid (mostOf (deepTo xs i) (ps.take (k + 1)) 0 = max (mostOf (deepTo xs i) (ps.take k) 0) ((deepTo xs i).getD p 0)) := by
            have := mostOf_take (deepTo xs i) ps k hkn
            rwa [hp, Int.toNat_natCast] at this
          have hpi : p < i := by omega
          rw [hp] at d1
          have hcp : wr.cell? ⟨w.heap.size, p, none⟩ = some (.int .i64 ((deepTo xs i).getD p 0)) := by
            rw [HO.out.1.cell]
            exact nums_get (by rw [List.getElem?_set_ne (by omega), dpart_get _ _ _ _ hpi])
          have hdr := HDR.out p hpi
          have hmb : 0 ≤ mostOf (deepTo xs i) (ps.take k) 0 ∧ mostOf (deepTo xs i) (ps.take k) 0 ≤ i := ⟨mostOf_le _ _ _, mostOf_bound _ _ _ _ (by omega) (fun q hq => by have := HPM.out q (List.mem_of_mem_take hq); have := HDR.out q.toNat (by omega); omega)⟩
          have HS : ∀ w1 v, w1 = wr.setCell ⟨w.heap.size, i, none⟩ (.int .i64 v) → v = mostOf (deepTo xs i) (ps.take (k + 1)) 0 + 1 → Hid (Blk w1 w.heap.size 3 (nums .i64 ((dpart xs xs.length i).set i (mostOf (deepTo xs i) (ps.take (k + 1)) 0 + 1))) ∧ Below w.heap.size w w1 ∧ w1.ownsRow (w.heap.size + 1) 3 1 (.slice (some ap) ps.length cp) ps.length (nums .i64 ps)) := by
            rintro w1 v rfl rfl
            have := HO.out.1.setCell i (.int .i64 (mostOf (deepTo xs i) (ps.take (k + 1)) 0 + 1))
            rw [nums, ← List.map_set, List.set_set] at this
            exact ⟨this, HO.out.2.1.setCell (Nat.le_refl _) _, ownsRow_setCell_below HO.out.2.2 (Nat.lt_succ_self _) _⟩
          have HS' := Lib.hid HS; clear HS hp
          generalize mostOf (deepTo xs i) (ps.take k) 0 = m0 at *
          generalize (deepTo xs i).getD p 0 = dv at *
          by_cases hmd : m0 < dv
          · go_wp2
            go_region
            go_wp2
            go_roundg (ps.length - (k + 1))
            case measure => omega
            case rel =>
              have h := HS'.out _ (dv + 1) rfl (by rw [HT.out, Int.max_eq_right (by omega)])
              exact ⟨k + 1, by omega, by go_num, h.1, h.2.1.drew, h.2.2.drew⟩
          · go_wp2
            go_region
            go_wp2
            go_roundg (ps.length - (k + 1))
            case measure => omega
            case rel =>
              have h := HS'.out _ (m0 + 1) rfl (by rw [HT.out, Int.max_eq_left (by omega)])
              exact ⟨k + 1, by omega, by go_num, h.1, h.2.1.drew, h.2.2.drew⟩
        · obtain rfl : k = ps.length := by omega
          clear hci
          have HE : Hid (Blk wr w.heap.size 3 (nums .i64 (dpart xs xs.length (i + 1))) ∧ Below w.heap.size w wr) := by
            have := HO.out.1
            rw [List.take_length, ← HDO.out, dpart_set _ _ _ hlt] at this
            exact ⟨this, HO.out.2.1⟩
          have hci : wr.cell? ⟨w.heap.size, i, none⟩ = some (.int .i64 ((deepTo xs xs.length).getD i 0)) := by
            rw [HE.out.1.cell]
            refine nums_get ?_
            rw [dpart_get _ _ _ _ (Nat.lt_succ_self i), deep_get xs (i + 1) xs.length i (by omega) (by omega)]
          have HM : Hid (mostTo xs (i + 1) = max (mostTo xs i) ((deepTo xs xs.length).getD i 0)) := rfl
          clear HO hfz
          generalize mostTo xs i = m0 at *
          generalize (deepTo xs xs.length).getD i 0 = dv at *
          by_cases hmd : m0 < dv
          all_goals
            go_wp2
            go_roundg (xs.length - (i + 1))
            case measure => omega
            case rel => exact ⟨i + 1, by omega, by go_num, by rw [HM.out]; first | rw [Int.max_eq_right (by omega)] | rw [Int.max_eq_left (by omega)], HE⟩
    · obtain rfl : i = xs.length := by omega
      go_wp2
      go_ret
      exact ⟨rfl, HI.out.2⟩

theorem BelowOwn {w1 : World} {xs : List S47} (hn : xs.length ≤ 4000000) {g : Nat} (hb : Blk w1 g 3 (nums .i64 (begs xs))) : Kd.C (Kd.int .i64) w1 (some ⟨g, 0, none⟩) xs.length (begs xs) := by
  have := OwnInts.C hb (by rw [begs_length]; simp only [maxLen]; omega)
  rwa [begs_length] at this
set_option maxRecDepth 100000 in
set_option maxHeartbeats 4000000 in
theorem Nest.calls (A : Option Addr) (c : Nat) (xs : List S47) (w : World) (hr : Kd.C k47 w A xs.length xs) (hn : xs.length ≤ 4000000) :
    Calls Try.prog 24 #[.slice A xs.length c] w fun e w' => e = .returned (.int .i64 (nestOf xs)) ∧ Below w.heap.size w w' := by
  have HR := Lib.hid hr; clear hr
  go_enter Try.func24, Try.ntmps24
  go_wp2_with (fail)
  refine (begins.callsN A c xs.length xs w rfl HR.out hn).mono ?_
  rintro e w1 ⟨g, rfl, hb, hg, hbel⟩
  have HL : Hid (Kd.C (Kd.int .i64) w1 (some ⟨g, 0, none⟩) xs.length (begs xs)) := BelowOwn hn hb
  rw [begs_length]
  have HB := Lib.hid hbel; clear hbel hb hg
  dsimp only
  go_wp2_with (fail)
  refine (tree.calls A (some ⟨g, 0, none⟩) c xs.length xs w1 HL.out hn).mono ?_
  rintro e w2 ⟨rfl, rfl⟩
  cases ht : isTree xs
  · have HT := Lib.hid ht; clear ht
    dsimp only
    go_wp2
    go_ret
    exact ⟨by unfold nestOf; rw [HT.out]; rfl, HB.out⟩
  · have HT := Lib.hid ht; clear ht
    dsimp only
    go_wp2_with (fail)
    refine (nest.calls A (some ⟨g, 0, none⟩) c xs.length xs w1 (Kd.C_below HR.out HB.out) HL.out hn).mono ?_
    rintro e w2 ⟨rfl, hb2⟩
    have HB2 : Hid (Below w.heap.size w w2) := HB.out.trans (hb2.mono HB.out.size)
    clear hb2
    dsimp only
    have HM : Hid (mostTo xs xs.length = nestOf xs) := mostTo_tree xs HT.out
    generalize mostTo xs xs.length = m at *
    go_wp2
    go_ret
    exact ⟨by rw [← HM.out]; rfl, HB2.out⟩

theorem partsR.callsN (A A1 : Option Addr) (c n c1 m : Nat) (xs : List S47) (i : Int) (w : World) (hx : xs.length = n) (hr : Kd.C k47 w A n xs) (hl : Kd.C (Kd.int .i64) w A1 m (begsTo xs m)) (hm : m ≤ n) (him : 0 ≤ i → i < n → i < m) (hn : n ≤ 4000000) :
    Calls Try.prog 44 #[.slice A n c, .slice A1 m c1, .int .i64 i] w fun e w' => OwnI w w' (partsOf xs i) e := by
  subst hx; exact partsR.calls A A1 c c1 m xs i w hr hl hm him hn
set_option maxRecDepth 100000 in
set_option maxHeartbeats 4000000 in
theorem NestR.calls (A : Option Addr) (c : Nat) (xs : List S47) (w : World) (hr : Kd.C k47 w A xs.length xs) (hn : xs.length ≤ 4000000) :
    Calls Try.prog 25 #[.slice A xs.length c] w fun e w' => e = .returned (.int .i64 (nestOf xs)) ∧ Below w.heap.size w w' := by
  have HR := Lib.hid hr; clear hr
  go_enter Try.func25, Try.ntmps25
  go_wp2_with (fail)
  refine (Begins.callsN A c xs.length xs w rfl HR.out hn).mono ?_
  rintro e w1 ⟨g, rfl, hb, hg, hbel⟩
  have HL : Hid (Kd.C (Kd.int .i64) w1 (some ⟨g, 0, none⟩) xs.length (begs xs)) := BelowOwn hn hb
  have HLc : Hid (∀ j, j < xs.length → w1.cell? ⟨g, j, none⟩ = some (.int .i64 ((begs xs).getD j 0))) := by
    intro j hj
    rw [hb.cell]
    exact nums_get (by rw [List.getD_eq_getElem?_getD, List.getElem?_eq_getElem (by rw [begs_length]; exact hj)]; rfl)
  rw [begs_length]
  have HB := Lib.hid hbel; clear hbel hb hg
  dsimp only
  by_cases h0 : xs.length = 0
  · have HT : Hid (nestOf xs = 0) := by show _ = _; unfold nestOf isTree; simp [h0]
    have e1 : ((xs.length : Int) == 0) = true := by simpa using h0
    have e2 : (xs.length == 0) = true := by simpa using h0
    have e3 : xs = [] := List.eq_nil_of_length_eq_zero h0
    clear h0
    subst e3
    go_wp2
    go_ret
    exact ⟨by rw [HT.out]; rfl, HB.out⟩
  have hp : 0 < xs.length := by omega
  have hlast := HLc.out (xs.length - 1) (by omega)
  have HZ : Hid ((begs xs).getD (xs.length - 1) 0 = 0 → isTree xs = true) := by intro hz; unfold isTree; simp only [decide_eq_true_eq]; exact ⟨hp, hz⟩
  have HZ' : Hid (¬ (begs xs).getD (xs.length - 1) 0 = 0 → nestOf xs = 0) := by intro hz; unfold nestOf isTree; rw [if_neg]; simp only [decide_eq_true_eq]; omega
  have HNO : Hid (isTree xs = true → nestOf xs = (deepTo xs xs.length).getD (xs.length - 1) 0) := by intro h; unfold nestOf; rw [if_pos h]
  obtain ⟨m, hm⟩ : ∃ m, xs.length = m + 1 := ⟨xs.length - 1, by omega⟩
  have HM := Lib.hid hm
  rw [hm] at hlast HZ HZ' HNO ⊢
  simp only [Nat.add_sub_cancel] at hlast HZ HZ' HNO
  have hm4 : m + 1 ≤ 4000000 := by omega
  have e1 : (((m : Int) + 1) == 0) = false := by simp; omega
  clear hm h0 hn hp
  by_cases hz : (begs xs).getD m 0 = 0
  · have HT : Hid (isTree xs = true) := HZ.out hz
    rw [hz] at hlast
    clear hz HZ HZ'
    go_wp2_with (first
      | (at_make; refine X.make rfl _ _ 36 rfl 3 (.int .i64 0) 1 8 Try.underlying36 info3 .i64 .i64 _ _ (m + 1) rfl rfl (by simp) (by simp) (by omega) (by simp only [maxLen]; omega) ?_; intro w2 hb1 hg1; have HB1 := Lib.hid hb1; clear hb1; have HG1 := Lib.hid hg1; clear hg1)
      | fail)
    have HI : Hid (Blk w2 w1.heap.size 3 (nums .i64 (dpart xs xs.length 0)) ∧ Below w1.heap.size w1 w2) := ⟨by have := HB1.out; rw [made_ints, ← HM.out] at this; simpa [dpart, deepTo] using this, (Below.refl _ _).grown HG1.out (Nat.le_refl _) (by simp)⟩
    clear HB1 HG1 hlast
    go_loopg [5] (m + 1) (fun q v wr => ∃ i : Nat, q + i = m + 1 ∧ v = .int .i64 i ∧ Hid (Blk wr w1.heap.size 3 (nums .i64 (dpart xs xs.length i)) ∧ Below w1.heap.size w1 wr))
    case atStart => exact ⟨0, by simp, rfl, HI⟩
    case round =>
      clear HI
      rename World => wo
      obtain ⟨i, hi, rfl, HI⟩ := hrel
      by_cases hlt : i < m + 1
      · have hlx : i < xs.length := by rw [HM.out]; exact hlt
        have HX := Lib.hid hlx; clear hlx
        have hdi : decide ((i : Int) < (m : Int) + 1) = true := by simp; omega
        go_wp2_with (fail)
        refine (partsR.callsN A (some ⟨g, 0, none⟩) c (m + 1) (m + 1) (m + 1) xs i _ HM.out (by rw [← HM.out]; exact Kd.C_below HR.out (HB.out.trans (HI.out.2.mono HB.out.size))) (by rw [← HM.out]; exact Kd.C_below HL.out HI.out.2) (by have := HM.out; omega) (fun _ h => h) hm4).mono ?_
        rintro e w2 ⟨v, rfl, ho, hb2⟩
        have hBW := HI.out.1.lt
        replace ho := own_weaken ho (show w1.heap.size + 1 ≤ _ by omega)
        have HO : Hid (Blk w2 w1.heap.size 3 (nums .i64 (dpart xs xs.length i)) ∧ Below w1.heap.size w1 w2) := ⟨HI.out.1.below hb2 HI.out.1.lt, HI.out.2.trans (hb2.mono HI.out.2.size)⟩
        obtain ⟨Ap, cp, rfl, -, -⟩ := C_of_own ho
        have HC := Lib.hid ho; clear ho hb2 HI hBW
        have HPM : Hid (∀ p ∈ partsOf xs i, 0 ≤ p ∧ p < i) := parts_mem xs i HX.out
        have HDR : Hid (∀ j, j < i → 1 ≤ (deepTo xs i).getD j 0 ∧ (deepTo xs i).getD j 0 ≤ j + 1) := deep_range xs i (Nat.le_of_lt HX.out)
        have HDO : Hid (deepOf xs (deepTo xs i) i = mostOf (deepTo xs i) (partsOf xs i) 0 + 1) := rfl
        have hlen : (partsOf xs i).length ≤ 4000000 := by
          unfold partsOf
          split
          · rename_i h
            have := begs_parts xs i HX.out (by simpa using h.2.2)
            rw [backs_length]
            simp
            omega
          · simp
        generalize hps : partsOf xs i = ps at *
        clear hps
        dsimp only
        go_wp2
        go_loopg [7, 8] ps.length (fun q v7 v8 wr => ∃ k : Nat, q + k = ps.length ∧ v8 = .int .i64 k ∧ v7 = .int .i64 (mostOf (deepTo xs i) (ps.take k) 0) ∧ wr = w2)
        case atStart => exact ⟨0, by simp, rfl, rfl, rfl⟩
        case round =>
          obtain ⟨k, hk, rfl, rfl, rfl⟩ := hrel
          by_cases hkn : k < ps.length
          · obtain ⟨Ap', cp', e0, -, hC⟩ := C_of_own HC.out
            obtain ⟨ap, eA, d1⟩ := int_at hC k hkn
            simp at e0
            obtain ⟨rfl, rfl⟩ := e0
            subst eA
            clear hC
            have hpm := HPM.out (ps.getD k 0) (by rw [List.getD_eq_getElem?_getD, List.getElem?_eq_getElem hkn]; exact List.getElem_mem hkn)
            obtain ⟨p, hp⟩ : ∃ p : Nat, ps.getD k 0 = p := ⟨(ps.getD k 0).toNat, by omega⟩
            have HT2 : Hid (mostOf (deepTo xs i) (ps.take (k + 1)) 0 = max (mostOf (deepTo xs i) (ps.take k) 0) ((deepTo xs i).getD p 0)) := by
              have := mostOf_take (deepTo xs i) ps k hkn
              rwa [hp, Int.toNat_natCast] at this
            have hpi : p < i := by omega
            rw [hp] at d1
            have hcp : wr.cell? ⟨w1.heap.size, p, none⟩ = some (.int .i64 ((deepTo xs i).getD p 0)) := by
              rw [HO.out.1.cell]
              exact nums_get (dpart_get _ _ _ _ hpi)
            clear hp hpm
            generalize mostOf (deepTo xs i) (ps.take k) 0 = m0 at *
            generalize (deepTo xs i).getD p 0 = dv at *
            by_cases hmd : m0 < dv
            · go_wp2
              go_roundg (ps.length - (k + 1))
              case measure => omega
              case rel => exact ⟨k + 1, by omega, by go_num, by rw [HT2.out, Int.max_eq_right (by omega)], rfl⟩
            · go_wp2
              go_roundg (ps.length - (k + 1))
              case measure => omega
              case rel => exact ⟨k + 1, by omega, by go_num, by rw [HT2.out, Int.max_eq_left (by omega)], rfl⟩
          · obtain rfl : k = ps.length := by omega
            rw [List.take_length]
            have hgl := HO.out.1.cell i
            have hdl := dpart_length xs xs.length i (Nat.le_of_lt HX.out)
            rw [List.getElem?_eq_getElem (by rw [nums, List.length_map, hdl]; exact HX.out)] at hgl
            generalize (nums .i64 (dpart xs xs.length i))[i]'(by rw [nums, List.length_map, hdl]; exact HX.out) = old at hgl
            have hfz := HO.out.1.frozen i
            have HE : Hid (∀ v, v = deepOf xs (deepTo xs i) i → Blk (wr.setCell ⟨w1.heap.size, i, none⟩ (.int .i64 v)) w1.heap.size 3 (nums .i64 (dpart xs xs.length (i + 1))) ∧ Below w1.heap.size w1 (wr.setCell ⟨w1.heap.size, i, none⟩ (.int .i64 v))) := by
              rintro v rfl
              have := HO.out.1.setCell i (.int .i64 (deepOf xs (deepTo xs i) i))
              rw [nums, ← List.map_set, dpart_set _ _ _ HX.out] at this
              exact ⟨this, HO.out.2.setCell (Nat.le_refl _) _⟩
            have hmb : 0 ≤ mostOf (deepTo xs i) ps 0 ∧ mostOf (deepTo xs i) ps 0 ≤ i := ⟨mostOf_le _ _ _, mostOf_bound _ _ _ _ (by omega) (fun q hq => by have := HPM.out q hq; have := HDR.out q.toNat (by omega); omega)⟩
            clear HO hdl
            generalize mostOf (deepTo xs i) ps 0 = m0 at *
            go_wp2
            go_roundg (m + 1 - (i + 1))
            case measure => omega
            case rel => exact ⟨i + 1, by omega, by go_num, HE.out _ HDO.out.symm⟩
      · obtain rfl : i = m + 1 := by omega
        have hfin : wo.cell? ⟨w1.heap.size, m, none⟩ = some (.int .i64 ((deepTo xs (m + 1)).getD m 0)) := by
          rw [HI.out.1.cell]
          exact nums_get (dpart_get _ _ _ _ (Nat.lt_succ_self m))
        have HN := Lib.hid (HNO.out HT.out)
        clear HNO
        generalize (deepTo xs (m + 1)).getD m 0 = dv at *
        go_wp2
        go_ret
        exact ⟨by rw [HN.out]; rfl, HB.out.trans (HI.out.2.mono HB.out.size)⟩
  · have HT : Hid (nestOf xs = 0) := HZ'.out hz
    have e2 : ((begs xs).getD m 0 == 0) = false := by simpa using hz
    have e3 : ((begs xs).getD m 0 != 0) = true := by simpa using hz
    generalize (begs xs).getD m 0 = v at *
    clear hz HZ HZ' HNO
    go_wp2
    go_ret
    exact ⟨by rw [HT.out]; rfl, HB.out⟩
end Go.Proofs.Ytmikgaphknbcaaa.B
