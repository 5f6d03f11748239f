/- derive.forest, walked. -/
import Derived.Test.YtmikgaphknbcaaaMA
namespace Go.Proofs.Ytmikgaphknbcaaa.B
open Go Go.RowKit Go.X Go.Proofs.YtmikgaphknbcaaaW.PrintWords Go.Proofs.Ytmikgaphknbcaaa.F

set_option maxRecDepth 100000 in
set_option maxHeartbeats 4000000 in
theorem forest.calls {w1 : World} {Au Ar Ap : Option Addr} {nu cu cr cp g : Nat} {rs : List S34} {xs : List S79} (G : Hid (FG w1 Ar Ap g rs xs)) : ∀ (m i : Nat), xs.length - i ≤ m → i < xs.length → ∀ (w : World) (v : Value) (L : List S89),
    Below w1.heap.size w1 w → w.ownsRow w1.heap.size 89 4 v L.length (capsOf L) → L.length + (en (kk xs) i - i) ≤ 1000000 →
    Calls Try.prog 56 #[.agg #[.slice Au nu cu, .slice Ar rs.length cr], .slice Ap xs.length cp, .slice (some ⟨g, 0, none⟩) xs.length xs.length, .int .i64 i, v] w fun e w' =>
      ∃ v', e = .returned (.tuple #[v', .int .i64 (fo rs xs m i).2]) ∧ FR w w' w1.heap.size v v' (L ++ (fo rs xs m i).1)
  | 0, i, hm, hi, _, _, _, _, _, _ => by omega
  | m + 1, i, hm, hi, w, v, L, hb, ho, hL => by
    have HB := Lib.hid hb; clear hb
    have HO := Lib.hid ho; clear ho
    have IH : Hid (∀ (i : Nat), xs.length - i ≤ m → i < xs.length → ∀ (w : World) (v : Value) (L : List S89),
        Below w1.heap.size w1 w → w.ownsRow w1.heap.size 89 4 v L.length (capsOf L) → L.length + (en (kk xs) i - i) ≤ 1000000 →
        Calls Try.prog 56 #[.agg #[.slice Au nu cu, .slice Ar rs.length cr], .slice Ap xs.length cp, .slice (some ⟨g, 0, none⟩) xs.length xs.length, .int .i64 i, v] w fun e w' =>
          ∃ v', e = .returned (.tuple #[v', .int .i64 (fo rs xs m i).2]) ∧ FR w w' w1.heap.size v v' (L ++ (fo rs xs m i).1)) := forest.calls G m
    have hba : Hid (Below w.heap.size w (w.alloc (.cells #[.slice Au nu cu, .slice Ar rs.length cr] 26))) := (Below.refl _ w).alloc (Nat.le_refl _) _
    obtain ⟨ad, eA, c0, c1, c2, c3, c4, c5, c6⟩ := step_at (Kd.C_below (Kd.C_below G.out.hx HB.out) hba.out) i hi
    have hi1 : (i : Int) < (xs.length : Int) := by omega
    have hi0 : (0 : Int) ≤ (i : Int) := by omega
    have HRG := Lib.hid (G.out.rng i hi)
    have HFO : Hid (fo rs xs (m + 1) i = fo rs xs (m + 1) i) := rfl
    subst eA
    obtain ⟨s, hs⟩ : ∃ s, st xs i = s := ⟨_, rfl⟩
    rw [hs] at c0 c1 c2 c3 c4 c5 c6
    have HSI := Lib.hid hs; clear hs
    go_enter Try.func56, Try.ntmps56
    by_cases h3 : s.f3 = 1
    · obtain ⟨r0, r1, r2, r3⟩ := HRG.out
      rw [HSI.out] at r0 r1 r2 r3
      go_wp2
      have HW : Hid (Below w.heap.size w ((w.alloc (.cells #[.slice Au nu cu, .slice Ar rs.length cr] 26)).alloc (.cells #[.int .i64 s.f0, .int .i64 s.f1, .int .i64 s.f2, .int .i64 1, .int .i64 s.f4, .string s.f5, .int .i64 s.f6] 79)) ∧
          Blk ((w.alloc (.cells #[.slice Au nu cu, .slice Ar rs.length cr] 26)).alloc (.cells #[.int .i64 s.f0, .int .i64 s.f1, .int .i64 s.f2, .int .i64 1, .int .i64 s.f4, .string s.f5, .int .i64 s.f6] 79)) w.heap.size 26 [.slice Au nu cu, .slice Ar rs.length cr] ∧
          Blk ((w.alloc (.cells #[.slice Au nu cu, .slice Ar rs.length cr] 26)).alloc (.cells #[.int .i64 s.f0, .int .i64 s.f1, .int .i64 s.f2, .int .i64 1, .int .i64 s.f4, .string s.f5, .int .i64 s.f6] 79)) (w.heap.size + 1) 79 [.int .i64 s.f0, .int .i64 s.f1, .int .i64 s.f2, .int .i64 1, .int .i64 s.f4, .string s.f5, .int .i64 s.f6] ∧
          ((w.alloc (.cells #[.slice Au nu cu, .slice Ar rs.length cr] 26)).alloc (.cells #[.int .i64 s.f0, .int .i64 s.f1, .int .i64 s.f2, .int .i64 1, .int .i64 s.f4, .string s.f5, .int .i64 s.f6] 79)).ownsRow w1.heap.size 89 4 v L.length (capsOf L)) :=
        ⟨hba.out.alloc hba.out.size _, (Blk.alloc w _ _).grown (World.grownBy_alloc _ _ none) (by simp), by
          have := Blk.alloc (w.alloc (.cells #[.slice Au nu cu, .slice Ar rs.length cr] 26)) #[.int .i64 s.f0, .int .i64 s.f1, .int .i64 s.f2, .int .i64 1, .int .i64 s.f4, .string s.f5, .int .i64 s.f6] 79
          simpa using this, (HO.out.alloc _).alloc _⟩
      generalize hwc : (w.alloc (.cells #[.slice Au nu cu, .slice Ar rs.length cr] 26)).alloc (.cells #[.int .i64 s.f0, .int .i64 s.f1, .int .i64 s.f2, .int .i64 1, .int .i64 s.f4, .string s.f5, .int .i64 s.f6] 79) = wc
      rw [hwc] at HW
      clear hwc
      have b1 : wc.cell? ⟨w.heap.size, 1, none⟩ = some (.slice Ar rs.length cr) := HW.out.2.1.cell 1
      have s0 : wc.cell? ⟨w.heap.size + 1, 0, none⟩ = some (.int .i64 s.f0) := HW.out.2.2.1.cell 0
      have s1 : wc.cell? ⟨w.heap.size + 1, 1, none⟩ = some (.int .i64 s.f1) := HW.out.2.2.1.cell 1
      have hbc : Hid (Below w1.heap.size w1 wc) := HB.out.trans (HW.out.1.mono HB.out.size)
      obtain ⟨a2, A1, d1, A2, d2, eA2, _, _, e2, _, _, _, g2⟩ := rule_at (Kd.C_below G.out.hr hbc.out) s.f0.toNat (by omega)
      obtain ⟨a3, eA3, n0, n1, n2, n3, n4, n5, n6, n7, n8, n9⟩ := node_at g2 s.f1.toNat (by omega)
      subst eA2
      subst eA3
      obtain ⟨y, hy⟩ : ∃ y, nd (rl rs s.f0.toNat).f2 s.f1.toNat = y := ⟨_, rfl⟩
      rw [hy] at n0 n1 n2 n3 n4 n5 n6 n7 n8 n9
      have HY : Hid (nodeOf rs s = y) := hy
      clear hy
      generalize hlen : (rl rs s.f0.toNat).f2.length = bl' at *
      clear c0 c1 c2 c3 c4 c5 c6 g2
      go_region_held3 (fun w' => w'.cell? ⟨w.heap.size, 1, none⟩ = some (.slice (some a2) rs.length cr) ∧ w'.cell? ⟨w.heap.size + 1, 0, none⟩ = some (.int .i64 s.f0) ∧ w'.cell? ⟨w.heap.size + 1, 1, none⟩ = some (.int .i64 s.f1) ∧ w'.cell? ⟨(a2.add (s.f0.toNat * 3)).block, (a2.add (s.f0.toNat * 3)).off + 2, none⟩ = some (.slice (some a3) bl' d2) ∧
          w'.cell? (a3.add (s.f1.toNat * 10)) = some (.int .i64 y.f0) ∧ w'.cell? ⟨(a3.add (s.f1.toNat * 10)).block, (a3.add (s.f1.toNat * 10)).off + 1, none⟩ = some (.int .i64 y.f1) ∧ w'.cell? ⟨(a3.add (s.f1.toNat * 10)).block, (a3.add (s.f1.toNat * 10)).off + 2, none⟩ = some (.string y.f2) ∧ w'.cell? ⟨(a3.add (s.f1.toNat * 10)).block, (a3.add (s.f1.toNat * 10)).off + 3, none⟩ = some (.bool y.f3) ∧
          w'.cell? ⟨(a3.add (s.f1.toNat * 10)).block, (a3.add (s.f1.toNat * 10)).off + 4, none⟩ = some (.int .u64 y.f4.f0) ∧ w'.cell? ⟨(a3.add (s.f1.toNat * 10)).block, (a3.add (s.f1.toNat * 10)).off + 5, none⟩ = some (.int .u64 y.f4.f1) ∧ w'.cell? ⟨(a3.add (s.f1.toNat * 10)).block, (a3.add (s.f1.toNat * 10)).off + 6, none⟩ = some (.int .u64 y.f4.f2) ∧ w'.cell? ⟨(a3.add (s.f1.toNat * 10)).block, (a3.add (s.f1.toNat * 10)).off + 7, none⟩ = some (.int .u64 y.f4.f3) ∧
          w'.cell? ⟨(a3.add (s.f1.toNat * 10)).block, (a3.add (s.f1.toNat * 10)).off + 8, none⟩ = some (.int .i64 y.f5) ∧ w'.cell? ⟨(a3.add (s.f1.toNat * 10)).block, (a3.add (s.f1.toNat * 10)).off + 9, none⟩ = some (.int .i64 y.f6))
        (first
          | go_keep)
        (first | fail)
      have HDD : ∀ wd : World, wd = (wc.alloc (.cells (nodeCells y).toArray 47)).drew → Hid (Below wc.heap.size wc wd ∧ Blk wd wc.heap.size 47 (nodeCells y) ∧ wd.ownsRow w1.heap.size 89 4 v L.length (capsOf L) ∧ Blk wd w.heap.size 26 [.slice Au nu cu, .slice (some a2) rs.length cr] ∧
          Blk wd (w.heap.size + 1) 79 [.int .i64 s.f0, .int .i64 s.f1, .int .i64 s.f2, .int .i64 1, .int .i64 s.f4, .string s.f5, .int .i64 s.f6]) := by
        rintro wd rfl
        have hq : Below wc.heap.size wc (wc.alloc (.cells (nodeCells y).toArray 47)) := (Below.refl _ wc).alloc (Nat.le_refl _) _
        exact ⟨hq.drew, Blk.alloc wc _ _, HW.out.2.2.2.alloc _, HW.out.2.1.below hq.drew HW.out.2.1.lt, HW.out.2.2.1.below hq.drew HW.out.2.2.1.lt⟩
      generalize hwd : (wc.alloc (.cells #[.int .i64 y.f0, .int .i64 y.f1, .string y.f2, .bool y.f3, .int .u64 y.f4.f0, .int .u64 y.f4.f1, .int .u64 y.f4.f2, .int .u64 y.f4.f3, .int .i64 y.f5, .int .i64 y.f6] 47)).drew = wd
      have HD := HDD wd hwd.symm
      clear HDD hwd b1 s0 s1 e2 n0 n1 n2 n3 n4 n5 n6 n7 n8 n9
      rename_i hHeld
      clear hHeld
      have hbd : Hid (Below w1.heap.size w1 wd) := hbc.out.trans (HD.out.1.mono hbc.out.size)
      have hN := G.out.few (rl rs s.f0.toNat) (rl_mem (by omega)) s.f1.toNat (by rw [hlen]; omega)
      have hy : nd (rl rs s.f0.toNat).f2 s.f1.toNat = y := HY.out
      rw [hy] at hN
      have HYN := Lib.hid hy; clear hy
      obtain ⟨n, hn1, hnm, hcase⟩ : ∃ n : Nat, 1 ≤ n ∧ n ≤ 1048576 ∧ ((y.f1 ≤ 1 ∧ n = 1) ∨ (1 < y.f1 ∧ (n : Int) = y.f1)) := by
        by_cases h : y.f1 ≤ 1
        · exact ⟨1, by omega, by omega, .inl ⟨h, rfl⟩⟩
        · exact ⟨y.f1.toNat, by omega, by omega, .inr ⟨by omega, by omega⟩⟩
      have HMK : Hid (∀ w : World, (Instr.makeSlice 36 (.int .i64 (n : Int)) (.int .i64 (n : Int))).run Try.prog w = .ok (.slice (some ⟨w.heap.size, 0, none⟩) n n) (w.alloc (.cells (madeCells #[.int .i64 0] n) 3))) :=
        run_make_row' 36 3 (.int .i64 0) 8 Try.underlying36 inf3 rfl .i64 .i64 n (by omega) (by omega)
      have m0 : wd.cell? ⟨wc.heap.size, 0, none⟩ = some (.int .i64 y.f0) := HD.out.2.1.cell 0
      have m1 : wd.cell? ⟨wc.heap.size, 1, none⟩ = some (.int .i64 y.f1) := HD.out.2.1.cell 1
      have m2 : wd.cell? ⟨wc.heap.size, 2, none⟩ = some (.string y.f2) := HD.out.2.1.cell 2
      have m3 : wd.cell? ⟨wc.heap.size, 3, none⟩ = some (.bool y.f3) := HD.out.2.1.cell 3
      have m4 : wd.cell? ⟨wc.heap.size, 4, none⟩ = some (.int .u64 y.f4.f0) := HD.out.2.1.cell 4
      have m5 : wd.cell? ⟨wc.heap.size, 5, none⟩ = some (.int .u64 y.f4.f1) := HD.out.2.1.cell 5
      have m6 : wd.cell? ⟨wc.heap.size, 6, none⟩ = some (.int .u64 y.f4.f2) := HD.out.2.1.cell 6
      have m7 : wd.cell? ⟨wc.heap.size, 7, none⟩ = some (.int .u64 y.f4.f3) := HD.out.2.1.cell 7
      have m8 : wd.cell? ⟨wc.heap.size, 8, none⟩ = some (.int .i64 y.f5) := HD.out.2.1.cell 8
      have m9 : wd.cell? ⟨wc.heap.size, 9, none⟩ = some (.int .i64 y.f6) := HD.out.2.1.cell 9
      have hdr : Hid (Below wd.heap.size wd wd.drew) := (Below.refl _ _).drew
      go_wp2
      rcases hcase with ⟨hc1, rfl⟩ | ⟨hc1, hc2⟩
      all_goals
        first
          | have hmk : ∀ w : World, (Instr.makeSlice 36 (.int .i64 1) (.int .i64 1)).run Try.prog w = .ok (.slice (some ⟨w.heap.size, 0, none⟩) 1 1) (w.alloc (.cells (madeCells #[.int .i64 0] 1) 3)) := HMK.out
          | (have hmk := HMK.out
             rw [hc2] at hmk)
        go_region_held3 (fun w' => w'.cell? ⟨wc.heap.size, 0, none⟩ = some (.int .i64 y.f0) ∧ w'.cell? ⟨wc.heap.size, 1, none⟩ = some (.int .i64 y.f1) ∧ w'.cell? ⟨wc.heap.size, 2, none⟩ = some (.string y.f2) ∧ w'.cell? ⟨wc.heap.size, 3, none⟩ = some (.bool y.f3) ∧ w'.cell? ⟨wc.heap.size, 4, none⟩ = some (.int .u64 y.f4.f0) ∧
          w'.cell? ⟨wc.heap.size, 5, none⟩ = some (.int .u64 y.f4.f1) ∧ w'.cell? ⟨wc.heap.size, 6, none⟩ = some (.int .u64 y.f4.f2) ∧ w'.cell? ⟨wc.heap.size, 7, none⟩ = some (.int .u64 y.f4.f3) ∧ w'.cell? ⟨wc.heap.size, 8, none⟩ = some (.int .i64 y.f5) ∧ w'.cell? ⟨wc.heap.size, 9, none⟩ = some (.int .i64 y.f6))
          (first
            | exact ⟨Below.cell_some hbk5.out m0, Below.cell_some hbk5.out m1, Below.cell_some hbk5.out m2, Below.cell_some hbk5.out m3, Below.cell_some hbk5.out m4, Below.cell_some hbk5.out m5, Below.cell_some hbk5.out m6, Below.cell_some hbk5.out m7, Below.cell_some hbk5.out m8, Below.cell_some hbk5.out m9⟩
            | go_keep)
          (first
            | (go_at_call 68; refine (kindOf.calls y ⟨wd.heap.size, 0, none⟩ _ _ 0 ((wd.alloc (.cells (madeCells #[.int .i64 0] _) 3)).drew) hn1 (made_cell wd hn1)).mono ?_; rintro e w5 ⟨⟨T, vv, rfl, hT1, hT2⟩, hbl⟩
               have hbk5 : Hid (Below wd.heap.size wd w5) := (((Below.refl _ wd).alloc (Nat.le_refl _) _).drew).trans (hbl.mono (by simp))
               have HT1 := Lib.hid hT1; clear hT1
               have HT2 := Lib.hid hT2; clear hT2
               clear hbl))
        rename_i hHeld
        clear hHeld m0 m1 m2 m3 m4 m5 m6 m7 m8 m9 hmk HMK
        have HE : Hid (FR w w5 w1.heap.size v v L ∧ Blk w5 w.heap.size 26 [.slice Au nu cu, .slice (some a2) rs.length cr] ∧ Blk w5 wc.heap.size 47 (nodeCells y) ∧ Blk w5 (w.heap.size + 1) 79 [.int .i64 s.f0, .int .i64 s.f1, .int .i64 s.f2, .int .i64 1, .int .i64 s.f4, .string s.f5, .int .i64 s.f6]) :=
          ⟨(((FR.refl HO.out).below HW.out.1).below HD.out.1).below hbk5.out, HD.out.2.2.2.1.below hbk5.out HD.out.2.2.2.1.lt, HD.out.2.1.below hbk5.out HD.out.2.1.lt, HD.out.2.2.2.2.below hbk5.out HD.out.2.2.2.2.lt⟩
        clear hbk5 hdr HD HW hbd hbc
        by_cases hl : T = 100
        · subst hl
          have e : fo rs xs (m + 1) i = ([], 0) := by rw [fo, HSI.out, if_neg (by simp [h3]), HY.out, if_pos (HT1.out.1 rfl)]
          have HV := Lib.hid e; clear e
          have hta := assert100_yes w5 vv
          go_wp2
          go_ret2
          rw [HV.out, List.append_nil]
          exact ⟨_, rfl, HE.out.1⟩
        have hn14 : ¬ (y.f0 = 12 ∨ y.f0 = 13) := fun h => hl (HT1.out.2 h)
        have HN14 := Lib.hid hn14; clear hn14
        have hta := assert100_no w5 T vv hl
        by_cases hcp : T = 102
        · subst hcp
          have HC14 : Hid (y.f0 = 14) := HT2.out.1 rfl
          have hta2 := assert102_yes w5 vv
          obtain ⟨a0, c00, hv⟩ := own_form HO.out
          subst hv
          have p2 : w5.cell? ⟨wc.heap.size, 2, none⟩ = some (.string y.f2) := HE.out.2.2.1.cell 2
          have t2 : w5.cell? ⟨w.heap.size + 1, 2, none⟩ = some (.int .i64 s.f2) := HE.out.2.2.2.cell 2
          have t4 : w5.cell? ⟨w.heap.size + 1, 4, none⟩ = some (.int .i64 s.f4) := HE.out.2.2.2.cell 4
          go_wp2_with (first
            | (at_builtin; refine X.append1 rfl (.tmp 52) (.tmp 60) 56 89 rfl w1.heap.size _ 4 40 Try.underlying56 info89 rfl _ L.length _ rfl HE.out.1.own [.string y.f2, .int .i64 s.f2, .int .i64 s.f4, .int .i64 0] rfl rfl ?_ ?_ ?_ ?_ ?_)
            | fail)
          · first
              | exact ⟨rfl, rfl, rfl, rfl⟩
              | (intro u hu; simp at hu; rcases hu with rfl | rfl | rfl | rfl <;> rfl)
          · simp only [maxLen]; omega
          · omega
          · have h1 := HB.out.size; have h2 := HE.out.1.grown.size; omega
          intro v' w6 hown hap
          have HS : Hid (FR w w6 w1.heap.size (.slice a0 L.length c00) v' (L ++ [⟨y.f2, s.f2, s.f4, 0⟩]) ∧ Blk w6 w.heap.size 26 [.slice Au nu cu, .slice (some a2) rs.length cr]) := by
            have hfr := HE.out.1.append (c := ⟨y.f2, s.f2, s.f4, 0⟩) hown hap
            refine ⟨hfr, ?_⟩
            exact hap.keeps_lt (HE.out.2.1.grown (World.grownBy_alloc _ _ none) (by simp)) (fun e => own_ne89 HE.out.1.own HE.out.2.1 (by decide) e.symm)
          have hiw : wrap64 ((i : Int) + 1) = ((i + 1 : Nat) : Int) := by have := G.out.n; rw [IntWalk.wrap64_in _ (by omega)]; rfl
          clear hown hap HE hta hta2 p2 t2 t4
          go_wp2
          clear hiw
          have HN16 : Hid (xs.length ≤ 16384) := G.out.n
          have HHM := Lib.hid hm
          have HHL := Lib.hid hL
          have HHI := Lib.hid hi
          have HIL : Hid (i < (kk xs).length) := by rw [kk_length]; exact hi
          clear hm hL r0 r1 r2 r3 hlen
          go_loopg [4, 15, 16, 17] ((kk xs).getD i 0).toNat (fun q f tr at_ _ wr => ∃ (d : Nat), q + d = ((kk xs).getD i 0).toNat ∧ tr = .int .i64 (totF (foTo rs xs m i d) : Nat) ∧ at_ = .int .i64 (nextKid (kk xs) i d : Nat) ∧ Hid (FR w wr w1.heap.size (.slice a0 L.length c00) f ((L ++ [(⟨y.f2, s.f2, s.f4, 0⟩ : S89)]) ++ flatF (foTo rs xs m i d)) ∧ Blk wr w.heap.size 26 [.slice Au nu cu, .slice (some a2) rs.length cr]))
          case atStart => exact ⟨0, by simp, rfl, by rw [nextKid_zero]; first | rfl | (rw [IntWalk.wrap64_in _ (by have := HN16.out; omega)]; rfl), by have := HS.out; rw [show flatF (foTo rs xs m i 0) = [] from rfl, List.append_nil]; exact this⟩
          case round =>
            clear HS
            obtain ⟨d, hd, rfl, rfl, HF⟩ := hrel
            have hbw : Hid (Below w1.heap.size w1 wr) := HF.out.1.bel HB.out ⟨_, _, HO.out⟩
            have hge : Hid (Blk wr g 3 (nums .i64 (endsOf (kk xs)))) := G.out.he.below hbw.out G.out.he.lt
            have q0 : wr.cell? ⟨g, i, none⟩ = some (.int .i64 (en (kk xs) i : Nat)) := by
              rw [hge.out.cell, nums, List.getElem?_map, endsOf_get HIL.out]; rfl
            by_cases hlt : d < ((kk xs).getD i 0).toNat
            · obtain ⟨z1, z2, z3, z4, z5⟩ := kid_num (rs := rs) (L0 := ((L ++ [(⟨y.f2, s.f2, s.f4, 0⟩ : S89)])).length) G.out.tr HHI.out hlt HN16.out HHL.out (by rw [List.length_append]; exact Nat.le_refl _) HHM.out
              have HSUC := Lib.hid (nextKid_succ (kk xs) i d)
              have HFS := Lib.hid (foTo_succ rs xs m i d)
              have q1 : wr.cell? ⟨w.heap.size, 0, none⟩ = some (.slice Au nu cu) := HF.out.2.cell 0
              have q2 : wr.cell? ⟨w.heap.size, 1, none⟩ = some (.slice (some a2) rs.length cr) := HF.out.2.cell 1
              have HEN : Hid ((endsOf (kk xs))[nextKid (kk xs) i d]? = some (en (kk xs) (nextKid (kk xs) i d) : Int)) := endsOf_get (by rw [kk_length]; exact z1)
              obtain ⟨p, hp⟩ : ∃ p, nextKid (kk xs) i d = p := ⟨_, rfl⟩
              rw [hp] at z1 z2 z3 z4 z5 HSUC HFS HEN ⊢
              have hlt3 : (p : Int) < (en (kk xs) i : Nat) := Int.ofNat_lt.2 z2
              have hp1 : (p : Int) < (xs.length : Int) := Int.ofNat_lt.2 z1
              have HIH := Lib.hid (IH.out p z5 z1 wr _ _ hbw.out HF.out.1.own (by rw [List.length_append]; exact z3))
              have HZ4 := Lib.hid z4
              have HLT := Lib.hid hlt
              clear z1 z2 z3 z4 z5 hlt hp
              go_wp2_with (fail)
              refine HIH.out.mono ?_
              rintro e w7 ⟨v7, rfl, hfr⟩
              have HF7 : Hid (FR w w7 w1.heap.size (.slice a0 L.length c00) v7 ((L ++ [(⟨y.f2, s.f2, s.f4, 0⟩ : S89)]) ++ flatF (foTo rs xs m i (d + 1))) ∧ Blk w7 w.heap.size 26 [.slice Au nu cu, .slice (some a2) rs.length cr]) := by
                refine ⟨?_, hfr.blk (.inr ⟨_, _, HF.out.1.own⟩) HF.out.2 (by decide)⟩
                rw [HFS.out, flatF_snoc, ← List.append_assoc]
                exact HF.out.1.step hfr
              have hge7 : Hid (Blk w7 g 3 (nums .i64 (endsOf (kk xs)))) := hfr.blk (.inr ⟨_, _, HF.out.1.own⟩) hge.out (by decide)
              have q7 : w7.cell? ⟨g, p, none⟩ = some (.int .i64 (en (kk xs) p : Nat)) := by
                rw [hge7.out.cell, nums, List.getElem?_map, HEN.out]; rfl
              have htot : Hid (totF (foTo rs xs m i (d + 1)) = totF (foTo rs xs m i d) + (fo rs xs m p).2) := by show _ = _; rw [HFS.out, totF_snoc]
              have hwt := int_add2 HZ4.out
              clear HF HIH hfr q0 q1 q2 hge hge7 hbw
              dsimp only
              go_wp2
              go_roundg (((kk xs).getD i 0).toNat - (d + 1))
              case measure => have := HLT.out; clear hwt; omega
              case rel => exact ⟨d + 1, by have := HLT.out; clear hwt; omega, by rw [htot.out]; first | rfl | rw [hwt], by rw [← HSUC.out], HF7⟩
            · have hdK : d = ((kk xs).getD i 0).toNat := by omega
              have hnx : Hid (nextKid (kk xs) i d = en (kk xs) i) := by rw [hdK]; exact nextKid_all HIL.out
              have HKO : Hid (foTo rs xs m i d = (kidsOf (kk xs) i).map (fo rs xs m)) := by show _ = _; rw [foTo, kidsOf, hdK]
              clear hdK hlt hd
              obtain ⟨p, hp⟩ : ∃ p, nextKid (kk xs) i d = p := ⟨_, rfl⟩
              rw [hp] at hnx ⊢
              clear hp
              have hge2 : ¬ (p : Int) < ((en (kk xs) i : Nat) : Int) := by rw [hnx.out]; exact Int.lt_irrefl _
              have hge3 : ¬ p < en (kk xs) i := by rw [hnx.out]; exact Nat.lt_irrefl _
              clear hbw hge
              have hown := HF.out.1.own
              rw [show (L ++ [(⟨y.f2, s.f2, s.f4, 0⟩ : S89)] ++ flatF (foTo rs xs m i d)).length = (L.length + (flatF (foTo rs xs m i d)).length) + 1 by simp; omega] at hown
              obtain ⟨g2, cap2, hf⟩ := own_some hown
              subst hf
              have x0 : wr.cell? ⟨g2, L.length * 4 + 3, none⟩ = some (.int .i64 0) := by
                have := hown.cellAt (L.length * 4 + 3) (by omega)
                rw [this, caps_snoc, caps_app, List.getElem?_append_right (by rw [capsOf_length]; omega), capsOf_length, Nat.add_sub_cancel_left]
                rfl
              have f0 : wr.frozen? ⟨g2, L.length * 4 + 3, none⟩ = false := hown.frozenAt _
              have hst := hown.stored (L.length * 4 + 3) (.int .i64 ((totF (foTo rs xs m i d) : Nat) : Int))
              have HST := Lib.hid hst; clear hst
              have HOW := Lib.hid hown; clear hown
              have hb0 : (L.length : Int) < (L.length : Int) + ((flatF (foTo rs xs m i d)).length : Int) + 1 := by omega
              have hb1 : ¬ (L.length : Int) < 0 := by omega
              go_wp2
              go_ret2
              have e : fo rs xs (m + 1) i = (⟨y.f2, s.f2, s.f4, totF (foTo rs xs m i d)⟩ :: flatF (foTo rs xs m i d), 1) := by
                rw [fo, HSI.out, if_neg (by simp [h3]), HY.out, if_neg HN14.out, if_pos HC14.out, ← HKO.out]
              rw [e]
              exact ⟨_, rfl, HF.out.1.store HST.out⟩
        · have HN15 : Hid (¬ y.f0 = 14) := fun h => hcp (HT2.out.2 h)
          have hta2 := assert102_no w5 T vv hcp
          have hiw : wrap64 ((i : Int) + 1) = ((i + 1 : Nat) : Int) := by have := G.out.n; rw [IntWalk.wrap64_in _ (by omega)]; rfl
          go_wp2
          have HS : Hid (FR w w5 w1.heap.size v v L ∧ Blk w5 w.heap.size 26 [.slice Au nu cu, .slice (some a2) rs.length cr]) := ⟨HE.out.1, HE.out.2.1⟩
          clear HE hta hta2 hiw
          have HN16 : Hid (xs.length ≤ 16384) := G.out.n
          have HHM := Lib.hid hm
          have HHL := Lib.hid hL
          have HHI := Lib.hid hi
          have HIL : Hid (i < (kk xs).length) := by rw [kk_length]; exact hi
          clear hm hL r0 r1 r2 r3 hlen
          go_loopg [4, 15, 16, 17] ((kk xs).getD i 0).toNat (fun q f tr at_ _ wr => ∃ (d : Nat), q + d = ((kk xs).getD i 0).toNat ∧ tr = .int .i64 (totF (foTo rs xs m i d) : Nat) ∧ at_ = .int .i64 (nextKid (kk xs) i d : Nat) ∧ Hid (FR w wr w1.heap.size v f (L ++ flatF (foTo rs xs m i d)) ∧ Blk wr w.heap.size 26 [.slice Au nu cu, .slice (some a2) rs.length cr]))
          case atStart => exact ⟨0, by simp, rfl, by rw [nextKid_zero]; first | rfl | (rw [IntWalk.wrap64_in _ (by have := HN16.out; omega)]; rfl), by have := HS.out; rw [show flatF (foTo rs xs m i 0) = [] from rfl, List.append_nil]; exact this⟩
          case round =>
            clear HS
            obtain ⟨d, hd, rfl, rfl, HF⟩ := hrel
            have hbw : Hid (Below w1.heap.size w1 wr) := HF.out.1.bel HB.out ⟨_, _, HO.out⟩
            have hge : Hid (Blk wr g 3 (nums .i64 (endsOf (kk xs)))) := G.out.he.below hbw.out G.out.he.lt
            have q0 : wr.cell? ⟨g, i, none⟩ = some (.int .i64 (en (kk xs) i : Nat)) := by
              rw [hge.out.cell, nums, List.getElem?_map, endsOf_get HIL.out]; rfl
            by_cases hlt : d < ((kk xs).getD i 0).toNat
            · obtain ⟨z1, z2, z3, z4, z5⟩ := kid_num (rs := rs) (L0 := (L).length) G.out.tr HHI.out hlt HN16.out HHL.out (by omega) HHM.out
              have HSUC := Lib.hid (nextKid_succ (kk xs) i d)
              have HFS := Lib.hid (foTo_succ rs xs m i d)
              have q1 : wr.cell? ⟨w.heap.size, 0, none⟩ = some (.slice Au nu cu) := HF.out.2.cell 0
              have q2 : wr.cell? ⟨w.heap.size, 1, none⟩ = some (.slice (some a2) rs.length cr) := HF.out.2.cell 1
              have HEN : Hid ((endsOf (kk xs))[nextKid (kk xs) i d]? = some (en (kk xs) (nextKid (kk xs) i d) : Int)) := endsOf_get (by rw [kk_length]; exact z1)
              obtain ⟨p, hp⟩ : ∃ p, nextKid (kk xs) i d = p := ⟨_, rfl⟩
              rw [hp] at z1 z2 z3 z4 z5 HSUC HFS HEN ⊢
              have hlt3 : (p : Int) < (en (kk xs) i : Nat) := Int.ofNat_lt.2 z2
              have hp1 : (p : Int) < (xs.length : Int) := Int.ofNat_lt.2 z1
              have HIH := Lib.hid (IH.out p z5 z1 wr _ _ hbw.out HF.out.1.own (by rw [List.length_append]; exact z3))
              have HZ4 := Lib.hid z4
              have HLT := Lib.hid hlt
              clear z1 z2 z3 z4 z5 hlt hp
              go_wp2_with (fail)
              refine HIH.out.mono ?_
              rintro e w7 ⟨v7, rfl, hfr⟩
              have HF7 : Hid (FR w w7 w1.heap.size v v7 (L ++ flatF (foTo rs xs m i (d + 1))) ∧ Blk w7 w.heap.size 26 [.slice Au nu cu, .slice (some a2) rs.length cr]) := by
                refine ⟨?_, hfr.blk (.inr ⟨_, _, HF.out.1.own⟩) HF.out.2 (by decide)⟩
                rw [HFS.out, flatF_snoc, ← List.append_assoc]
                exact HF.out.1.step hfr
              have hge7 : Hid (Blk w7 g 3 (nums .i64 (endsOf (kk xs)))) := hfr.blk (.inr ⟨_, _, HF.out.1.own⟩) hge.out (by decide)
              have q7 : w7.cell? ⟨g, p, none⟩ = some (.int .i64 (en (kk xs) p : Nat)) := by
                rw [hge7.out.cell, nums, List.getElem?_map, HEN.out]; rfl
              have htot : Hid (totF (foTo rs xs m i (d + 1)) = totF (foTo rs xs m i d) + (fo rs xs m p).2) := by show _ = _; rw [HFS.out, totF_snoc]
              have hwt := int_add2 HZ4.out
              clear HF HIH hfr q0 q1 q2 hge hge7 hbw
              dsimp only
              go_wp2
              go_roundg (((kk xs).getD i 0).toNat - (d + 1))
              case measure => have := HLT.out; clear hwt; omega
              case rel => exact ⟨d + 1, by have := HLT.out; clear hwt; omega, by rw [htot.out]; first | rfl | rw [hwt], by rw [← HSUC.out], HF7⟩
            · have hdK : d = ((kk xs).getD i 0).toNat := by omega
              have hnx : Hid (nextKid (kk xs) i d = en (kk xs) i) := by rw [hdK]; exact nextKid_all HIL.out
              have HKO : Hid (foTo rs xs m i d = (kidsOf (kk xs) i).map (fo rs xs m)) := by show _ = _; rw [foTo, kidsOf, hdK]
              clear hdK hlt hd
              obtain ⟨p, hp⟩ : ∃ p, nextKid (kk xs) i d = p := ⟨_, rfl⟩
              rw [hp] at hnx ⊢
              clear hp
              have hge2 : ¬ (p : Int) < ((en (kk xs) i : Nat) : Int) := by rw [hnx.out]; exact Int.lt_irrefl _
              have hge3 : ¬ p < en (kk xs) i := by rw [hnx.out]; exact Nat.lt_irrefl _
              clear hbw hge
              go_wp2
              go_ret2
              have e : fo rs xs (m + 1) i = (flatF (foTo rs xs m i d), totF (foTo rs xs m i d)) := by
                rw [fo, HSI.out, if_neg (by simp [h3]), HY.out, if_neg HN14.out, if_neg HN15.out, ← HKO.out]
              rw [e]
              exact ⟨_, rfl, HF.out.1⟩
    · go_wp2
      go_ret2
      have e : fo rs xs (m + 1) i = ([], 0) := by rw [fo, HSI.out, if_pos h3]
      rw [e, List.append_nil]
      exact ⟨_, rfl, (FR.refl HO.out).below (((Below.refl _ w).alloc (Nat.le_refl _) _).alloc (by simp) _)⟩
end Go.Proofs.Ytmikgaphknbcaaa.B
