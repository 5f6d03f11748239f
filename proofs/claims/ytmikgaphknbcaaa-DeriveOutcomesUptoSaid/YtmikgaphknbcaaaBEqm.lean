/- dowelbook.Texts and dowelbook.Grammars of two that read alike: true; nothing old is written. -/
import Derived.Test.YtmikgaphknbcaaaMD
import Derived.Test.YtmikgaphknbcaaaBGram
namespace Go.Proofs.Ytmikgaphknbcaaa.B
open Go Go.RowKit Go.X Go.Proofs.YtmikgaphknbcaaaW.PrintWords Go.Proofs.Ytmikgaphknbcaaa.F

theorem text_at {w : World} {A : Option Addr} {xs : List ByteArray} (h : Kd.C Kd.string w A xs.length xs) (k : Nat) (hk : k < xs.length) :
    ∃ ad, A = some ad ∧ w.cell? (ad.add k) = some (.string (xs.getD k ⟨#[]⟩)) := by
  obtain ⟨ad, c, e, hl, hK, hc⟩ := Kd.C_get h ⟨#[]⟩ (k : Int) (by omega) (by omega)
  refine ⟨ad, e, ?_⟩
  have hcs : c = [.string (xs.getD k ⟨#[]⟩)] := by rw [Int.toNat_natCast] at hK; exact hK
  have := hc 0 (.string (xs.getD k ⟨#[]⟩)) (by rw [hcs]; rfl)
  have e1 : Kd.string.sz = 1 := rfl
  simpa [e1] using this
def ul (us : List S69) (i : Nat) : S69 := us.getD i z69
theorem use_at {w : World} {A : Option Addr} {xs : List S69} (h : Kd.C k69 w A xs.length xs) (k : Nat) (hk : k < xs.length) :
    ∃ ad, A = some ad ∧ w.cell? (ad.add (k * 2)) = some (.string (ul xs k).f0) ∧ w.cell? ⟨(ad.add (k * 2)).block, (ad.add (k * 2)).off + 1, none⟩ = some (.string (ul xs k).f1) := by
  have := at_T69 h (k : Int) (by omega) (by omega)
  simpa only [Int.toNat_natCast, rd_T69, ul] using this
theorem rule_at {w : World} {A : Option Addr} {xs : List S34} (h : Kd.C k34 w A xs.length xs) (k : Nat) (hk : k < xs.length) :
    ∃ ad A1 c1 A2 c2, A = some ad ∧ w.cell? (ad.add (k * 3)) = some (.string (rl xs k).f0) ∧ w.cell? ⟨(ad.add (k * 3)).block, (ad.add (k * 3)).off + 1, none⟩ = some (.slice A1 (rl xs k).f1.length c1) ∧
      w.cell? ⟨(ad.add (k * 3)).block, (ad.add (k * 3)).off + 2, none⟩ = some (.slice A2 (rl xs k).f2.length c2) ∧ (rl xs k).f1.length ≤ c1 ∧ Kd.C Kd.string w A1 (rl xs k).f1.length (rl xs k).f1 ∧ (rl xs k).f2.length ≤ c2 ∧ Kd.C k47 w A2 (rl xs k).f2.length (rl xs k).f2 := by
  have := at_T34 h (k : Int) (by omega) (by omega)
  simpa only [Int.toNat_natCast, rd_T34, rl] using this
theorem rl_mem {rs : List S34} {i : Nat} (h : i < rs.length) : rl rs i ∈ rs := by rw [rl, List.getD_eq_getElem?_getD, List.getElem?_eq_getElem h]; exact List.getElem_mem h
theorem eqA69 (d : Nat) (w : World) (x0 y0 x1 y1 : ByteArray) :
    (Op.equalIn (d + 2) 69 (.agg #[.string x0, .string x1]) (.agg #[.string y0, .string y1])).run Try.prog w = .ok (x0.toList == y0.toList && (x1.toList == y1.toList)) w := by
  refine eqA_of Try.underlying69 (by kernel_rfl) ?_
  refine eqf_cons (by rfl) (by go_simp; rfl) (by go_simp; rfl) (by go_simp) ?_
  exact eqf_last (by rfl) (by go_simp; rfl) (by go_simp; rfl) (by go_simp)
set_option maxRecDepth 100000 in
set_option maxHeartbeats 4000000 in
theorem Texts.calls (A A1 : Option Addr) (c c1 : Nat) (xs : List ByteArray) (w : World) (hx : Kd.C Kd.string w A xs.length xs) (hy : Kd.C Kd.string w A1 xs.length xs) (hn : xs.length ≤ 4000000) :
    Calls Try.prog 61 #[.slice A xs.length c, .slice A1 xs.length c1] w fun e w' => e = .returned (.bool true) ∧ ∃ q, w' = w.drewN q := by
  have HX := Lib.hid hx; clear hx
  have HY := Lib.hid hy; clear hy
  go_enter Try.func61, Try.ntmps61
  go_wp2
  go_loopg [5] xs.length (fun q v wr => ∃ k : Nat, q + k = xs.length ∧ v = .int .i64 k ∧ Hid (∃ q, wr = w.drewN q))
  case atStart => exact ⟨0, by simp, rfl, 0, rfl⟩
  case round =>
    obtain ⟨k, hk, rfl, HW⟩ := hrel
    obtain ⟨qw, hw⟩ := HW.out
    subst hw
    clear HW
    by_cases hlt : k < xs.length
    · obtain ⟨ad, eA, c0⟩ := text_at HX.out k hlt
      obtain ⟨ad', eA', d0⟩ := text_at HY.out k hlt
      subst eA
      subst eA'
      go_wp2
      go_quiet (fail)
      go_wp2
      go_roundg (xs.length - (k + 1))
      case measure => omega
      case rel => exact ⟨k + 1, by omega, by go_num, ⟨_, rfl⟩⟩
    · go_wp2
      go_ret
      exact ⟨rfl, qw, rfl⟩
attribute [local go_sem high] eqA69
/-- What holds at the head of each round of Grammars and KeptGrammar. -/
def GHead (w wr : World) (Au Ar Bu Br : Option Addr) (cu cr du dr n m : Nat) : Prop :=
  Below w.heap.size w wr ∧ Blk wr w.heap.size 26 [.slice Au n cu, .slice Ar m cr] ∧ Blk wr (w.heap.size + 1) 26 [.slice Bu n du, .slice Br m dr]
theorem GHead.below {w wr w' : World} {Au Ar Bu Br : Option Addr} {cu cr du dr n m : Nat} (h : GHead w wr Au Ar Bu Br cu cr du dr n m) (hb : Below wr.heap.size wr w') : GHead w w' Au Ar Bu Br cu cr du dr n m :=
  ⟨h.1.trans (hb.mono h.1.size), h.2.1.below hb h.2.1.lt, h.2.2.below hb h.2.2.lt⟩
theorem Below.drewQ {w w' : World} (h : ∃ q, w' = w.drewN q) : Below w.heap.size w w' := by
  obtain ⟨q, rfl⟩ := h
  exact ⟨rfl, rfl, rfl, Nat.le_refl _, fun _ _ => rfl⟩
theorem GHead.quiet {w wr w' : World} {Au Ar Bu Br : Option Addr} {cu cr du dr n m : Nat} (h : GHead w wr Au Ar Bu Br cu cr du dr n m) (hq : ∃ q, w' = wr.drewN q) : GHead w w' Au Ar Bu Br cu cr du dr n m := h.below (Below.drewQ hq)
/-- Grammars that read alike, of sizes that may be. -/
def GramOK (us : List S69) (rs : List S34) : Prop := us.length ≤ 1048576 ∧ rs.length ≤ 1048576 ∧ ∀ x ∈ rs, x.f1.length ≤ 1048576 ∧ x.f2.length ≤ 1048576
set_option maxRecDepth 100000 in
set_option maxHeartbeats 4000000 in
theorem Grammars.calls (Au Ar Bu Br : Option Addr) (cu cr du dr : Nat) (us : List S69) (rs : List S34) (w : World) (hu : Kd.C k69 w Au us.length us) (hr : Kd.C k34 w Ar rs.length rs) (hu' : Kd.C k69 w Bu us.length us) (hr' : Kd.C k34 w Br rs.length rs) (hok : GramOK us rs) :
    Calls Try.prog 41 #[.agg #[.slice Au us.length cu, .slice Ar rs.length cr], .agg #[.slice Bu us.length du, .slice Br rs.length dr]] w fun e w' => e = .returned (.bool true) ∧ Below w.heap.size w w' := by
  have HU := Lib.hid hu; clear hu
  have HR := Lib.hid hr; clear hr
  have HU' := Lib.hid hu'; clear hu'
  have HR' := Lib.hid hr'; clear hr'
  obtain ⟨h1, h2, h3⟩ := hok
  have HM := Lib.hid h3; clear h3
  go_enter Try.func41, Try.ntmps41
  go_wp2
  have HB : Hid (GHead w ((w.alloc (.cells #[.slice Au us.length cu, .slice Ar rs.length cr] 26)).alloc (.cells #[.slice Bu us.length du, .slice Br rs.length dr] 26)) Au Ar Bu Br cu cr du dr us.length rs.length) :=
    ⟨((Below.refl _ w).alloc (Nat.le_refl _) _).alloc (by simp) _, (Blk.alloc w _ _).grown (World.grownBy_alloc _ _ none) (by simp), by have := Blk.alloc (w.alloc (.cells #[.slice Au us.length cu, .slice Ar rs.length cr] 26)) #[.slice Bu us.length du, .slice Br rs.length dr] 26; simpa using this⟩
  generalize (w.alloc (.cells #[.slice Au us.length cu, .slice Ar rs.length cr] 26)).alloc (.cells #[.slice Bu us.length du, .slice Br rs.length dr] 26) = wa at *
  go_loopg [5] us.length (fun q v wr => ∃ k : Nat, q + k = us.length ∧ v = .int .i64 k ∧ Hid (GHead w wr Au Ar Bu Br cu cr du dr us.length rs.length))
  case atStart => exact ⟨0, by simp, rfl, HB⟩
  case round =>
    clear HB
    obtain ⟨k, hk, rfl, HW⟩ := hrel
    have a0 : wr.cell? ⟨w.heap.size, 0, none⟩ = some (.slice Au us.length cu) := HW.out.2.1.cell 0
    have b0 : wr.cell? ⟨w.heap.size + 1, 0, none⟩ = some (.slice Bu us.length du) := HW.out.2.2.cell 0
    by_cases hlt : k < us.length
    · obtain ⟨ad, eA, c0, c1⟩ := use_at (Kd.C_below HU.out HW.out.1) k hlt
      obtain ⟨ad', eA', d0, d1⟩ := use_at (Kd.C_below HU'.out HW.out.1) k hlt
      subst eA
      subst eA'
      go_wp2
      go_quiet (fail)
      go_wp2
      go_roundg (us.length - (k + 1))
      case measure => omega
      case rel => exact ⟨k + 1, by omega, by go_num, HW.out.quiet ⟨_, rfl⟩⟩
    · go_wp2
      clear a0 b0
      go_loopg [6] rs.length (fun q v wr => ∃ k : Nat, q + k = rs.length ∧ v = .int .i64 k ∧ Hid (GHead w wr Au Ar Bu Br cu cr du dr us.length rs.length))
      case atStart => exact ⟨0, by simp, rfl, HW⟩
      case round =>
        clear HW hlt
        rename World => wo
        obtain ⟨k, hk, rfl, HW⟩ := hrel
        have a1 : wo.cell? ⟨w.heap.size, 1, none⟩ = some (.slice Ar rs.length cr) := HW.out.2.1.cell 1
        have b1 : wo.cell? ⟨w.heap.size + 1, 1, none⟩ = some (.slice Br rs.length dr) := HW.out.2.2.cell 1
        by_cases hlt : k < rs.length
        · obtain ⟨ad, A1, c1, A2, c2, eA, e0, e1, e2, l1, g1, l2, g2⟩ := rule_at (Kd.C_below HR.out HW.out.1) k hlt
          obtain ⟨ad', A1', c1', A2', c2', eA', d0, d1, d2, l1', g1', l2', g2'⟩ := rule_at (Kd.C_below HR'.out HW.out.1) k hlt
          subst eA
          subst eA'
          clear l1 l2 l1' l2'
          have HMx := HM.out _ (rl_mem hlt)
          have HX := Lib.hid HMx; clear HMx
          generalize rl rs k = x at *
          have G1 := Lib.hid g1; clear g1
          have G2 := Lib.hid g2; clear g2
          have G1' := Lib.hid g1'; clear g1'
          have G2' := Lib.hid g2'; clear g2'
          have hal : Below wo.heap.size wo (wo.alloc (.cells #[.string x.f0, .slice A1 x.f1.length c1, .slice A2 x.f2.length c2] 34)) := (Below.refl _ wo).alloc (Nat.le_refl _) _
          have d0' := Below.cell_some hal d0
          have d1' := Below.cell_some hal d1
          have d2' := Below.cell_some hal d2
          have b1' := Below.cell_some hal b1
          clear hal d0 d1 d2
          go_wp2_with (fail)
          have hal2 : Hid (Below wo.heap.size wo ((wo.alloc (.cells #[.string x.f0, .slice A1 x.f1.length c1, .slice A2 x.f2.length c2] 34)).alloc (.cells #[.string x.f0, .slice A1' x.f1.length c1', .slice A2' x.f2.length c2'] 34))) :=
            ((Below.refl _ wo).alloc (Nat.le_refl _) _).alloc (by simp) _
          clear d0' d1' d2' b1' e0 e1 e2
          refine (Texts.calls A1 A1' c1 c1' x.f1 _ (Kd.C_below G1.out hal2.out) (Kd.C_below G1'.out hal2.out) (by have := HX.out.1; omega)).mono ?_
          rintro e w1 ⟨rfl, q1, rfl⟩
          dsimp only
          go_wp2_with (fail)
          refine (Nodes.calls A2 A2' c2 c2' x.f2 _ (Kd.C_below G2.out (hal2.out.trans (Below.mono (Below.drewQ ⟨q1, rfl⟩) hal2.out.size))) (Kd.C_below G2'.out (hal2.out.trans (Below.mono (Below.drewQ ⟨q1, rfl⟩) hal2.out.size))) (by have := HX.out.2; omega)).mono ?_
          rintro e w2 ⟨rfl, q2, rfl⟩
          dsimp only
          go_wp2
          go_roundg (rs.length - (k + 1))
          case measure => omega
          case rel => exact ⟨k + 1, by omega, by go_num, (HW.out.below hal2.out).quiet ⟨q1 + q2, rfl⟩⟩
        · go_wp2
          go_ret
          exact ⟨rfl, HW.out.1⟩
end Go.Proofs.Ytmikgaphknbcaaa.B
