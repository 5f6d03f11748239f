/- The walk of the law MacroFlats. -/
import Derived.Test.YtmikgaphknbcaaaMFlat
namespace Go.Proofs.Ytmikgaphknbcaaa.B
open Go Go.RowKit Go.X Go.Proofs.YtmikgaphknbcaaaW.PrintWords Go.Proofs.Ytmikgaphknbcaaa.F

theorem C_nil {α : Type} (d : Kd α) (w : World) : Kd.C d w none 0 [] := ⟨rfl, by omega, fun h => absurd h (Nat.lt_irrefl _)⟩
def ruleX : S34 := ⟨⟨#[65]⟩, [⟨#[120]⟩], []⟩
theorem ruleX_C (w : World) : Kd.C k34 ((w.alloc (.cells #[.string ⟨#[120]⟩] 9)).alloc (.cells #[.string ⟨#[65]⟩, .slice (some ⟨w.heap.size, 0, none⟩) 1 1, .slice none 0 0] 34)) (some ⟨w.heap.size + 1, 0, none⟩) [ruleX].length [ruleX] := by
  have hp : Kd.C Kd.string ((w.alloc (.cells #[.string ⟨#[120]⟩] 9)).alloc (.cells #[.string ⟨#[65]⟩, .slice (some ⟨w.heap.size, 0, none⟩) 1 1, .slice none 0 0] 34)) (some ⟨w.heap.size, 0, none⟩) 1 [⟨#[120]⟩] :=
    Kd.C_below (X.C_of_blk (d := Kd.string) (cs := [.string ⟨#[120]⟩]) (rest := []) (by have := Blk.alloc w #[.string ⟨#[120]⟩] 9; simpa using this) ((Reps.none _ _).snoc rfl rfl) (by decide)) ((Below.refl _ (w.alloc (.cells #[.string ⟨#[120]⟩] 9))).alloc (Nat.le_refl _) _)
  refine X.C_of_blk (cs := [.string ⟨#[65]⟩, .slice (some ⟨w.heap.size, 0, none⟩) 1 1, .slice none 0 0]) (rest := []) (by have := Blk.alloc (w.alloc (.cells #[.string ⟨#[120]⟩] 9)) #[.string ⟨#[65]⟩, .slice (some ⟨w.heap.size, 0, none⟩) 1 1, .slice none 0 0] 34; simpa using this) ?_ (by decide)
  exact (Reps.none _ _).snoc (k34_mk _ ruleX (c1 := 1) (c2 := 0) (by decide) hp (by decide) (C_nil _ _)) rfl
set_option maxRecDepth 100000 in
set_option maxHeartbeats 4000000 in
theorem MacroFlats.calls (Au Ar : Option Addr) (cu cr : Nat) (us : List S69) (rs : List S34) (w : World) (hu : Kd.C k69 w Au us.length us) (hr : Kd.C k34 w Ar rs.length rs) (hf : GramFit us rs) :
    Calls Try.prog 11 #[.agg #[.slice Au us.length cu, .slice Ar rs.length cr]] w fun e w' => e = .returned (.bool true) ∧ Below w.heap.size w w' := by
  have HU := Lib.hid hu; clear hu
  have HR := Lib.hid hr; clear hr
  have HF := Lib.hid hf; clear hf
  go_enter Try.func11, Try.ntmps11
  go_wp2_with (fail)
  have HB : Hid (Below w.heap.size w (w.alloc (.cells #[.slice Au us.length cu, .slice Ar rs.length cr] 26)) ∧ Blk (w.alloc (.cells #[.slice Au us.length cu, .slice Ar rs.length cr] 26)) w.heap.size 26 [.slice Au us.length cu, .slice Ar rs.length cr]) :=
    ⟨(Below.refl _ w).alloc (Nat.le_refl _) _, Blk.alloc w _ _⟩
  generalize w.alloc (.cells #[.slice Au us.length cu, .slice Ar rs.length cr] 26) = wa at *
  refine (heavy08.calls _ _ _ _ us rs wa (Kd.C_below HR.out HB.out.1) HF.out).mono ?_
  rintro e w1 ⟨rfl, hb⟩
  have HB1 : Hid (Below w.heap.size w w1 ∧ Blk w1 w.heap.size 26 [.slice Au us.length cu, .slice Ar rs.length cr]) :=
    ⟨HB.out.1.trans (hb.mono HB.out.1.size), HB.out.2.below hb HB.out.2.lt⟩
  clear hb HB
  dsimp only
  by_cases hbig : 1048576 < wt rs us.length
  · go_wp2
    go_ret
    exact ⟨rfl, HB1.out.1⟩
  have HOK : Hid (GramOK us rs) := gramOK_of_wt (by omega)
  have a0 : w1.cell? ⟨w.heap.size, 0, none⟩ = some (.slice Au us.length cu) := HB1.out.2.cell 0
  have a1 : w1.cell? ⟨w.heap.size, 1, none⟩ = some (.slice Ar rs.length cr) := HB1.out.2.cell 1
  go_wp2_with (fail)
  clear hbig a0 a1
  refine (LendGrammar.calls Au Ar cu cr us rs w1 (Kd.C_below HU.out HB1.out.1) (Kd.C_below HR.out HB1.out.1) HOK.out.1 HOK.out.2.1 HOK.out.2.2).mono ?_
  rintro e w2 ⟨bu, br, P, Q, rfl, hg, _, _, hb⟩
  have HB2 : Hid (Below w.heap.size w w2 ∧ Blk w2 w.heap.size 26 [.slice Au us.length cu, .slice Ar rs.length cr] ∧ GramAt w2 w1.heap.size bu br us rs P Q) :=
    ⟨HB1.out.1.trans (hb.mono HB1.out.1.size), HB1.out.2.below hb HB1.out.2.lt, hg⟩
  clear hb hg HB1
  dsimp only
  go_wp2
  have HB3 : ∀ wb : World, wb = w2.alloc (.cells #[.slice (some ⟨bu, 0, none⟩) us.length (us.length + 1), .slice (some ⟨br, 0, none⟩) rs.length (rs.length + 1)] 26) →
      Hid (Below w.heap.size w wb ∧ Blk wb w.heap.size 26 [.slice Au us.length cu, .slice Ar rs.length cr] ∧ Blk wb w2.heap.size 26 [.slice (some ⟨bu, 0, none⟩) us.length (us.length + 1), .slice (some ⟨br, 0, none⟩) rs.length (rs.length + 1)] ∧ GramAt wb w1.heap.size bu br us rs P Q) := by
    rintro wb rfl
    exact ⟨HB2.out.1.alloc HB2.out.1.size _, HB2.out.2.1.grown (World.grownBy_alloc _ _ none) (by simp), Blk.alloc w2 _ _, HB2.out.2.2.below ((Below.refl _ w2).alloc (Nat.le_refl _) _)⟩
  generalize hwb : w2.alloc (.cells #[.slice (some ⟨bu, 0, none⟩) us.length (us.length + 1), .slice (some ⟨br, 0, none⟩) rs.length (rs.length + 1)] 26) = wb
  have HB := HB3 wb hwb.symm
  clear HB3 hwb
  have HB2' := HB2.out.1.size
  clear HB2
  generalize w2.heap.size = own at *
  have a0 : wb.cell? ⟨w.heap.size, 0, none⟩ = some (.slice Au us.length cu) := HB.out.2.1.cell 0
  have a1 : wb.cell? ⟨w.heap.size, 1, none⟩ = some (.slice Ar rs.length cr) := HB.out.2.1.cell 1
  have b0 : wb.cell? ⟨own, 0, none⟩ = some (.slice (some ⟨bu, 0, none⟩) us.length (us.length + 1)) := HB.out.2.2.1.cell 0
  have b1 : wb.cell? ⟨own, 1, none⟩ = some (.slice (some ⟨br, 0, none⟩) rs.length (rs.length + 1)) := HB.out.2.2.1.cell 1
  have HBK : Hid (Below wb.heap.size wb wb.drew) := (Below.refl _ _).drew
  obtain ⟨fb, hfb⟩ : ∃ fb, flatOf rs = fb := ⟨_, rfl⟩
  have HFB := Lib.hid hfb; clear hfb
  cases fb
  all_goals
    go_region_held3 (fun w' => w'.cell? ⟨w.heap.size, 0, none⟩ = some (.slice Au us.length cu) ∧ w'.cell? ⟨w.heap.size, 1, none⟩ = some (.slice Ar rs.length cr) ∧ w'.cell? ⟨own, 0, none⟩ = some (.slice (some ⟨bu, 0, none⟩) us.length (us.length + 1)) ∧ w'.cell? ⟨own, 1, none⟩ = some (.slice (some ⟨br, 0, none⟩) rs.length (rs.length + 1)))
      (first
        | exact ⟨Below.cell_some hbk7.out a0, Below.cell_some hbk7.out a1, Below.cell_some hbk7.out b0, Below.cell_some hbk7.out b1⟩
        | exact ⟨Below.cell_some hbk6.out a0, Below.cell_some hbk6.out a1, Below.cell_some hbk6.out b0, Below.cell_some hbk6.out b1⟩
        | exact ⟨Below.cell_some hbk5.out a0, Below.cell_some hbk5.out a1, Below.cell_some hbk5.out b0, Below.cell_some hbk5.out b1⟩
        | go_keep)
      (first
        | (go_at_call 17; refine (Flat.calls _ _ _ _ _ rs _ (Kd.C_below (HB.out.2.2.2.rules HOK.out) HBK.out)).mono ?_; rintro e w5 ⟨he, hbl⟩; rw [HFB.out] at he; subst he
           have hbk5 : Hid (Below wb.heap.size wb w5) := HBK.out.trans hbl
           clear hbl)
        | (go_at_call 18; refine (RefFlat.calls _ _ _ _ _ rs _ (Kd.C_below HR.out (HB.out.1.trans (hbk5.out.mono HB.out.1.size)))).mono ?_; rintro e w6 ⟨he, hbl⟩; rw [HFB.out] at he; subst he
           have hbk6 : Hid (Below wb.heap.size wb w6) := hbk5.out.trans (hbl.mono hbk5.out.size)
           clear hbl)
        | (go_at_call 19; refine (KeptGrammar.calls bu br _ P Q _ _ _ _ us rs _ (HB.out.2.2.2.below hbk6.out) (Kd.C_below HU.out (HB.out.1.trans (hbk6.out.mono HB.out.1.size))) (Kd.C_below HR.out (HB.out.1.trans (hbk6.out.mono HB.out.1.size))) HOK.out).mono ?_; rintro e w7 ⟨rfl, hbl⟩
           have hbk7 : Hid (Below wb.heap.size wb w7) := hbk6.out.trans (hbl.mono hbk6.out.size)
           clear hbl))
  all_goals
    have HB8 : Hid (Below w.heap.size w w7) := HB.out.1.trans (hbk7.out.mono HB.out.1.size)
    clear a0 a1 b0 b1 HBK hbk5 hbk6 hbk7 HB HFB
    go_wp2_with (fail)
    refine (Flat.calls none none 0 0 0 [] w7 (C_nil _ _)).mono ?_
    rintro e w8 ⟨rfl, hb⟩
    have HB9 : Hid (Below w.heap.size w w8) := HB8.out.trans (hb.mono HB8.out.size)
    clear hb HB8
    dsimp only
    go_wp2_with (fail)
    have HC : Hid (Below w.heap.size w ((w8.alloc (.cells #[.string ⟨#[120]⟩] 9)).alloc (.cells #[.string ⟨#[65]⟩, .slice (some ⟨w8.heap.size, 0, none⟩) 1 1, .slice none 0 0] 34))) :=
      (HB9.out.alloc HB9.out.size _).alloc (by have := HB9.out.size; simp; omega) _
    refine (Flat.calls none (some ⟨w8.heap.size + 1, 0, none⟩) 0 0 1 [ruleX] _ (ruleX_C w8)).mono ?_
    rintro e w9 ⟨rfl, hb⟩
    have HB10 : Hid (Below w.heap.size w w9) := HC.out.trans (hb.mono HC.out.size)
    clear hb HB9 HC
    have hX : flatOf [ruleX] = false := by decide
    dsimp only
    go_wp2
    go_ret
    exact ⟨rfl, HB10.out⟩
end Go.Proofs.Ytmikgaphknbcaaa.B
