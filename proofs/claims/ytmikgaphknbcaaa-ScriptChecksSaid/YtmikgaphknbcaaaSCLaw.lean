/- The walk of the law ScriptChecks. -/
import Derived.Test.YtmikgaphknbcaaaMWeight
import Derived.Test.YtmikgaphknbcaaaCCheck2
import Derived.Test.YtmikgaphknbcaaaBNodes
namespace Go.Proofs.Ytmikgaphknbcaaa.B
open Go Go.RowKit Go.X Go.Proofs.YtmikgaphknbcaaaW.PrintWords Go.Proofs.Ytmikgaphknbcaaa.F

def litNode : S47 := ⟨3, 0, ⟨#[]⟩, false, z45, 0, 0⟩
theorem litNode_C (w : World) : Kd.C k47 (w.alloc (.cells (nodeCells litNode).toArray 47)) (some ⟨w.heap.size, 0, none⟩) [litNode].length [litNode] :=
  X.C_of_blk (cs := nodeCells litNode) (rest := []) (by have := Blk.alloc w (nodeCells litNode).toArray 47; simpa using this) ((Reps.none _ _).snoc (nodeCells_k _ _) rfl) (by decide)
theorem litNode_ok : exprCode [litNode] = 0 := by decide +kernel
theorem litNode_fit : TextsFit [litNode] := fun x hx => by
  obtain rfl : x = litNode := by simpa using hx
  decide
set_option maxRecDepth 100000 in
set_option maxHeartbeats 4000000 in
theorem ScriptChecks.calls (Au Ar Ae : Option Addr) (cu cr ce : Nat) (us : List S69) (rs : List S34) (xs : List S47) (w : World) (hu : Kd.C k69 w Au us.length us) (hr : Kd.C k34 w Ar rs.length rs) (he : Kd.C k47 w Ae xs.length xs)
    (hf : GramFit us rs) (ht : GramTexts us rs) (hx : TextsFit xs) :
    Calls Try.prog 13 #[.agg #[.slice Au us.length cu, .slice Ar rs.length cr], .slice Ae xs.length ce] w fun e w' => e = .returned (.bool true) ∧ Below w.heap.size w w' := by
  have HU := Lib.hid hu; clear hu
  have HR := Lib.hid hr; clear hr
  have HE := Lib.hid he; clear he
  have HF := Lib.hid hf; clear hf
  have HT := Lib.hid ht; clear ht
  have HX := Lib.hid hx; clear hx
  go_enter Try.func13, Try.ntmps13
  go_wp2_with (fail)
  have HB : Hid (Below w.heap.size w (w.alloc (.cells #[.slice Au us.length cu, .slice Ar rs.length cr] 26)) ∧ Blk (w.alloc (.cells #[.slice Au us.length cu, .slice Ar rs.length cr] 26)) w.heap.size 26 [.slice Au us.length cu, .slice Ar rs.length cr]) :=
    ⟨(Below.refl _ w).alloc (Nat.le_refl _) _, Blk.alloc w _ _⟩
  generalize w.alloc (.cells #[.slice Au us.length cu, .slice Ar rs.length cr] 26) = wa at *
  refine (Weight.calls _ _ _ _ us rs wa (Kd.C_below HR.out HB.out.1) HF.out).mono ?_
  rintro e w1 ⟨rfl, hb⟩
  have HB1 : Hid (Below w.heap.size w w1 ∧ Blk w1 w.heap.size 26 [.slice Au us.length cu, .slice Ar rs.length cr]) :=
    ⟨HB.out.1.trans (hb.mono HB.out.1.size), HB.out.2.below hb HB.out.2.lt⟩
  clear hb HB
  dsimp only
  by_cases hbig : 1048576 < wt rs us.length
  · go_wp2
    go_ret
    exact ⟨rfl, HB1.out.1⟩
  by_cases hbig2 : 1048576 < xs.length
  · have h2' : (1048576 : Int) < (xs.length : Int) := by omega
    go_wp2
    go_ret
    exact ⟨rfl, HB1.out.1⟩
  have h2' : ¬ (1048576 : Int) < (xs.length : Int) := by omega
  have hxl : xs.length ≤ 1048576 := by omega
  have HOK : Hid (GramOK us rs) := gramOK_of_wt (by omega)
  have a0 : w1.cell? ⟨w.heap.size, 0, none⟩ = some (.slice Au us.length cu) := HB1.out.2.cell 0
  have a1 : w1.cell? ⟨w.heap.size, 1, none⟩ = some (.slice Ar rs.length cr) := HB1.out.2.cell 1
  go_wp2_with (fail)
  clear hbig hbig2 h2' a0 a1
  refine (LendGrammar.calls Au Ar cu cr us rs w1 (Kd.C_below HU.out HB1.out.1) (Kd.C_below HR.out HB1.out.1) HOK.out.1 HOK.out.2.1 HOK.out.2.2).mono ?_
  rintro e w2 ⟨bu, br, P, Q, rfl, hg, _, _, hb⟩
  have HB2 : Hid (Below w.heap.size w w2 ∧ Blk w2 w.heap.size 26 [.slice Au us.length cu, .slice Ar rs.length cr] ∧ GramAt w2 w1.heap.size bu br us rs P Q) :=
    ⟨HB1.out.1.trans (hb.mono HB1.out.1.size), HB1.out.2.below hb HB1.out.2.lt, hg⟩
  clear hb hg HB1
  dsimp only
  go_wp2_with (fail)
  have HB3 : ∀ wb : World, wb = w2.alloc (.cells #[.slice (some ⟨bu, 0, none⟩) us.length (us.length + 1), .slice (some ⟨br, 0, none⟩) rs.length (rs.length + 1)] 26) →
      Hid (Below w.heap.size w wb ∧ Blk wb w.heap.size 26 [.slice Au us.length cu, .slice Ar rs.length cr] ∧ Blk wb w2.heap.size 26 [.slice (some ⟨bu, 0, none⟩) us.length (us.length + 1), .slice (some ⟨br, 0, none⟩) rs.length (rs.length + 1)] ∧ GramAt wb w1.heap.size bu br us rs P Q) := by
    rintro wb rfl
    exact ⟨HB2.out.1.alloc HB2.out.1.size _, HB2.out.2.1.grown (World.grownBy_alloc _ _ none) (by simp), Blk.alloc w2 _ _, HB2.out.2.2.below ((Below.refl _ w2).alloc (Nat.le_refl _) _)⟩
  generalize hwb : w2.alloc (.cells #[.slice (some ⟨bu, 0, none⟩) us.length (us.length + 1), .slice (some ⟨br, 0, none⟩) rs.length (rs.length + 1)] 26) = wb
  have HB := HB3 wb hwb.symm
  clear HB3 hwb HB2
  generalize w2.heap.size = own at *
  refine (LendNodes.calls Ae ce xs wb (Kd.C_below HE.out HB.out.1) hxl).mono ?_
  rintro e w3 ⟨bx, rfl, hlx, _, hb⟩
  have HC : Hid (Below w.heap.size w w3 ∧ Blk w3 w.heap.size 26 [.slice Au us.length cu, .slice Ar rs.length cr] ∧ Blk w3 own 26 [.slice (some ⟨bu, 0, none⟩) us.length (us.length + 1), .slice (some ⟨br, 0, none⟩) rs.length (rs.length + 1)] ∧ GramAt w3 w1.heap.size bu br us rs P Q ∧ Lent k47 47 w3 bx xs holdNode) :=
    ⟨HB.out.1.trans (hb.mono HB.out.1.size), HB.out.2.1.below hb HB.out.2.1.lt, HB.out.2.2.1.below hb HB.out.2.2.1.lt, HB.out.2.2.2.below hb, hlx⟩
  clear hb hlx HB
  dsimp only
  go_wp2
  have a0 : w3.cell? ⟨w.heap.size, 0, none⟩ = some (.slice Au us.length cu) := HC.out.2.1.cell 0
  have a1 : w3.cell? ⟨w.heap.size, 1, none⟩ = some (.slice Ar rs.length cr) := HC.out.2.1.cell 1
  have b0 : w3.cell? ⟨own, 0, none⟩ = some (.slice (some ⟨bu, 0, none⟩) us.length (us.length + 1)) := HC.out.2.2.1.cell 0
  have b1 : w3.cell? ⟨own, 1, none⟩ = some (.slice (some ⟨br, 0, none⟩) rs.length (rs.length + 1)) := HC.out.2.2.1.cell 1
  have HBK : Hid (Below w3.heap.size w3 w3.drew) := (Below.refl _ _).drew
  obtain ⟨cc, hcc⟩ : ∃ cc, checkCode us rs = cc := ⟨_, rfl⟩
  have HCC := Lib.hid hcc; clear hcc
  go_region_held3 (fun w' => w'.cell? ⟨w.heap.size, 0, none⟩ = some (.slice Au us.length cu) ∧ w'.cell? ⟨w.heap.size, 1, none⟩ = some (.slice Ar rs.length cr) ∧ w'.cell? ⟨own, 0, none⟩ = some (.slice (some ⟨bu, 0, none⟩) us.length (us.length + 1)) ∧ w'.cell? ⟨own, 1, none⟩ = some (.slice (some ⟨br, 0, none⟩) rs.length (rs.length + 1)))
    (first
      | exact ⟨Below.cell_some hbk7.out a0, Below.cell_some hbk7.out a1, Below.cell_some hbk7.out b0, Below.cell_some hbk7.out b1⟩
      | exact ⟨Below.cell_some hbk6.out a0, Below.cell_some hbk6.out a1, Below.cell_some hbk6.out b0, Below.cell_some hbk6.out b1⟩
      | exact ⟨Below.cell_some hbk5.out a0, Below.cell_some hbk5.out a1, Below.cell_some hbk5.out b0, Below.cell_some hbk5.out b1⟩
      | go_keep)
    (first
      | (go_at_call 29; refine (Check.calls _ _ _ _ us rs _ (Kd.C_below (HC.out.2.2.2.1.uses (by have := HOK.out.1; omega)) HBK.out) (Kd.C_below (HC.out.2.2.2.1.rules HOK.out) HBK.out) HOK.out HT.out).mono ?_; rintro e w5 ⟨he, hbl⟩; rw [HCC.out] at he; subst he
         have hbk5 : Hid (Below w3.heap.size w3 w5) := HBK.out.trans hbl
         clear hbl)
      | (go_at_call 30; refine (CheckR.calls _ _ _ _ us rs _ (Kd.C_below HU.out (HC.out.1.trans (hbk5.out.mono HC.out.1.size))) (Kd.C_below HR.out (HC.out.1.trans (hbk5.out.mono HC.out.1.size))) HOK.out HT.out).mono ?_; rintro e w6 ⟨he, hbl⟩; rw [HCC.out] at he; subst he
         have hbk6 : Hid (Below w3.heap.size w3 w6) := hbk5.out.trans (hbl.mono hbk5.out.size)
         clear hbl)
      | (go_at_call 19; refine (KeptGrammar.calls bu br _ P Q _ _ _ _ us rs _ (HC.out.2.2.2.1.below hbk6.out) (Kd.C_below HU.out (HC.out.1.trans (hbk6.out.mono HC.out.1.size))) (Kd.C_below HR.out (HC.out.1.trans (hbk6.out.mono HC.out.1.size))) HOK.out).mono ?_; rintro e w7 ⟨rfl, hbl⟩
         have hbk7 : Hid (Below w3.heap.size w3 w7) := hbk6.out.trans (hbl.mono hbk6.out.size)
         clear hbl))
  have HL : Hid (Below w.heap.size w w7 ∧ Lent k47 47 w7 bx xs holdNode) := ⟨HC.out.1.trans (hbk7.out.mono HC.out.1.size), HC.out.2.2.2.2.below hbk7.out⟩
  clear a0 a1 b0 b1 HBK HCC hbk5 hbk6 hbk7 HC HOK HT HF HU HR
  rename_i hHeld
  clear hHeld
  generalize hcx : exprCode xs = cx
  have HCX := Lib.hid hcx; clear hcx
  go_wp2_with (fail)
  refine (CheckExpr.calls (some ⟨bx, 0, none⟩) (xs.length + 1) xs w7 (HL.out.2.C (by omega)) HX.out).mono ?_
  rintro e w8 ⟨he, hb⟩
  rw [HCX.out] at he; subst he
  have HL2 : Hid (Below w.heap.size w w8 ∧ Lent k47 47 w8 bx xs holdNode) := ⟨HL.out.1.trans (hb.mono HL.out.1.size), HL.out.2.below hb⟩
  clear hb HL
  dsimp only
  go_wp2_with (fail)
  refine (CheckExprR.calls Ae ce xs w8 (Kd.C_below HE.out HL2.out.1) HX.out).mono ?_
  rintro e w9 ⟨he, hb⟩
  rw [HCX.out] at he; subst he
  have HL3 : Hid (Below w.heap.size w w9 ∧ Lent k47 47 w9 bx xs holdNode) := ⟨HL2.out.1.trans (hb.mono HL2.out.1.size), HL2.out.2.below hb⟩
  clear hb HL2
  dsimp only
  go_wp2_with (fail)
  refine (Nodes.calls (some ⟨bx, 0, none⟩) Ae (xs.length + 1) ce xs w9 (HL3.out.2.C (by omega)) (Kd.C_below HE.out HL3.out.1) (by omega)).mono ?_
  rintro e w10 ⟨rfl, hb⟩
  have HL4 : Hid (Below w.heap.size w w10 ∧ Lent k47 47 w10 bx xs holdNode) := ⟨HL3.out.1.trans ((Below.drewQ hb).mono HL3.out.1.size), HL3.out.2.below (Below.drewQ hb)⟩
  clear hb HL3
  dsimp only
  have hh : w10.cell? ⟨bx, xs.length * 10, none⟩ = some (.int .i64 (-77)) := HL4.out.2.hold 0 rfl
  have hw : wrap64 ((xs.length : Int) + 1) = ((xs.length + 1 : Nat) : Int) := by rw [IntWalk.wrap64_in _ (by omega)]; rfl
  go_wp2_with (fail)
  have HA : Hid (Below w10.heap.size w10 (w10.alloc (.cells (nodeCells litNode).toArray 47))) := (Below.refl _ w10).alloc (Nat.le_refl _) _
  refine (CheckExpr.calls (some ⟨w10.heap.size, 0, none⟩) 1 [litNode] (w10.alloc (.cells (nodeCells litNode).toArray 47)) (litNode_C w10) litNode_fit).mono ?_
  rintro e w11 ⟨he, hb⟩
  rw [litNode_ok] at he; subst he
  have HL5 : Hid (Below w.heap.size w w11) := HL4.out.1.trans ((HA.out.trans (hb.mono HA.out.size)).mono HL4.out.1.size)
  clear hb HL4 HA
  dsimp only
  go_wp2
  go_ret
  exact ⟨rfl, HL5.out⟩
end Go.Proofs.Ytmikgaphknbcaaa.B
