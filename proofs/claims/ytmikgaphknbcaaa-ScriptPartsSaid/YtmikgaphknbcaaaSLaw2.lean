/- The walk of the law ScriptParts. -/
import Derived.Test.YtmikgaphknbcaaaSLaw
namespace Go.Proofs.Ytmikgaphknbcaaa.B
open Go Go.RowKit Go.X Go.Proofs.YtmikgaphknbcaaaW.PrintWords Go.Proofs.Ytmikgaphknbcaaa.F

theorem Below.of_drewN {w w' : World} (h : ∃ q, w' = w.drewN q) : Below w.heap.size w w' := by
  obtain ⟨q, rfl⟩ := h
  exact ⟨rfl, rfl, rfl, Nat.le_refl _, fun _ _ => rfl⟩
def litNodes : List S47 := [⟨3, 0, ⟨#[]⟩, false, z45, 0, 0⟩, ⟨3, 0, ⟨#[]⟩, false, z45, 0, 0⟩, ⟨6, 2, ⟨#[]⟩, false, z45, 0, 0⟩]
theorem parts_lit : partsOf litNodes 2 = [0, 1] := by decide
theorem partsOf_length (xs : List S47) (i : Int) : (partsOf xs i).length ≤ xs.length := by
  unfold partsOf
  split
  · rename_i h
    have := begs_parts xs i.toNat (by omega) h.2.2
    rw [backs_length]
    omega
  · simp

theorem Reps_nodes (w : World) (xs : List S47) : Reps (k47.K w) k47.sz xs (xs.flatMap nodeCells) := by
  suffices H : ∀ (ys zs : List S47) (cs : List Value), Reps (k47.K w) k47.sz ys cs → Reps (k47.K w) k47.sz (ys ++ zs) (cs ++ zs.flatMap nodeCells) from H [] xs [] (Reps.none _ _)
  intro ys zs
  induction zs generalizing ys with
  | nil => intro cs h; simpa using h
  | cons z zs ih =>
    intro cs h
    have := ih (ys ++ [z]) (cs ++ nodeCells z) (h.snoc (nodeCells_k w z) rfl)
    simpa using this
theorem lit_C (w : World) : Kd.C k47 (w.alloc (.cells (litNodes.flatMap nodeCells).toArray 47)) (some ⟨w.heap.size, 0, none⟩) litNodes.length litNodes :=
  X.C_of_blk (cs := litNodes.flatMap nodeCells) (rest := []) (by have := Blk.alloc w (litNodes.flatMap nodeCells).toArray 47; simpa using this) (Reps_nodes _ _) (by decide)
set_option maxRecDepth 100000 in
set_option maxHeartbeats 4000000 in
theorem ScriptParts.calls (A : Option Addr) (c : Nat) (xs : List S47) (i k : Int) (w : World) (hr : Kd.C k47 w A xs.length xs) (hc : xs.length ≤ c) :
    Calls Try.prog 12 #[.slice A xs.length c, .int .i64 i, .int .i64 k] w fun e w' => e = .returned (.bool true) ∧ Below w.heap.size w w' := by
  have HR := Lib.hid hr; clear hr
  have HCC := Lib.hid hc; clear hc
  by_cases hbig : 1048576 < xs.length
  · go_enter Try.func12, Try.ntmps12
    go_wp2
    go_ret
    exact ⟨rfl, Below.refl _ _⟩
  have hn : xs.length ≤ 1048576 := by omega
  clear hbig
  go_enter Try.func12, Try.ntmps12
  go_wp2_with (fail)
  refine (LendNodes.calls A c xs w HR.out hn).mono ?_
  rintro e w1 ⟨b, rfl, hl, hb, hbel⟩
  have HS : Hid (LS w w1 b xs []) := ⟨hl, hb, hbel, fun j p hj => by simp at hj, fun i j p q _ hi _ => by simp at hi⟩
  clear hl hb hbel
  dsimp only
  -- a
  go_wp2_with (fail)
  refine (Parts.calls _ (xs.length + 1) xs i w1 (HS.out.own hn) (by omega) (by omega)).mono ?_
  rintro e w2 ho
  obtain ⟨Aa, ca, rfl, hS⟩ := HS.out.add ho
  clear HS ho
  have HS := Lib.hid hS; clear hS
  dsimp only
  -- b
  go_wp2_with (fail)
  refine (Parts.calls _ (xs.length + 1) xs k w2 (HS.out.own hn) (by omega) (by omega)).mono ?_
  rintro e w3 ho
  obtain ⟨Ab, cb, rfl, hS⟩ := HS.out.add ho
  clear HS ho
  have HS := Lib.hid hS; clear hS
  dsimp only
  -- c
  go_wp2_with (fail)
  refine (Parts.calls _ (xs.length + 1) xs i w3 (HS.out.own hn) (by omega) (by omega)).mono ?_
  rintro e w4 ho
  obtain ⟨Ac, cc, rfl, hS⟩ := HS.out.add ho
  clear HS ho
  have HS := Lib.hid hS; clear hS
  dsimp only
  -- d
  go_wp2_with (fail)
  refine (Parts.calls _ (xs.length + 1) xs (xs.length - 1) w4 (HS.out.own hn) (by omega) (by omega)).mono ?_
  rintro e w5 ho
  obtain ⟨Ad, cd, rfl, hS⟩ := HS.out.add ho
  clear HS ho
  have HS := Lib.hid hS; clear hS
  dsimp only
  -- want
  go_wp2_with (fail)
  refine (PartsR.calls A c xs i w5 (Kd.C_below HR.out HS.out.bel) (by omega)).mono ?_
  rintro e w6 ho
  obtain ⟨Aw, cw, rfl, hS⟩ := HS.out.add ho
  clear HS ho
  have HS := Lib.hid hS; clear hS
  dsimp only
  have hl1 := partsOf_length xs i
  have hl2 := partsOf_length xs k
  have hl3 := partsOf_length xs (xs.length - 1)
  -- Ints(a, want)
  go_wp2_with (fail)
  refine (Ints.calls Aa Aw ca cw _ _ _ w6 (HS.out.C 0 rfl) (HS.out.C 4 rfl) rfl (by omega)).mono ?_
  rintro e w7 ⟨rfl, hb⟩
  have HS2 := Lib.hid (HS.out.below (Below.of_drewN hb))
  clear HS hb
  dsimp only
  -- Ints(b, ref.Parts(x, k))
  go_wp2_with (fail)
  refine (PartsR.calls A c xs k w7 (Kd.C_below HR.out HS2.out.bel) (by omega)).mono ?_
  rintro e w8 ⟨v, rfl, ho, hb⟩
  have HS := Lib.hid (HS2.out.below hb)
  obtain ⟨Ae, ce, rfl, -, hC⟩ := C_of_own ho
  have HC := Lib.hid hC
  clear HS2 ho hb hC
  dsimp only
  go_wp2_with (fail)
  refine (Ints.calls Ab Ae cb ce _ _ _ w8 (HS.out.C 1 rfl) HC.out rfl (by omega)).mono ?_
  rintro e w9 ⟨rfl, hb⟩
  have HS2 := Lib.hid (HS.out.below (Below.of_drewN hb))
  clear HS HC hb
  dsimp only
  -- Ints(c, want)
  go_wp2_with (fail)
  refine (Ints.calls Ac Aw cc cw _ _ _ w9 (HS2.out.C 2 rfl) (HS2.out.C 4 rfl) rfl (by omega)).mono ?_
  rintro e w10 ⟨rfl, hb⟩
  have HS := Lib.hid (HS2.out.below (Below.of_drewN hb))
  clear HS2 hb
  dsimp only
  -- Ints(d, ref.Parts(x, len(x) - 1))
  go_wp2_with (fail)
  refine (PartsR.calls A c xs (xs.length - 1) w10 (Kd.C_below HR.out HS.out.bel) (by omega)).mono ?_
  rintro e w11 ⟨v, rfl, ho, hb⟩
  have HS2 := Lib.hid (HS.out.below hb)
  obtain ⟨Af, cf, rfl, -, hC⟩ := C_of_own ho
  have HC := Lib.hid hC
  clear HS ho hb hC
  dsimp only
  go_wp2_with (fail)
  refine (Ints.calls Ad Af cd cf _ _ _ w11 (HS2.out.C 3 rfl) HC.out rfl (by omega)).mono ?_
  rintro e w12 ⟨rfl, hb⟩
  have HS := Lib.hid (HS2.out.below (Below.of_drewN hb))
  clear HS2 HC hb
  dsimp only
  -- Nest
  go_wp2_with (fail)
  refine (Nest.calls _ (xs.length + 1) xs w12 (HS.out.own hn) (by omega)).mono ?_
  rintro e w13 ⟨rfl, hb⟩
  have HS2 := Lib.hid (HS.out.below hb)
  clear HS hb
  dsimp only
  go_wp2_with (fail)
  refine (NestR.calls A c xs w13 (Kd.C_below HR.out HS2.out.bel) (by omega)).mono ?_
  rintro e w14 ⟨rfl, hb⟩
  have HS := Lib.hid (HS2.out.below hb)
  clear HS2 hb
  dsimp only
  generalize nestOf xs = nn
  -- Nodes
  go_wp2_with (fail)
  refine (Nodes.calls _ A (xs.length + 1) c xs w14 (HS.out.own hn) (Kd.C_below HR.out HS.out.bel) (by omega)).mono ?_
  rintro e w15 ⟨rfl, hb⟩
  have HS2 := Lib.hid (HS.out.below (Below.of_drewN hb))
  clear HS hb
  dsimp only
  go_wp2_with (fail)
  -- FreeInts
  have hpre := HS2.out.pre [(.slice Aa (partsOf xs i).length ca, partsOf xs i), (.slice Ab (partsOf xs k).length cb, partsOf xs k), (.slice Ac (partsOf xs i).length cc, partsOf xs i), (.slice Ad (partsOf xs (xs.length - 1)).length cd, partsOf xs (xs.length - 1))]
    (fun j p hj => by have := (List.getElem?_eq_some_iff.1 hj).1; rw [← hj]; exact List.getElem?_append_left (l₂ := [(Value.slice Aw (partsOf xs i).length cw, partsOf xs i)]) this) (by simp [Fr.slen])
    (.cells #[.slice Aa (partsOf xs i).length ca, .slice Ab (partsOf xs k).length cb, .slice Ac (partsOf xs i).length cc, .slice Ad (partsOf xs (xs.length - 1)).length cd] 36)
  refine (FreeInts.calls w15.heap.size 4 _ _ (Blk.alloc w15 _ 36) hpre (by simp) (by simp [Fr.slen]; omega)).mono ?_
  rintro e w16 ⟨rfl, hb⟩
  have HS := Lib.hid (HS2.out.free (M := [(.slice Aa (partsOf xs i).length ca, partsOf xs i), (.slice Ab (partsOf xs k).length cb, partsOf xs k), (.slice Ac (partsOf xs i).length cc, partsOf xs i), (.slice Ad (partsOf xs (xs.length - 1)).length cd, partsOf xs (xs.length - 1))]) rfl hb)
  clear HS2 hb hpre
  dsimp only
  -- Parts of a list that is written out
  go_wp2_with (fail)
  refine (Parts.calls _ 3 litNodes 2 (w16.alloc (.cells (litNodes.flatMap nodeCells).toArray 47)) (lit_C w16) (by decide) (by decide)).mono ?_
  rintro e w17 ho
  have HS2 := Lib.hid (HS.out.below (below_alloc (Below.refl _ _) (.cells (litNodes.flatMap nodeCells).toArray 47)))
  rw [parts_lit] at ho
  obtain ⟨v, rfl, ho, hb⟩ := ho
  have HS3 := Lib.hid (HS2.out.below hb)
  obtain ⟨Ag, cg, rfl, -, hC⟩ := C_of_own ho
  have HC := Lib.hid hC
  clear HS HS2 ho hb hC
  dsimp only [List.length_cons, List.length_nil]
  go_wp2_with (fail)
  have hlit : Kd.C (Kd.int .i64) (w17.alloc (.cells #[.int .i64 0, .int .i64 1] 3)) (some ⟨w17.heap.size, 0, none⟩) 2 [0, 1] :=
    OwnInts.C (l := [0, 1]) (by have := Blk.alloc w17 #[.int .i64 0, .int .i64 1] 3; simpa [nums] using this) (by simp only [maxLen]; decide)
  refine (Ints.calls Ag _ cg 2 2 [0, 1] [0, 1] _ (Kd.C_below HC.out (below_alloc (Below.refl _ _) _)) hlit rfl (by omega)).mono ?_
  rintro e w18 ⟨rfl, hb⟩
  have HS := Lib.hid ((HS3.out.below (below_alloc (Below.refl _ _) (.cells #[.int .i64 0, .int .i64 1] 3))).below (Below.of_drewN hb))
  clear HS3 HC hb hlit
  dsimp only
  -- Parts(own, i) once more
  go_wp2_with (fail)
  refine (Parts.calls _ (xs.length + 1) xs i w18 (HS.out.own hn) (by omega) (by omega)).mono ?_
  rintro e w19 ho
  obtain ⟨Ah, ch, rfl, hS⟩ := HS.out.add ho
  clear HS ho
  have HS := Lib.hid hS; clear hS
  dsimp only
  go_wp2_with (fail)
  refine (Ints.calls Ah Aw ch cw _ _ _ w19 (HS.out.C 1 rfl) (HS.out.C 0 rfl) rfl (by omega)).mono ?_
  rintro e w20 ⟨rfl, hb⟩
  have HS2 := Lib.hid (HS.out.below (Below.of_drewN hb))
  clear HS hb
  dsimp only
  go_wp2
  go_ret
  exact ⟨rfl, HS2.out.bel⟩
end Go.Proofs.Ytmikgaphknbcaaa.B
