/- Texts joined and shortened (wip/tools/shrink.py): ShLater. -/
import Derived.StillTailTactics
import Derived.Laws.EntriesVeiled
import Derived.Sort.CutIn
import Derived.Shelf.RegionOpen
import Derived.Test.YtplknppmaepinaaQe5
import Derived.Test.YtplknppmaepinaaQe1
/- ShelfLater: the walk. -/
namespace Go.Proofs.Ytplknppmaepinaa.S
open Go Go.RowKit Go.X Go.Maps Go.Sort Go.Proofs.YtplknppmaepinaaW.PrintWords Go.Proofs.Ytplknppmaepinaa.F
attribute [local go_sem] Oper.semAt_some
set_option maxRecDepth 100000
/-- The function's four boxes: what it began with, the script, the number, the answer. -/
structure Boxes (w wr : World) (ob ib rb : Nat) (xs ys : List Value) (inner : Int) (v : Value) : Prop where
  x : Blk wr w.heap.size 25 xs
  o : Blk wr ob 37 ys
  i : Blk wr ib 3 [.int .i64 inner]
  r : Blk wr rb 4 [v]
  bel : Below w.heap.size w wr
  lo : w.heap.size < ob ∧ ob < ib ∧ ib < rb
theorem Boxes.keep {w wr w' : World} {ob ib rb : Nat} {xs ys : List Value} {inner : Int} {v : Value} (h : Boxes w wr ob ib rb xs ys inner v) (hb : Below wr.heap.size wr w') : Boxes w w' ob ib rb xs ys inner v :=
  ⟨h.x.below hb h.x.lt, h.o.below hb h.o.lt, h.i.below hb h.i.lt, h.r.below hb h.r.lt, h.bel.trans (hb.mono h.bel.size), h.lo⟩
theorem boxes_made (w : World) (xs ys : Array Value) (inner : Int) : Boxes w ((((w.alloc (.cells xs 25)).alloc (.cells ys 37)).alloc (.cells #[.int .i64 inner] 3)).alloc (.cells #[.bool false] 4)) (w.heap.size + 1) (w.heap.size + 1 + 1) (w.heap.size + 1 + 1 + 1) xs.toList ys.toList inner (.bool false) := by
  have s1 : (w.alloc (.cells xs 25)).heap.size = w.heap.size + 1 := by simp
  have s2 : ((w.alloc (.cells xs 25)).alloc (.cells ys 37)).heap.size = w.heap.size + 1 + 1 := by simp
  have s3 : (((w.alloc (.cells xs 25)).alloc (.cells ys 37)).alloc (.cells #[.int .i64 inner] 3)).heap.size = w.heap.size + 1 + 1 + 1 := by simp
  have k1 := Blk.alloc w xs 25
  have k2 := Blk.alloc (w.alloc (.cells xs 25)) ys 37
  have k3 := Blk.alloc ((w.alloc (.cells xs 25)).alloc (.cells ys 37)) #[.int .i64 inner] 3
  have k4 := Blk.alloc (((w.alloc (.cells xs 25)).alloc (.cells ys 37)).alloc (.cells #[.int .i64 inner] 3)) #[.bool false] 4
  rw [s1] at k2
  rw [s2] at k3
  rw [s3] at k4
  have b2 := (Below.refl _ (w.alloc (.cells xs 25))).alloc (Nat.le_refl _) (.cells ys 37)
  have b3 := (Below.refl _ ((w.alloc (.cells xs 25)).alloc (.cells ys 37))).alloc (Nat.le_refl _) (.cells #[.int .i64 inner] 3)
  have b4 := (Below.refl _ (((w.alloc (.cells xs 25)).alloc (.cells ys 37)).alloc (.cells #[.int .i64 inner] 3))).alloc (Nat.le_refl _) (.cells #[.bool false] 4)
  have j1 := ((k1.below b2 k1.lt).below b3 (by omega)).below b4 (by omega)
  have j2 := (k2.below b3 (by omega)).below b4 (by omega)
  have j3 := k3.below b4 (by omega)
  exact ⟨j1, j2, j3, k4, ((((Below.refl _ w).alloc (Nat.le_refl _) _).alloc (by omega) _).alloc (by omega) _).alloc (by omega) _, by omega⟩
/-- The answer is laid. -/
theorem Boxes.ans {w wr : World} {ob ib rb : Nat} {xs ys : List Value} {inner : Int} {v : Value} (h : Boxes w wr ob ib rb xs ys inner v) (v' : Value) : Below w.heap.size w (wr.setCell ⟨rb, 0, none⟩ v') ∧ (wr.setCell ⟨rb, 0, none⟩ v').cell? ⟨rb, 0, none⟩ = some v' := by
  have := h.r.setCell 0 v'
  exact ⟨h.bel.setCell (by show w.heap.size ≤ rb; have := h.lo; omega) _, this.cell 0⟩
theorem res7 {tmps : Array Value} {W : World} {rb : Nat} {v : Bool} (h6 : tmps[6]?.getD undef = .pointer (some ⟨rb, 0, none⟩)) (hc : W.cell? ⟨rb, 0, none⟩ = some (.bool v)) : (results Try.f7 tmps).run Try.prog W = .ok (.bool v) W := by
  simp [results, Try.results7, go_sem, h6, hc]
/-- The variables. -/
def frL (ob ib rb vb wb tb sb : Nat) (Ao : Option Addr) (n co : Nat) (inner : Int) (ans : Bool) (vW : Value) (X : It) : List (Nat × Obj) :=
  [(ob, .cells #[.slice Ao n co] 37), (ib, .cells #[.int .i64 inner] 3), (rb, .cells #[.bool ans] 4), (vb, .cells #[.pointer (some ⟨sb, 0, none⟩)] 27), (wb, .cells #[vW] 22), (tb, .cells #[.func (.func 53) #[] #[.pointer (some ⟨X.nb, 0, none⟩), .pointer (some ⟨X.mb, 0, none⟩)]] 69)]
section
variable {w wr : World} {R0 sb : Nat} {okF okS : Nat → Prop} {s : Sh} {fr : List (Nat × Obj)} {vW : Value} {X : It} {L : List S73}
theorem LF.cell {b : Nat} {t : TypeId} {v : Value} (h : LF w wr R0 sb okF okS s fr vW X L) (hm : (b, Obj.cells #[v] t) ∈ fr) : wr.cell? ⟨b, 0, none⟩ = some v := (show Blk wr b t [v] from (h.fr _ hm).1).cell 0
theorem LF.frozen {b : Nat} {t : TypeId} {v : Value} (h : LF w wr R0 sb okF okS s fr vW X L) (hm : (b, Obj.cells #[v] t) ∈ fr) : wr.frozen? ⟨b, 0, none⟩ = false := (show Blk wr b t [v] from (h.fr _ hm).1).frozen 0
end
/-- The function is left, no range having begun. -/
theorem leave7 {tmps : Array Value} {w W : World} {rb : Nat} (h6 : tmps[6]?.getD undef = .pointer (some ⟨rb, 0, none⟩)) (h : Below w.heap.size w W ∧ W.cell? ⟨rb, 0, none⟩ = some (.bool true)) :
    bodyPostM Fence.wide 9 Try.prog Try.f7 (fun e w' => e = .returned (.bool true) ∧ Below w.heap.size w w') .ret { tmps := tmps, defers := [] } W :=
  ⟨_, res7 h6 h.2, rfl, h.1⟩
set_option maxHeartbeats 8000000 in
theorem later.calls (Af Ap Ao : Option Addr) (cf cp co : Nat) (fs : List S73) (ps : List S76) (os : List S41) (room inner : Int) (w : World) (hf : Kd.C k73 w Af fs.length fs) (hp : Kd.C k76 w Ap ps.length ps) (ho : Kd.C k41 w Ao os.length os) (hcf : fs.length ≤ cf) (hn : fs.length ≤ 140737488355328) (hm : ∀ f ∈ fs, f.f1.length ≤ 140737488355328) (hz : ∀ f ∈ fs, f.f0.size ≤ maxLen) (hon : os.length ≤ 140737488355328)
    (hoz : ∀ o ∈ os, o.f1.size ≤ maxLen ∧ o.f2.length ≤ 140737488355328) :
    Calls Try.prog 7 #[.agg #[.slice Af fs.length cf, .int .i64 room, .slice Ap ps.length cp], .slice Ao os.length co, .int .i64 inner] w fun e w' => e = .returned (.bool true) ∧ Below w.heap.size w w' := by
  obtain ⟨W, hW⟩ : ∃ W, wl 0 fs = W := ⟨_, rfl⟩
  have hwt := weight_f fs hn hm
  rw [hW] at hwt
  have HBX := Lib.hid (boxes_made w #[.slice Af fs.length cf, .int .i64 room, .slice Ap ps.length cp] #[.slice Ao os.length co] inner)
  have HF := Lib.hid hf; clear hf
  have HP := Lib.hid hp; clear hp
  have HO := Lib.hid ho; clear ho
  have HCF := Lib.hid hcf; clear hcf
  have HM := Lib.hid hm; clear hm
  have HZ := Lib.hid hz; clear hz
  have HNF := Lib.hid hn; clear hn
  have HOZ := Lib.hid hoz; clear hoz
  have HON := Lib.hid hon; clear hon
  have HWT := Lib.hid hwt; clear hwt
  have HW := Lib.hid hW; clear hW
  have ho0 : (0 : Int) ≤ (os.length : Int) := Int.natCast_nonneg _
  refine (callsIn_wide (n := 9)).1 ?_
  refine callsIn_of_wp_marks Try.func7 rfl trivial ?_ rfl
  refine wpIn_wide.2 ?_
  simp only [Try.ntmps7, List.size_toArray, List.length_cons, List.length_nil, Nat.reduceAdd, Nat.reduceSub, Array.replicate_succ, Array.replicate_zero, List.push_toArray, List.append_toArray, List.nil_append, List.cons_append]
  go_upto_region 1 with fail
  generalize (((w.alloc (.cells #[.slice Af fs.length cf, .int .i64 room, .slice Ap ps.length cp] 25)).alloc (.cells #[.slice Ao os.length co] 37)).alloc (.cells #[.int .i64 inner] 3)).alloc (.cells #[.bool false] 4) = wa at *
  generalize w.heap.size + 1 + 1 + 1 = rb at *
  generalize w.heap.size + 1 + 1 = ib at *
  generalize w.heap.size + 1 = ob at *
  go_wp2_with (first
    | (go_at_call 16; refine (works.calls _).mono ?_; rintro e w1 ⟨rfl, hb1⟩
       have HX1 := Lib.hid (HBX.out.keep hb1)
       have b0 := HX1.out.x.cell 0
       have b1 := HX1.out.o.cell 0
       have b3 := HX1.out.r.cell 0
       clear hb1)
    | fail)
  clear HBX
  by_cases hg : W > 1048576
  · go_wp2_with (first
      | (go_at_call 8; refine (dowellaw01_weight.calls _ Af cf fs W _ (Kd.C_below HF.out HX1.out.bel) HCF.out HWT.out).mono ?_; rintro e w2 ⟨rfl, hd⟩
         have HX2 := Lib.hid (HX1.out.keep hd.below)
         have c3 := HX2.out.r.cell 0
         have c4 := HX2.out.r.frozen 0
         clear hd b0 b1; dsimp only)
      | fail)
    exact leave7 rfl (HX2.out.ans (.bool true))
  by_cases hl : (os.length : Int) > 100
  · go_wp2_with (first
      | (go_at_call 8; refine (dowellaw01_weight.calls _ Af cf fs W _ (Kd.C_below HF.out HX1.out.bel) HCF.out HWT.out).mono ?_; rintro e w2 ⟨rfl, hd⟩
         have HX2 := Lib.hid (HX1.out.keep hd.below)
         have b1' := HX2.out.o.cell 0
         have c3 := HX2.out.r.cell 0
         have c4 := HX2.out.r.frozen 0
         clear hd b0 b1; dsimp only)
      | fail)
    exact leave7 rfl (HX2.out.ans (.bool true))
  have hsz := wl_le fs 0 (by rw [HW.out]; omega)
  have HSZ := Lib.hid hsz; clear hsz
  have HOL : Hid (os.length ≤ 100) := Lib.hid (by omega)
  go_wp2_with (first
    | (go_at_call 8; refine (dowellaw01_weight.calls _ Af cf fs W _ (Kd.C_below HF.out HX1.out.bel) HCF.out HWT.out).mono ?_; rintro e w2 ⟨rfl, hd⟩
       have HX2 := Lib.hid (HX1.out.keep hd.below)
       have b1' := HX2.out.o.cell 0
       clear hd b0 b1; dsimp only)
    | fail)
  clear hg hl HX1 b3
  refine R7n.wp w2 w.heap.size Af Ap cf ps.length cp fs room HX2.out.x (Kd.C_below HF.out HX2.out.bel) (by have := HSZ.out; omega) HM.out HZ.out _ _ rfl rfl ?_
  intro f3 w3 vb sp e8 hb3 e7 hvb hbk hv
  have HB23 : Hid (Below w2.heap.size w2 w3) := hb3.below (fun _ h => h.elim) (Nat.le_refl _)
  have HX3 := Lib.hid (HX2.out.keep HB23.out)
  have HV := Lib.hid hv
  have HVB := Lib.hid (And.intro hvb hbk)
  clear hb3 hv b1' hvb hbk
  simp only [Act.puts, Act.put, List.setIfInBounds_toArray, List.set_cons_zero, List.set_cons_succ]
  rw [e7, e8]
  clear e7 e8
  by_cases h0 : newE fs room [] = 0
  · obtain ⟨sb, rfl, hsh⟩ := HV.out.some h0
    rw [h0]
    have HS3 : Hid (ShelfAt w3 (fun k => w2.heap.size ≤ k ∧ k ≠ vb) sb (newS fs room [])) := hsh
    have HG : Hid (Good (newS fs room [])) := newS_good h0
    have HN0 : Hid (w.heap.size ≤ w2.heap.size ∧ w2.heap.size ≤ w3.heap.size ∧ rb < w2.heap.size) := ⟨HX2.out.bel.size, HB23.out.size, HX2.out.r.lt⟩
    have HL1 : Hid ((newS fs room []).all.length ≤ 0) := Nat.le_refl _
    clear hsh h0 HV
    generalize newS fs room [] = s0 at *
    have c0 : w3.cell? ⟨vb, 0, none⟩ = some (.pointer (some ⟨sb, 0, none⟩)) := HVB.out.2.cell 0
    go_upto_region 9 with (first
      | (go_at_call 11; refine (files.calls HS3.out HG.out).mono ?_; rintro e w4 ⟨v4, rfl, hf4, hb4⟩
         obtain ⟨AW, cW, rfl, -, -⟩ := hf4.slice
         have HF4 : Hid (FilesAt w4 (fun k => w3.heap.size ≤ k) (.slice AW s0.L.length cW) s0.L) := hf4
         have HB4 : Hid (Below w3.heap.size w3 w4) := hb4
         clear hf4 hb4)
      | fail)
    clear c0
    have HB5 : Hid (Below w4.heap.size w4 (w4.alloc (.cells #[.slice AW s0.L.length cW] 22)) ∧ Blk (w4.alloc (.cells #[.slice AW s0.L.length cW] 22)) w4.heap.size 22 [.slice AW s0.L.length cW] ∧ (w4.alloc (.cells #[.slice AW s0.L.length cW] 22)).heap.size = w4.heap.size + 1) := ⟨(Below.refl _ _).alloc (Nat.le_refl _) _, Blk.alloc w4 _ _, by simp⟩
    generalize w4.alloc (.cells #[.slice AW s0.L.length cW] 22) = w5 at *
    have HB35 : Hid (Below w3.heap.size w3 w5) := HB4.out.trans (HB5.out.1.mono HB4.out.size)
    have HS5 : Hid (ShelfAt w5 (fun k => w2.heap.size ≤ k ∧ k ≠ vb) sb s0) := HS3.out.keep (Keeps.below HB35.out)
    have c0 : w5.cell? ⟨vb, 0, none⟩ = some (.pointer (some ⟨sb, 0, none⟩)) := (HVB.out.2.below HB35.out HVB.out.2.lt).cell 0
    go_upto_region 10 with (first
      | (go_at_call 27; refine (each.calls HS5.out HG.out).mono ?_; rintro e w6 ⟨X, rfl, hi6, hb6⟩
         have HI6 := Lib.hid hi6
         have HB6 := Lib.hid hb6
         clear hi6 hb6)
      | (with_reducible refine X.store rfl 69 (.tmp 10) (.tmp 53) rfl w6.heap.size 0 (.func (.func 53) #[] #[.pointer (some ⟨X.nb, 0, none⟩), .pointer (some ⟨X.mb, 0, none⟩)]) ?_ ?_ _ _ (Blk.alloc w6 #[.nilFunc] 69) ?_ ?_ ?_ ?_)
      | fail)
    clear c0
    have HB7 : Hid (Below w6.heap.size w6 (w6.alloc (.cells #[.func (.func 53) #[] #[.pointer (some ⟨X.nb, 0, none⟩), .pointer (some ⟨X.mb, 0, none⟩)]] 69)) ∧ Blk (w6.alloc (.cells #[.func (.func 53) #[] #[.pointer (some ⟨X.nb, 0, none⟩), .pointer (some ⟨X.mb, 0, none⟩)]] 69)) w6.heap.size 69 [.func (.func 53) #[] #[.pointer (some ⟨X.nb, 0, none⟩), .pointer (some ⟨X.mb, 0, none⟩)]] ∧ (w6.alloc (.cells #[.func (.func 53) #[] #[.pointer (some ⟨X.nb, 0, none⟩), .pointer (some ⟨X.mb, 0, none⟩)]] 69)).heap.size = w6.heap.size + 1) := ⟨(Below.refl _ _).alloc (Nat.le_refl _) _, Blk.alloc w6 _ _, by simp⟩
    generalize w6.alloc (.cells #[.func (.func 53) #[] #[.pointer (some ⟨X.nb, 0, none⟩), .pointer (some ⟨X.mb, 0, none⟩)]] 69) = w7 at *
    have ct : w7.cell? ⟨w6.heap.size, 0, none⟩ = some (.func (.func 53) #[] #[.pointer (some ⟨X.nb, 0, none⟩), .pointer (some ⟨X.mb, 0, none⟩)]) := HB7.out.2.1.cell 0
    have hfn : ∀ W, (binOp .eql 69 (.func (.func 53) #[] #[.pointer (some ⟨X.nb, 0, none⟩), .pointer (some ⟨X.mb, 0, none⟩)]) .nilFunc).run Try.prog W = .ok (.bool false) W := fun W => by kernel_rfl
    go_wp2
    have HLF : Hid (LF w w7 w7.heap.size sb (fun k => w3.heap.size ≤ k ∧ k < w7.heap.size) (fun k => (w2.heap.size ≤ k ∧ k ≠ vb) ∧ k < w3.heap.size) s0 (frL ob ib rb vb w4.heap.size w6.heap.size sb Ao os.length co inner false (.slice AW s0.L.length cW) X) (.slice AW s0.L.length cW) X s0.L) := by
      have b57 : Below w5.heap.size w5 w7 := HB6.out.trans (HB7.out.1.mono HB6.out.size)
      have b37 : Below w3.heap.size w3 w7 := HB35.out.trans (b57.mono HB35.out.size)
      have b47 : Below w4.heap.size w4 w7 := HB5.out.1.trans (b57.mono HB5.out.1.size)
      have hx := HX3.out.keep b37
      have hlo := HX3.out.lo
      have n0 := HN0.out
      have n1 := HB4.out.size
      have n2 := HB5.out.1.size
      have n3 := HB6.out.size
      have n4 := HB7.out.1.size
      have n5 := HVB.out.1
      refine ⟨hx.bel, HS3.out.bound.keep (Keeps.below b37), HG.out, fun k hk => ⟨by omega, by omega⟩, ?_, (HF4.out.bound.keep (Keeps.below b47)).mono fun k hk => ⟨hk.1, by omega⟩, (HI6.out.bound.keep (Keeps.below HB7.out.1) (DKept.below HB7.out.1)).mono fun k hk => ⟨by omega, by omega⟩, fun k hk => ⟨fun h => by omega, hk.2⟩, Nat.le_refl _⟩
      intro x hx'
      simp only [frL, List.mem_cons, List.not_mem_nil, or_false] at hx'
      have hs5 := HB5.out.2.2
      have hs7 := HB7.out.2.2
      rcases hx' with rfl | rfl | rfl | rfl | rfl | rfl
      · exact ⟨hx.o, by show w.heap.size ≤ ob; omega, fun h => by have h : (w2.heap.size ≤ ob ∧ ob ≠ vb) ∧ ob < w3.heap.size := h; omega⟩
      · exact ⟨hx.i, by show w.heap.size ≤ ib; omega, fun h => by have h : (w2.heap.size ≤ ib ∧ ib ≠ vb) ∧ ib < w3.heap.size := h; omega⟩
      · exact ⟨hx.r, by show w.heap.size ≤ rb; omega, fun h => by have h : (w2.heap.size ≤ rb ∧ rb ≠ vb) ∧ rb < w3.heap.size := h; omega⟩
      · exact ⟨HVB.out.2.below b37 HVB.out.2.lt, by show w.heap.size ≤ vb; omega, fun h => h.1.2 rfl⟩
      · exact ⟨HB5.out.2.1.below b57 HB5.out.2.1.lt, by show w.heap.size ≤ w4.heap.size; omega, fun h => by have h : (w2.heap.size ≤ w4.heap.size ∧ w4.heap.size ≠ vb) ∧ w4.heap.size < w3.heap.size := h; omega⟩
      · exact ⟨HB7.out.2.1, by show w.heap.size ≤ w6.heap.size; omega, fun h => by have h : (w2.heap.size ≤ w6.heap.size ∧ w6.heap.size ≠ vb) ∧ w6.heap.size < w3.heap.size := h; omega⟩
    have HNN : Hid (w.heap.size < ob ∧ ob < ib ∧ ib < rb ∧ rb < w2.heap.size ∧ w2.heap.size ≤ vb ∧ vb < w3.heap.size ∧ w3.heap.size ≤ w4.heap.size ∧ w4.heap.size < w6.heap.size ∧ w6.heap.size < w7.heap.size) := by
      have hlo := HX3.out.lo
      have n0 := HN0.out
      have n1 := HB4.out.size
      have n3 := HB6.out.size
      have n5 := HVB.out.1
      have n6 := HVB.out.2.lt
      have hs5 := HB5.out.2.2
      have hs7 := HB7.out.2.2
      exact ⟨by omega, by omega, by omega, by omega, by omega, by omega, by omega, by omega, by omega⟩
    clear HS3 HB23 HX3 HVB HN0 HB4 HB5 HB35 HS5 HI6 HB6 HB7 ct HF4 HX2
    generalize (fun k => (w2.heap.size ≤ k ∧ k ≠ vb) ∧ k < w3.heap.size) = okS0 at *
    generalize hokF : (fun k => w3.heap.size ≤ k ∧ k < w7.heap.size) = okF at *
    clear hokF
    generalize w4.heap.size = wb at *
    generalize w6.heap.size = tb at *
    generalize hR0 : w7.heap.size = R0 at *
    have HR0 := Lib.hid hR0; clear hR0
    obtain ⟨hf2, HH2⟩ : ∃ hf2, Hid (os.length / 2 = hf2) := ⟨_, rfl⟩
    have hq2 : wrap64 ((os.length : Int) / 2) = (hf2 : Int) := by have := HOL.out; have := HH2.out; rw [wrap_in (by omega) (by omega)]; omega
    go_loopg [11] hf2 (fun q v wr => ∃ (i : Nat) (s : Sh) (okS : Nat → Prop), q + i = hf2 ∧ v = .int .i64 (i : Nat) ∧ Hid (LF w wr R0 sb okF okS s (frL ob ib rb vb wb tb sb Ao os.length co inner false (.slice AW s0.L.length cW) X) (.slice AW s0.L.length cW) X s0.L ∧ s.all.length ≤ i))
    case atStart => exact ⟨0, s0, okS0, by simp, rfl, HLF.out, HL1.out⟩
    case round =>
      clear HLF
      obtain ⟨i, s, okS, hi, rfl, HI⟩ := hrel
      have c37 : wr.cell? ⟨ob, 0, none⟩ = some (.slice Ao os.length co) := HI.out.1.cell (t := 37) (by simp [frL])
      have c27 : wr.cell? ⟨vb, 0, none⟩ = some (.pointer (some ⟨sb, 0, none⟩)) := HI.out.1.cell (t := 27) (by simp [frL])
      have c69 : wr.cell? ⟨tb, 0, none⟩ = some (.func (.func 53) #[] #[.pointer (some ⟨X.nb, 0, none⟩), .pointer (some ⟨X.mb, 0, none⟩)]) := HI.out.1.cell (t := 69) (by simp [frL])
      by_cases hlt : i < hf2
      · obtain ⟨o, ho⟩ : ∃ o, os[i]? = some o := ⟨_, List.getElem?_eq_getElem (by have := HH2.out; omega)⟩
        obtain ⟨ad, Ad, cd, eA, e0, e1, e2, e3, e4, hcd, hdC⟩ := op_at (Kd.C_below HO.out HI.out.1.bel) ho
        subst eA
        have hi0 : (0 : Int) ≤ (i : Int) := Int.natCast_nonneg _
        have hi1 : (i : Int) < (hf2 : Int) := Int.ofNat_lt.2 hlt
        have hi2 : (i : Int) < (os.length : Int) := by have := HH2.out; omega
        have HOO : Hid (o.f1.size ≤ maxLen ∧ o.f2.length ≤ 140737488355328) := HOZ.out o (List.mem_of_getElem? ho)
        have HDC := Lib.hid hdC
        have HIL : Hid (i < 100) := by have := HOL.out; have := HH2.out; exact (by omega : i < 100)
        have hiw : wrap64 ((i : Int) + 1) = ((i + 1 : Nat) : Int) := by have := HIL.out; rw [wrap_in (by omega) (by omega)]; rfl
        clear ho hdC hcd
        go_upto_region 15 with fail
        go_still_tail 5, (by kernel_rfl)
        have HLD : Hid (LF w wr.drew R0 sb okF okS s (frL ob ib rb vb wb tb sb (some ad) os.length co inner false (.slice AW s0.L.length cW) X) (.slice AW s0.L.length cW) X s0.L ∧ s.all.length ≤ i ∧ Below wr.heap.size wr wr.drew) := ⟨HI.out.1.keep (Below.refl _ _).drew, HI.out.2, (Below.refl _ _).drew⟩
        clear c27 c37 c69 e0 e1 e2 e3 e4 hi0 hi2 HI
        change wpList _ _ _ _ _ wr.drew
        generalize wr.drew = wq at *
        go_wp2_with (first
          | (go_at_call 28; refine (turn.calls HLD.out.1.sh HLD.out.1.good o Ad cd HOO.out.1 (by have := HLD.out.2.1; have := HIL.out; omega) (Kd.C_below HDC.out HLD.out.2.2) HOO.out.2).mono ?_; rintro e w8 ⟨rfl, hs8, hb8, hd8⟩
             have HL8 := Lib.hid (And.intro (HLD.out.1.step hb8 hs8 (tS_good HLD.out.1.good o) hd8) (Nat.le_trans (Nat.le_of_eq (tS_all s o)) (Nat.succ_le_succ HLD.out.2.1)))
             clear hs8 hb8 hd8)
          | fail)
        go_roundg (hf2 - (i + 1))
        case measure => clear hiw; omega
        case rel => exact ⟨i + 1, _, _, by clear hiw; omega, by first | rfl | rw [hiw], HL8.out⟩
      · have hi1 : ¬ (i : Int) < (hf2 : Int) := by omega
        have HA1 : Hid (s.all.length ≤ 100) := by have := HI.out.2; have := HH2.out; have := HOL.out; exact (by omega : s.all.length ≤ 100)
        have HL9 : Hid (LF w (wr.alloc (.cells #[.int .i64 0] 3)) R0 sb okF okS s ((wr.heap.size, .cells #[.int .i64 0] 3) :: frL ob ib rb vb wb tb sb Ao os.length co inner false (.slice AW s0.L.length cW) X) (.slice AW s0.L.length cW) X s0.L ∧ (wr.alloc (.cells #[.int .i64 0] 3)).heap.size = wr.heap.size + 1 ∧ R0 ≤ wr.heap.size) := ⟨HI.out.1.alloc _, by simp, HI.out.1.r0⟩
        clear hi c27 c69
        go_upto_region 17 with fail
        clear hi1 hlt c37
        generalize wr.alloc (.cells #[.int .i64 0] 3) = wA at *
        generalize wr.heap.size = nbx at *
        have c37 : wA.cell? ⟨ob, 0, none⟩ = some (.slice Ao os.length co) := HL9.out.1.cell (t := 37) (by simp [frL])
        have HL10 : Hid (LF w (wA.alloc (.cells #[.int .i64 (hf2 : Nat)] 3)) R0 sb okF okS s ((wA.heap.size, .cells #[.int .i64 (hf2 : Nat)] 3) :: (nbx, .cells #[.int .i64 0] 3) :: frL ob ib rb vb wb tb sb Ao os.length co inner false (.slice AW s0.L.length cW) X) (.slice AW s0.L.length cW) X s0.L) := HL9.out.1.alloc _
        go_upto_region 18 with fail
        have HXN : Hid (nbx < wA.heap.size ∧ R0 ≤ nbx ∧ wA.heap.size < (wA.alloc (.cells #[.int .i64 (hf2 : Nat)] 3)).heap.size) := by have := HL9.out.2; exact ⟨by omega, by omega, by simp⟩
        clear c37 HL9 hq2
        generalize wA.alloc (.cells #[.int .i64 (hf2 : Nat)] 3) = wB at *
        generalize wA.heap.size = xbx at *
        have c69 : wB.cell? ⟨tb, 0, none⟩ = some (.func (.func 53) #[] #[.pointer (some ⟨X.nb, 0, none⟩), .pointer (some ⟨X.mb, 0, none⟩)]) := HL10.out.cell (t := 69) (by simp [frL])
        go_wp2
        refine (wpIn_wide (n := 9)).1 ?_
        refine rangeOuter X s0.L (by decide) rfl rfl HG.out.rises HG.out.few (fun f hf => ?names)
          (fun k W => ∃ (s : Sh) (okS : Nat → Prop) (nx : Nat), LF w W R0 sb okF okS s ((xbx, .cells #[.int .i64 (nx : Nat)] 3) :: (nbx, .cells #[.int .i64 (k : Nat)] 3) :: (wB.heap.size, .deferred (some [])) :: frL ob ib rb vb wb tb sb Ao os.length co inner false (.slice AW s0.L.length cW) X) (.slice AW s0.L.length cW) X s0.L ∧ ¬ okS (wB.heap.size + 1) ∧ s.all.length ≤ 100 + k ∧ nx ≤ os.length)
          (fun _ _ _ => False) (fun r => ?he) (fun k W h => ?hIt) (fun k W W' h hb => ?hIb) (fun k W o' h hr ho' => ?hIp) (fun c k W o' h _ _ => h) (fun k f v W0 W hf h0 hb hd hr => ?round) (fun W h => ?done) (fun c k W h => h.elim)
        case names => exact HG.out.lens f hf
        case he =>
          refine ⟨s, okS, hf2, ?_, fun h => ?_, ?_, ?_⟩
          · refine ((HL10.out.alloc (.deferred (some []))).keep ((Below.refl _ _).alloc (Nat.le_refl _) _)).less fun x hx => ?_
            simp only [List.mem_cons] at hx ⊢
            rcases hx with h | h | h | h
            · exact .inr (.inl h)
            · exact .inr (.inr (.inl h))
            · exact .inl h
            · exact .inr (.inr (.inr h))
          · exact absurd (HL10.out.okB _ h).2 (by omega)
          · have := HA1.out; omega
          · have := HH2.out; omega
        case hIt =>
          obtain ⟨s, okS, nx, h1, _⟩ := h
          exact ⟨_, h1.it⟩
        case hIb =>
          obtain ⟨s, okS, nx, h1, h2⟩ := h
          exact ⟨s, okS, nx, h1.keep hb, h2⟩
        case hIp =>
          obtain ⟨s, okS, nx, h1, h2, h3⟩ := h
          have n1 := HNN.out
          have n2 := HXN.out
          refine ⟨s, okS, nx, h1.turnRec hr (fun x hx => ?_) (by omega) h2 (by omega), h2, h3⟩
          simp only [frL, List.mem_cons, List.not_mem_nil, or_false] at hx
          rcases hx with rfl | rfl | rfl | rfl | rfl | rfl | rfl | rfl | rfl
          all_goals
            intro e
            simp only at e
            omega
        case round =>
          obtain ⟨s, okS, nx, h1, h2, h3, h4⟩ := h0
          have h1 := h1.keep hb
          obtain ⟨Av, cv, rfl, -, -⟩ := hd.slice
          gi_wp2
          refine ⟨trivial, fun rr => ?_⟩
          have n1 := HNN.out
          have n2 := HXN.out
          have hne : ∀ x ∈ ((xbx, Obj.cells #[.int .i64 (nx : Nat)] 3) :: (nbx, .cells #[.int .i64 (k : Nat)] 3) :: (wB.heap.size, .deferred (some [])) :: frL ob ib rb vb wb tb sb Ao os.length co inner false (.slice AW s0.L.length cW) X), x.1 ≠ wB.heap.size + 1 := fun x hx => by
            simp only [frL, List.mem_cons, List.not_mem_nil, or_false] at hx
            rcases hx with rfl | rfl | rfl | rfl | rfl | rfl | rfl | rfl | rfl
            all_goals
              intro e
              simp only at e
              omega
          have h1' := h1.turnRec (o' := .loop rr) hr hne (by omega) h2 (by omega)
          have hd' : DataAt (W.putObj (wB.heap.size + 1) (.loop rr)) (fun b => W0.heap.size ≤ b) (.slice Av f.f1.length cv) f.f1 := hd.grown (grownBy_putObj' _ _ _) (No5.loop hr.choose_spec)
          have hl' : (W.putObj (wB.heap.size + 1) (.loop rr)).heap[wB.heap.size + 1]? = some (.loop rr) := World.putObj_heap_same (heap_lt hr.choose_spec)
          clear hd hb h1 hne hr
          generalize W.putObj (wB.heap.size + 1) (.loop rr) = Wp at *
          have HL := Lib.hid h1'
          have HDA := Lib.hid hd'
          have HLR := Lib.hid hl'
          have HK := Lib.hid (And.intro h2 (And.intro h3 h4))
          have hfl : Hid (f.f1.length ≤ 16777216) := (HG.out.lens f (List.mem_of_getElem? hf)).2
          obtain ⟨A', c', e', _, hC'⟩ := h1'.files.slice
          cases e'
          obtain ⟨adW, A1, c1, eA, x0, x1, hl1, hc1⟩ := fs_at hC' hf
          subst eA
          obtain ⟨A5, c5, e5, hl5, hc5⟩ := hd'.slice
          cases e5
          have HB5 := Lib.hid (And.intro hl1 (And.intro hc1 (And.intro hl5 hc5)))
          have y0 : Wp.cell? ⟨nbx, 0, none⟩ = some (.int .i64 (k : Nat)) := h1'.cell (t := 3) (by simp)
          have y1 : Wp.cell? ⟨wb, 0, none⟩ = some (.slice (some adW) s0.L.length cW) := h1'.cell (t := 22) (by simp [frL])
          have hk0 : (0 : Int) ≤ (k : Int) := Int.natCast_nonneg _
          have hk1 : (k : Int) < (s0.L.length : Int) := Int.ofNat_lt.2 (List.getElem?_eq_some_iff.1 hf).1
          have hk2 : ¬ (s0.L.length : Int) ≤ (k : Int) := by omega
          have hstr : (f.f0.toList != f.f0.toList) = false := by simp
          clear h1' hd' hl' h2 h3 h4 hl1 hc1 hl5 hc5 hC' n1 n2
          gi_upto_if 101 with (first
            | (refine ⟨trivial, ?_⟩; gi_at_call 21; refine (CallsIn.inRound (wB.heap.size + 1) (callsIn_wide.2 (dowelbook_Bytes.calls (f.f1.length + 1) Av cv f.f1 A1 c1 f.f1 true Wp HB5.out.2.2.2 HB5.out.2.2.1 HB5.out.2.1 HB5.out.1 (bytes_f f.f1 (by have := hfl.out; omega) _ (Nat.lt_succ_self _))))).mono ?_; rintro e W5 ⟨rfl, hd5⟩
               have HL5 := Lib.hid (And.intro (HL.out.keep hd5.below) ((hd5.below.block _ (heap_lt HLR.out)).trans HLR.out))
               have z0 : W5.cell? ⟨xbx, 0, none⟩ = some (.int .i64 (nx : Nat)) := HL5.out.1.cell (t := 3) (by simp)
               have z1 : W5.cell? ⟨ob, 0, none⟩ = some (.slice Ao os.length co) := HL5.out.1.cell (t := 37) (by simp [frL])
               clear hd5)
            | fail)
          clear y0 y1 x0 x1 hk2 hstr h1
          gi_cut [] from 98 (fun wx => Hid (∃ s' okS' nx', LF w wx R0 sb okF okS' s' ((xbx, .cells #[.int .i64 (nx' : Nat)] 3) :: (nbx, .cells #[.int .i64 (k : Nat)] 3) :: (wB.heap.size, .deferred (some [])) :: frL ob ib rb vb wb tb sb Ao os.length co inner false (.slice (some adW) s0.L.length cW) X) (.slice (some adW) s0.L.length cW) X s0.L ∧ ¬ okS' (wB.heap.size + 1) ∧ s'.all.length ≤ 100 + (k + 1) ∧ nx' ≤ os.length ∧ wx.heap[wB.heap.size + 1]? = some (.loop rr)))
          case first =>
            have z2 : W5.cell? ⟨vb, 0, none⟩ = some (.pointer (some ⟨sb, 0, none⟩)) := HL5.out.1.cell (t := 27) (by simp [frL])
            by_cases hnx : nx < os.length
            · obtain ⟨o, ho⟩ : ∃ o, os[nx]? = some o := ⟨_, List.getElem?_eq_getElem hnx⟩
              obtain ⟨ad, Ad, cd, eA, e0, e1, e2, e3, e4, hcd, hdC⟩ := op_at (Kd.C_below HO.out HL5.out.1.bel) ho
              subst eA
              have HOO : Hid (o.f1.size ≤ maxLen ∧ o.f2.length ≤ 140737488355328) := HOZ.out o (List.mem_of_getElem? ho)
              have HDC := Lib.hid hdC
              have hi0 : (0 : Int) ≤ (nx : Int) := Int.natCast_nonneg _
              have hi1 : (nx : Int) < (os.length : Int) := Int.ofNat_lt.2 hnx
              have hi2 : decide ((nx : Int) < (os.length : Int)) = true := decide_eq_true hi1
              clear ho hdC hcd
              have HLD := Lib.hid (And.intro (HL5.out.1.keep (Below.refl _ _).drew) (And.intro HL5.out.2 (Below.refl W5.heap.size W5).drew))
              gi_upto_region 24 with fail
              have HAL : Hid (s.all.length ≤ 1073741824) := by have h5 := HK.out.2.1; have h6 := HG.out.few; exact (by omega : s.all.length ≤ 1073741824)
              have hmx : Try.prog.follows .mixedOrders = true := by kernel_rfl
              gi_region_with_o (first
                | (refine ⟨trivial, ?_⟩; gi_at_call 28; refine (CallsIn.inRound (wB.heap.size + 1) (callsIn_wide.2 (turn.calls HLD.out.1.sh HLD.out.1.good o Ad cd HOO.out.1 HAL.out (Kd.C_below HDC.out HLD.out.2.2) HOO.out.2))).mono ?_; rintro e W8 ⟨rfl, hs8, hb8, hd8⟩)
                | fail)
              all_goals
                have hL8 := HLD.out.1.step hb8 hs8 (tS_good HLD.out.1.good o) hd8
                have hl8 : W8.heap[wB.heap.size + 1]? = some (.loop rr) := (hb8.block _ (heap_lt HLD.out.2.1) HK.out.1).trans HLD.out.2.1
                have n1 := HNN.out
                have n2 := HXN.out
                have z8 : W8.cell? ⟨xbx, 0, none⟩ = some (.int .i64 (nx : Nat)) := hL8.cell (t := 3) (by simp)
                have z9 : W8.frozen? ⟨xbx, 0, none⟩ = false := hL8.frozen (t := 3) (v := .int .i64 (nx : Nat)) (by simp)
                have hxw : wrap64 ((nx : Int) + 1) = ((nx + 1 : Nat) : Int) := by have := HOL.out; rw [wrap_in (by omega) (by omega)]; rfl
                have hne : ∀ x ∈ ((nbx, Obj.cells #[.int .i64 (k : Nat)] 3) :: (wB.heap.size, .deferred (some [])) :: frL ob ib rb vb wb tb sb (some ad) os.length co inner false (.slice (some adW) s0.L.length cW) X), x.1 ≠ xbx := fun x hx => by
                  simp only [frL, List.mem_cons, List.not_mem_nil, or_false] at hx
                  rcases hx with rfl | rfl | rfl | rfl | rfl | rfl | rfl | rfl
                  all_goals
                    intro e
                    simp only at e
                    omega
                have HN8 := Lib.hid (And.intro (hL8.setInt ((nx + 1 : Nat) : Int) hne (by omega)) (And.intro (show ¬ ((okS (wB.heap.size + 1) ∨ W5.drew.heap.size ≤ wB.heap.size + 1) ∧ wB.heap.size + 1 < W8.heap.size) from fun h => h.1.elim HK.out.1 (Nat.not_le.2 (heap_lt HLD.out.2.1))) ((Below.heap_setCell W8 ⟨xbx, 0, none⟩ (.int .i64 ((nx + 1 : Nat) : Int)) (wB.heap.size + 1) (by show wB.heap.size + 1 ≠ xbx; omega)).trans hl8)))
                clear hL8 hl8 hne hs8 hb8 hd8 n1 n2
                gi_wp2
                gi_meet
                case rel => exact ⟨_, _, nx + 1, HN8.out.1, HN8.out.2.1, by rw [tS_all]; have := HK.out.2.1; omega, by omega, HN8.out.2.2⟩
            · have hi1 : ¬ (nx : Int) < (os.length : Int) := by omega
              have hi2 : decide ((nx : Int) < (os.length : Int)) = false := decide_eq_false hi1
              gi_wp2
              gi_meet
              case rel => exact ⟨s, okS, nx, HL5.out.1, HK.out.1, by have := HK.out.2.1; omega, HK.out.2.2, HL5.out.2⟩
          case rest =>
            obtain ⟨s6, okS6, nx6, h61, h62, h63, h64, h65⟩ := hcut.out
            clear hcut
            have H6 := Lib.hid (And.intro h61 (And.intro h62 h65))
            have H63 := Lib.hid (And.intro h63 h64)
            have z10 : wc.cell? ⟨nbx, 0, none⟩ = some (.int .i64 (k : Nat)) := h61.cell (t := 3) (by simp)
            have z11 : wc.cell? ⟨ib, 0, none⟩ = some (.int .i64 inner) := h61.cell (t := 3) (by simp [frL])
            clear h61 h62 h63 h64 h65
            gi_upto_if 112 with fail
            gi_cut [] from 110 (fun wx => Hid (LF w wx R0 sb okF okS6 s6 ((xbx, .cells #[.int .i64 (nx6 : Nat)] 3) :: (nbx, .cells #[.int .i64 (k : Nat)] 3) :: (wB.heap.size, .deferred (some [])) :: frL ob ib rb vb wb tb sb Ao os.length co inner false (.slice (some adW) s0.L.length cW) X) (.slice (some adW) s0.L.length cW) X s0.L ∧ wx.heap[wB.heap.size + 1]? = some (.loop rr)))
            case first =>
              clear z10 z11
              by_cases hin : (k : Int) = inner
              · have hi2 : ((k : Int) == inner) = true := by simp [hin]
                clear hin
                gi_upto_region 28 with fail
                have HM : Hid (LF w (wc.alloc (.cells #[.int .i64 0] 3)) R0 sb okF okS6 s6 ((wc.heap.size, .cells #[.int .i64 (0 : Nat)] 3) :: ((xbx, .cells #[.int .i64 (nx6 : Nat)] 3) :: (nbx, .cells #[.int .i64 (k : Nat)] 3) :: (wB.heap.size, .deferred (some [])) :: frL ob ib rb vb wb tb sb Ao os.length co inner false (.slice (some adW) s0.L.length cW) X)) (.slice (some adW) s0.L.length cW) X s0.L ∧ (wc.alloc (.cells #[.int .i64 0] 3)).heap[wB.heap.size + 1]? = some (.loop rr) ∧ (wc.alloc (.cells #[.int .i64 0] 3)).heap.size = wc.heap.size + 1 ∧ wB.heap.size + 1 < wc.heap.size) :=
                  ⟨H6.out.1.alloc _, ((Below.refl wc.heap.size wc).alloc (Nat.le_refl _) (.cells #[.int .i64 0] 3)).block _ (heap_lt H6.out.2.2) |>.trans H6.out.2.2, by simp, heap_lt H6.out.2.2⟩
                generalize wc.alloc (.cells #[.int .i64 0] 3) = wm at *
                generalize wc.heap.size = mbx at *
                have c69 : wm.cell? ⟨tb, 0, none⟩ = some (.func (.func 53) #[] #[.pointer (some ⟨X.nb, 0, none⟩), .pointer (some ⟨X.mb, 0, none⟩)]) := HM.out.1.cell (t := 69) (by simp [frL])
                gi_wp2
                refine rangeInner X s0.L (by decide) ⟨rr, HM.out.2.1⟩ rfl rfl HG.out.rises HG.out.few (fun f hf => ?names2)
                  (fun j W => LF w W R0 sb okF okS6 s6 ((mbx, .cells #[.int .i64 (j : Nat)] 3) :: ((xbx, .cells #[.int .i64 (nx6 : Nat)] 3) :: (nbx, .cells #[.int .i64 (k : Nat)] 3) :: (wB.heap.size, .deferred (some [])) :: frL ob ib rb vb wb tb sb Ao os.length co inner false (.slice (some adW) s0.L.length cW) X)) (.slice (some adW) s0.L.length cW) X s0.L ∧ ¬ okS6 wm.heap.size ∧ W.heap[wB.heap.size + 1]? = some (.loop rr))
                  (fun _ _ _ => False) (fun r => ?he2) (fun j W h => ⟨_, h.1.it⟩) (fun j W W' h hb => ⟨h.1.keep hb, h.2.1, (hb.block _ (heap_lt h.2.2)).trans h.2.2⟩) (fun j W o' h hr ho' => ?hIp2) (fun c j W o' h _ _ => h) (fun j f v W0 W hf h0 hb hd hr => ?round2) (fun W h => ?done2) (fun c j W h => h.elim)
                case names2 => exact HG.out.lens f hf
                case he2 => exact ⟨HM.out.1.keep ((Below.refl _ _).alloc (Nat.le_refl _) _), fun h => Nat.lt_irrefl _ (HM.out.1.okB _ h).2, (((Below.refl wm.heap.size wm).alloc (Nat.le_refl _) (.loop r)).block _ (heap_lt HM.out.2.1)).trans HM.out.2.1⟩
                case hIp2 =>
                  have n1 := HNN.out
                  have n2 := HXN.out
                  have n3 := HM.out.2.2
                  refine ⟨h.1.turnRec hr (fun x hx => ?_) (by omega) h.2.1 (by omega), h.2.1, (World.putObj_heap_other (by omega)).trans h.2.2⟩
                  simp only [frL, List.mem_cons, List.not_mem_nil, or_false] at hx
                  rcases hx with rfl | rfl | rfl | rfl | rfl | rfl | rfl | rfl | rfl | rfl
                  all_goals
                    intro e
                    simp only at e
                    omega
                case round2 =>
                  have h1 := h0.1.keep hb
                  have h2 := h0.2.1
                  have h3 := (hb.block _ (heap_lt h0.2.2)).trans h0.2.2
                  gi_wp2
                  refine ⟨trivial, fun r2 => ?_⟩
                  have n1 := HNN.out
                  have n2 := HXN.out
                  have n3 := HM.out.2.2
                  have hne : ∀ x ∈ ((mbx, Obj.cells #[.int .i64 (j : Nat)] 3) :: ((xbx, Obj.cells #[.int .i64 (nx6 : Nat)] 3) :: (nbx, .cells #[.int .i64 (k : Nat)] 3) :: (wB.heap.size, .deferred (some [])) :: frL ob ib rb vb wb tb sb Ao os.length co inner false (.slice (some adW) s0.L.length cW) X)), x.1 ≠ wm.heap.size := fun x hx => by
                    simp only [frL, List.mem_cons, List.not_mem_nil, or_false] at hx
                    rcases hx with rfl | rfl | rfl | rfl | rfl | rfl | rfl | rfl | rfl | rfl
                    all_goals
                      intro e
                      simp only at e
                      omega
                  have h1' := h1.turnRec (o' := .loop r2) hr hne (by omega) h2 (by omega)
                  have h3' : (W.putObj wm.heap.size (.loop r2)).heap[wB.heap.size + 1]? = some (.loop rr) := (World.putObj_heap_other (by omega)).trans h3
                  have hl' : (W.putObj wm.heap.size (.loop r2)).heap[wm.heap.size]? = some (.loop r2) := World.putObj_heap_same (heap_lt hr.choose_spec)
                  clear hd hb h1 hne hr h0 h3
                  generalize W.putObj wm.heap.size (.loop r2) = Wq at *
                  obtain ⟨A', c', e', _, hC'⟩ := h1'.files.slice
                  cases e'
                  obtain ⟨adW', A1', c1', eA', x0, x1, -, -⟩ := fs_at hC' hf
                  cases eA'
                  have y0 : Wq.cell? ⟨mbx, 0, none⟩ = some (.int .i64 (j : Nat)) := h1'.cell (t := 3) (by simp)
                  have y2 : Wq.frozen? ⟨mbx, 0, none⟩ = false := h1'.frozen (t := 3) (v := .int .i64 (j : Nat)) (by simp)
                  have y1 : Wq.cell? ⟨wb, 0, none⟩ = some (.slice (some adW) s0.L.length cW) := h1'.cell (t := 22) (by simp [frL])
                  have hj0 : (0 : Int) ≤ (j : Int) := Int.natCast_nonneg _
                  have hj1 : (j : Int) < (s0.L.length : Int) := Int.ofNat_lt.2 (List.getElem?_eq_some_iff.1 hf).1
                  have hj2 : ¬ (s0.L.length : Int) ≤ (j : Int) := by omega
                  have hjw : wrap64 ((j : Int) + 1) = ((j + 1 : Nat) : Int) := by have := HG.out.few; rw [wrap_in (by omega) (by omega)]; rfl
                  have hstr : (f.f0.toList != f.f0.toList) = false := by simp
                  have hne : ∀ x ∈ ((xbx, Obj.cells #[.int .i64 (nx6 : Nat)] 3) :: (nbx, .cells #[.int .i64 (k : Nat)] 3) :: (wB.heap.size, .deferred (some [])) :: frL ob ib rb vb wb tb sb Ao os.length co inner false (.slice (some adW) s0.L.length cW) X), x.1 ≠ mbx := fun x hx => by
                    simp only [frL, List.mem_cons, List.not_mem_nil, or_false] at hx
                    rcases hx with rfl | rfl | rfl | rfl | rfl | rfl | rfl | rfl | rfl
                    all_goals
                      intro e
                      simp only at e
                      omega
                  have HN2 := Lib.hid (And.intro ((Below.heap_setCell Wq ⟨mbx, 0, none⟩ (.int .i64 ((j + 1 : Nat) : Int)) wm.heap.size (by show wm.heap.size ≠ mbx; omega)).trans hl') (And.intro (h1'.setInt ((j + 1 : Nat) : Int) hne (by omega)) (And.intro h2 ((Below.heap_setCell Wq ⟨mbx, 0, none⟩ (.int .i64 ((j + 1 : Nat) : Int)) (wB.heap.size + 1) (by show wB.heap.size + 1 ≠ mbx; omega)).trans h3'))))
                  have HLQ := Lib.hid hl'
                  clear h1' h2 h3' hl' hC' hne n1 n2 n3
                  gi_wp2
                  exact ⟨HN2.out.1.trans HLQ.out.symm, HN2.out.2.1, HN2.out.2.2.1, HN2.out.2.2.2⟩
                case done2 =>
                  have y0 : W.cell? ⟨mbx, 0, none⟩ = some (.int .i64 (s0.L.length : Nat)) := h.1.cell (t := 3) (by simp)
                  have y1 : W.cell? ⟨wb, 0, none⟩ = some (.slice (some adW) s0.L.length cW) := h.1.cell (t := 22) (by simp [frL])
                  have HH := Lib.hid h
                  clear h
                  gi_wp2
                  gi_meet
                  case rel => exact ⟨HH.out.1.less fun x hx => List.mem_cons_of_mem _ hx, HH.out.2.2⟩
              · have hi2 : ((k : Int) == inner) = false := by simp [hin]
                clear hin
                gi_wp2
                gi_meet
                case rel => exact ⟨H6.out.1, H6.out.2.2⟩
            case rest =>
              clear z10 z11
              have n1 := HNN.out
              have n2 := HXN.out
              have h61 := hcut.out.1
              have z8 : wc.cell? ⟨nbx, 0, none⟩ = some (.int .i64 (k : Nat)) := h61.cell (t := 3) (by simp)
              have z9 : wc.frozen? ⟨nbx, 0, none⟩ = false := h61.frozen (t := 3) (v := .int .i64 (k : Nat)) (by simp)
              have hkw : wrap64 ((k : Int) + 1) = ((k + 1 : Nat) : Int) := by have := HG.out.few; rw [wrap_in (by omega) (by omega)]; rfl
              have h62 : LF w wc R0 sb okF okS6 s6 ((nbx, .cells #[.int .i64 (k : Nat)] 3) :: (xbx, .cells #[.int .i64 (nx6 : Nat)] 3) :: (wB.heap.size, .deferred (some [])) :: frL ob ib rb vb wb tb sb Ao os.length co inner false (.slice (some adW) s0.L.length cW) X) (.slice (some adW) s0.L.length cW) X s0.L :=
                h61.less fun x hx => by
                  simp only [List.mem_cons] at hx ⊢
                  rcases hx with h | h | h
                  · exact .inr (.inl h)
                  · exact .inl h
                  · exact .inr (.inr h)
              have hne : ∀ x ∈ ((xbx, Obj.cells #[.int .i64 (nx6 : Nat)] 3) :: (wB.heap.size, .deferred (some [])) :: frL ob ib rb vb wb tb sb Ao os.length co inner false (.slice (some adW) s0.L.length cW) X), x.1 ≠ nbx := fun x hx => by
                simp only [frL, List.mem_cons, List.not_mem_nil, or_false] at hx
                rcases hx with rfl | rfl | rfl | rfl | rfl | rfl | rfl | rfl
                all_goals
                  intro e
                  simp only at e
                  omega
              have HN9 : Hid ((wc.setCell ⟨nbx, 0, none⟩ (.int .i64 ((k + 1 : Nat) : Int))).heap[wB.heap.size + 1]? = Wp.heap[wB.heap.size + 1]? ∧ ∃ (s : Sh) (okS : Nat → Prop) (nx : Nat), LF w (wc.setCell ⟨nbx, 0, none⟩ (.int .i64 ((k + 1 : Nat) : Int))) R0 sb okF okS s ((xbx, .cells #[.int .i64 (nx : Nat)] 3) :: (nbx, .cells #[.int .i64 (k + 1 : Nat)] 3) :: (wB.heap.size, .deferred (some [])) :: frL ob ib rb vb wb tb sb Ao os.length co inner false (.slice (some adW) s0.L.length cW) X) (.slice (some adW) s0.L.length cW) X s0.L ∧ ¬ okS (wB.heap.size + 1) ∧ s.all.length ≤ 100 + (k + 1) ∧ nx ≤ os.length) := by
                refine ⟨((Below.heap_setCell wc ⟨nbx, 0, none⟩ _ (wB.heap.size + 1) (by show wB.heap.size + 1 ≠ nbx; omega)).trans hcut.out.2).trans HLR.out.symm, s6, okS6, nx6, (h62.setInt ((k + 1 : Nat) : Int) hne (by omega)).less fun x hx => ?_, H6.out.2.1, H63.out.1, H63.out.2⟩
                simp only [List.mem_cons] at hx ⊢
                rcases hx with h | h | h
                · exact .inr (.inl h)
                · exact .inl h
                · exact .inr (.inr h)
              clear h61 h62 hne n1 n2 hcut
              gi_wp2
              exact HN9.out
        case done =>
          obtain ⟨s, okS, nx, h1, _⟩ := h
          have k1 : W.cell? ⟨nbx, 0, none⟩ = some (.int .i64 (s0.L.length : Nat)) := h1.cell (t := 3) (by simp)
          have k2 : W.cell? ⟨wb, 0, none⟩ = some (.slice AW s0.L.length cW) := h1.cell (t := 22) (by simp [frL])
          have k3 : W.cell? ⟨rb, 0, none⟩ = some (.bool false) := h1.cell (t := 4) (by simp [frL])
          have k4 : W.frozen? ⟨rb, 0, none⟩ = false := h1.frozen (t := 4) (v := .bool false) (by simp [frL])
          have HD := Lib.hid (h1.fr (wB.heap.size, .deferred (some [])) (by simp)).1
          have HBL : Hid (Below w.heap.size w (W.setCell ⟨rb, 0, none⟩ (.bool true)) ∧ (W.setCell ⟨rb, 0, none⟩ (.bool true)).cell? ⟨rb, 0, none⟩ = some (.bool true) ∧ (W.setCell ⟨rb, 0, none⟩ (.bool true)).heap[wB.heap.size]? = some (.deferred (some []))) := by
            have hb : Blk W rb 4 [.bool false] := (h1.fr (rb, .cells #[.bool false] 4) (by simp [frL])).1
            have n1 := HNN.out
            have n2 := HXN.out
            exact ⟨h1.bel.setCell (by show w.heap.size ≤ rb; omega) _, (hb.setCell 0 (.bool true)).cell 0, (Below.heap_setCell _ _ _ _ (by show wB.heap.size ≠ rb; omega)).trans HD.out⟩
          have n1 := HNN.out
          have n2 := HXN.out
          clear h1
          go_wp2
          refine ⟨by simp, .inl ⟨_, _, rfl, run_takeDeferred HBL.out.2.2, ?_⟩⟩
          refine ⟨_, res7 rfl ?_, rfl, ?_⟩
          · exact (World.cell?_of_block (World.putObj_heap_other (by show rb ≠ wB.heap.size; omega))).trans HBL.out.2.1
          · exact HBL.out.1.grown (grownBy_putObj' _ _ _) HBL.out.1.size fun k e => by cases e; omega
  · obtain rfl := HV.out.none.2 h0
    have h1 : (newE fs room [] == 0) = false := by rw [beq_eq_false_iff_ne]; exact h0
    have h2 : (newE fs room [] != 0) = true := by rw [bne_iff_ne]; exact h0
    have c0 : w3.cell? ⟨vb, 0, none⟩ = some (.pointer none) := HVB.out.2.cell 0
    have c3 := HX3.out.r.cell 0
    have c4 := HX3.out.r.frozen 0
    go_wp2
    exact leave7 rfl (HX3.out.ans (.bool true))
end Go.Proofs.Ytplknppmaepinaa.S
