/- Texts joined and shortened (wip/tools/shrink.py): ShRefNew, ShMap, ShNew, ShAns, ShSort. -/
import Derived.Test.YtplknppmaepinaaQm3
import Derived.Maps.OwnSet
import Derived.Carry
import Derived.Shelf.Sort.Plain
import Derived.Shelf.Slices.In.SortNone
import Derived.Test.YtplknppmaepinaaProg
/- The document's New. -/
namespace Go.Proofs.Ytplknppmaepinaa.S
open Go Go.RowKit Go.X Go.Proofs.YtplknppmaepinaaW.PrintWords Go.Proofs.Ytplknppmaepinaa.F

theorem info76 : (Try.prog.info? 76).map (fun i => (i.zero, i.size, i.bytes)) = some (some (.agg #[.int .i64 0, .int .i64 0, .int .i64 0]), 3, 24) := by kernel_rfl
theorem sz76 : (Try.prog.info? 76).map (·.size) = some 3 := by kernel_rfl
theorem ps_at {w : World} {A : Option Addr} {ps : List S76} (h : Kd.C k76 w A ps.length ps) {i : Nat} {p : S76} (hi : ps[i]? = some p) : ∃ ad, A = some ad ∧ w.cell? (ad.add (i * 3)) = some (.int .i64 p.f0) ∧ w.cell? ⟨(ad.add (i * 3)).block, (ad.add (i * 3)).off + 1, none⟩ = some (.int .i64 p.f1) ∧ w.cell? ⟨(ad.add (i * 3)).block, (ad.add (i * 3)).off + 2, none⟩ = some (.int .i64 p.f2) := by
  have hil := (List.getElem?_eq_some_iff.1 hi).1
  have := at_T76 h (i : Int) (by omega) (by omega)
  have e : rd_T76 ps (i : Int) = p := by simp [rd_T76, List.getD_eq_getElem?_getD, hi]
  rw [e] at this
  simpa using this
theorem newF_step {room : Int} {acc fs : List S73} {i : Nat} {f : S73} (hf : fs[i]? = some f) : newF room acc (fs.drop i) = if hasN acc f.f0 || !nmOK f.f0 then (10, acc) else if acc.length = 64 ∨ room < szL acc + f.f1.length then (13, acc) else newF room (putL f.f0 f.f1 acc) (fs.drop (i + 1)) := by
  have hl := (List.getElem?_eq_some_iff.1 hf).1
  rw [List.drop_eq_getElem_cons hl, (List.getElem?_eq_some_iff.1 hf).2]
  rfl
theorem newP_step {ps : List S76} {i : Nat} {p : S76} (hf : ps[i]? = some p) : newP (ps.drop i) = if badT p then 6 else newP (ps.drop (i + 1)) := by
  have hl := (List.getElem?_eq_some_iff.1 hf).1
  rw [List.drop_eq_getElem_cons hl, (List.getElem?_eq_some_iff.1 hf).2]
  rfl
/-- The loop over the files: what lies there by then. -/
structure Acc (room : Int) (fs acc : List S73) (i : Nat) : Prop where
  rises : Rises acc
  names : ∀ f ∈ acc, nmOK f.f0 = true
  len : acc.length = i
  few : i ≤ 64
  fits : (szL acc : Int) ≤ room
  step : newF room [] fs = newF room acc (fs.drop i)
theorem Acc.next {room : Int} {fs acc : List S73} {i : Nat} {f : S73} (h : Acc room fs acc i) (hf : fs[i]? = some f) (h1 : hasN acc f.f0 = false) (h2 : nmOK f.f0 = true) (h3 : i ≠ 64) (h4 : ¬ room < szL acc + f.f1.length) : Acc room fs (putL f.f0 f.f1 acc) (i + 1) := by
  have hs := newF_step (room := room) (acc := acc) hf
  rw [h1, h2, if_neg (by decide), if_neg (by rw [h.len]; exact fun e => e.elim h3 h4)] at hs
  refine ⟨h.rises.put, fun g hg => ?_, ?_, ?_, ?_, h.step.trans hs⟩
  · rcases mem_putL hg with e | hg
    · rw [e]; exact h2
    · exact h.names g hg
  · rw [length_putL h.rises, h1]; simp [h.len]
  · have := h.few; omega
  · rw [szL_putL h.rises, szBut_none h1]; omega
theorem Acc.bad1 {room : Int} {fs acc : List S73} {i : Nat} {f : S73} (h : Acc room fs acc i) (hf : fs[i]? = some f) (h1 : (hasN acc f.f0 || !nmOK f.f0) = true) : (newF room [] fs).1 = 10 := by
  rw [h.step, newF_step hf, if_pos h1]
theorem Acc.bad2 {room : Int} {fs acc : List S73} {i : Nat} {f : S73} (h : Acc room fs acc i) (hf : fs[i]? = some f) (h1 : hasN acc f.f0 = false) (h2 : nmOK f.f0 = true) (h3 : i = 64 ∨ room < szL acc + f.f1.length) : (newF room [] fs).1 = 13 := by
  rw [h.step, newF_step hf, h1, h2, if_neg (by decide), if_pos (by rw [h.len]; exact h3)]
theorem Acc.done {room : Int} {fs acc : List S73} (h : Acc room fs acc fs.length) : newF room [] fs = (0, acc) := by
  rw [h.step, List.drop_length]
  rfl
theorem Acc.noname {room : Int} {fs acc : List S73} {i : Nat} (h : Acc room fs acc i) : hasN acc ⟨#[]⟩ = false := by
  rw [Bool.eq_false_iff]
  intro hh
  obtain ⟨f, hf, e⟩ := hasN_iff.1 hh
  have := h.names f hf
  rw [ky_inj e] at this
  revert this
  decide
/-- What the document's New leaves. -/
def RNewPost (w : World) (fs : List S73) (room : Int) (ps : List S76) (e : Ending) (w' : World) : Prop :=
  Below w.heap.size w w' ∧ ((newE fs room ps ≠ 0 ∧ e = .returned (.tuple #[.pointer none, .int .i64 (newE fs room ps)])) ∨
    (newE fs room ps = 0 ∧ ∃ rb, e = .returned (.tuple #[.pointer (some ⟨rb, 0, none⟩), .int .i64 0]) ∧ RefAt w' (fun k => w.heap.size ≤ k) rb (newS fs room ps)))
theorem newE_room {fs : List S73} {room : Int} {ps : List S76} (h : room < 0 ∨ 16777216 < room) : newE fs room ps = 5 := by
  unfold newE; rw [if_pos h]
theorem newE_files {fs : List S73} {room : Int} {ps : List S76} {x : Int} (h : ¬ (room < 0 ∨ 16777216 < room)) (hx : (newF room [] fs).1 = x) (h0 : x ≠ 0) : newE fs room ps = x := by
  unfold newE; rw [if_neg h, hx, if_pos h0]
theorem newE_plan {fs : List S73} {room : Int} {ps : List S76} (h : ¬ (room < 0 ∨ 16777216 < room)) (hx : (newF room [] fs).1 = 0) : newE fs room ps = newP ps := by
  unfold newE; rw [if_neg h, hx, if_neg (by simp)]
theorem but_cell {S : Nat → Prop} {w w' : World} (h : But S w w') {p : Addr} {v : Value} (hc : w.cell? p = some v) (hp : ¬ S p.block) : w'.cell? p = some v := by
  rw [World.cell?_of_block (h.block p.block (World.block_lt_of_cell? w p hc) hp)]
  exact hc
theorem plan_next {w wr2 wa wl w4 w6 : World} {rb : Nat} {lv cv : Value} {Apv A4 : Option Addr} {cpv c4 j : Nat} {room : Int} {acc : List S73} {ps : List S76} {p : S76}
    (hx : Blk wr2 rb 66 [lv, .int .i64 room, .slice Apv j cpv, cv] ∧ FilesAt wr2 (fun k => rb ≤ k) lv acc ∧ wr2.ownsRow 0 76 3 (.slice Apv j cpv) j (troubleCells (ps.take j)) ∧ wr2.ownsRow 0 102 3 cv 0 [] ∧ (∀ g, (Value.slice Apv j cpv).ownBlock = some g → rb ≤ g) ∧ (∀ g, cv.ownBlock = some g → rb ≤ g))
    (hg : wr2.grownBy wa none) (hpv : wa.ownsRow 0 76 3 (.slice Apv j cpv) j (troubleCells (ps.take j))) (hal : Below wa.heap.size wa wl) (ha : Appended wl w4 76 3 (.slice Apv j cpv) (.slice A4 (j + 1) c4) j)
    (ho : w4.ownsRow 0 76 3 (.slice A4 (j + 1) c4) (j + 1) (troubleCells (ps.take j) ++ [.int .i64 p.f0, .int .i64 p.f1, .int .i64 p.f2])) (hr4 : Blk w4 rb 66 [lv, .int .i64 room, .slice Apv j cpv, cv]) (hbel : Below rb w wa) (hrb : rb < wa.heap.size) (hp : ps[j]? = some p)
    (e : w6 = w4.setCell ⟨rb, 2, none⟩ (.slice A4 (j + 1) c4)) : RefAt w6 (fun k => rb ≤ k) rb ⟨acc, room, ps.take (j + 1), []⟩ ∧ Below rb w w6 := by
  subst e
  obtain ⟨x1, x2, x3, x4, x5, x6⟩ := hx
  have hg6 := grown_setCell w4 ⟨rb, 2, none⟩ (.slice A4 (j + 1) c4)
  have n6 : No5 w4 (some rb) := No5.blk hr4 (by decide)
  have hpl : wl.ownsRow 0 76 3 (.slice Apv j cpv) j (troubleCells (ps.take j)) := ownsRow_keep (ok := fun _ => True) hpv (Keeps.below hal) (fun _ _ => trivial)
  have hS : No5 wl (Value.slice Apv j cpv).ownBlock := No5.row hpl (by decide)
  have row4 : ∀ {e : TypeId} {size m : Nat} {v : Value} {xs : List Value}, wr2.ownsRow 0 e size v m xs → e ≠ 76 → e ≠ 66 → (w4.setCell ⟨rb, 2, none⟩ (.slice A4 (j + 1) c4)).ownsRow 0 e size v m xs := fun {e size m v xs} h he he' => by
    have h1 : wa.ownsRow 0 e size v m xs := h.kept hg (by cases v.ownBlock <;> simp)
    have h2 : wl.ownsRow 0 e size v m xs := ownsRow_keep (ok := fun _ => True) h1 (Keeps.below hal) (fun _ _ => trivial)
    have h4 : w4.ownsRow 0 e size v m xs := h2.kept ha.grown (own_type_ne h2 hpl he)
    refine h4.kept hg6 ?_
    cases hv : v.ownBlock with
    | none => exact .inl rfl
    | some g => exact .inr fun e => row_ne_blk h4 hr4 he' hv (by injection e)
  obtain ⟨q0, cs, q1, q2⟩ := x2
  have hl : (ps.take (j + 1)) = ps.take j ++ [p] := by
    have hlt := (List.getElem?_eq_some_iff.1 hp).1
    rw [List.take_succ_eq_append_getElem hlt, (List.getElem?_eq_some_iff.1 hp).2]
  have hlen : (ps.take (j + 1)).length = j + 1 := by
    have hlt := (List.getElem?_eq_some_iff.1 hp).1
    rw [List.length_take]; omega
  have hown : ∀ g, (Value.slice A4 (j + 1) c4).ownBlock = some g → rb ≤ g := by
    intro g hg'
    rcases ha.place with h | ⟨h, _⟩
    · rw [h] at hg'; exact x5 g hg'
    · rw [h] at hg'
      injection hg' with hg'
      have := hal.size
      omega
  refine ⟨⟨lv, .slice A4 (j + 1) c4, cv, ?_, ⟨q0, cs, ?_, row4 q2 (by decide) (by decide)⟩, ?_, row4 x4 (by decide) (by decide), Nat.le_refl _, hown, x6⟩, ?_⟩
  · exact hr4.setCell 2 _
  · exact (((q1.grown hg (No5.none _)).keep (Keeps.below hal)).grown ha.grown hS).grown hg6 n6
  · show (w4.setCell ⟨rb, 2, none⟩ (.slice A4 (j + 1) c4)).ownsRow 0 76 3 (.slice A4 (j + 1) c4) (ps.take (j + 1)).length (troubleCells (ps.take (j + 1)))
    rw [hlen, hl, troubleCells_append]
    refine (show w4.ownsRow 0 76 3 _ _ (troubleCells (ps.take j) ++ troubleCells [p]) from ho).kept hg6 ?_
    cases hv : (Value.slice A4 (j + 1) c4).ownBlock with
    | none => exact .inl rfl
    | some g => exact .inr fun e => row_ne_blk ho hr4 (by decide) hv (by injection e)
  · have b1 : Below rb w wl := hbel.trans (hal.mono (Nat.le_of_lt hrb))
    have b2 : Below rb w w4 := b1.grown ha.grown (Nat.le_trans (Nat.le_of_lt hrb) hal.size) (fun k hk => x5 k hk)
    exact b2.grown hg6 (Nat.le_trans (Nat.le_trans (Nat.le_of_lt hrb) hal.size) ha.grown.size) (fun k hk => by cases hk; exact Nat.le_refl _)
set_option maxRecDepth 100000 in
set_option maxHeartbeats 8000000 in
theorem refNew.calls (Af Ap : Option Addr) (cf cp : Nat) (fs : List S73) (ps : List S76) (room : Int) (w : World) (hf : Kd.C k73 w Af fs.length fs) (hp : Kd.C k76 w Ap ps.length ps) (hn : fs.length ≤ 67108864) (hm : ∀ f ∈ fs, f.f1.length ≤ 140737488355328) (hq : ps.length ≤ 5864062014805) :
    Calls Try.prog 29 #[.slice Af fs.length cf, .int .i64 room, .slice Ap ps.length cp] w (RNewPost w fs room ps) := by
  have HF := Lib.hid hf; clear hf
  have HP := Lib.hid hp; clear hp
  have HM := Lib.hid hm; clear hm
  by_cases hr : room < 0 ∨ 16777216 < room
  · have he := newE_room (fs := fs) (ps := ps) hr
    have HE := Lib.hid he; clear he
    go_enter Try.func29, Try.ntmps29
    rcases Classical.em (room < 0) with h0 | h0
    · go_wp2
      go_ret2
      exact ⟨Below.refl _ _, .inl ⟨by rw [HE.out]; decide, by rw [HE.out]; rfl⟩⟩
    · have h1 : 16777216 < room := by omega
      go_wp2
      go_ret2
      exact ⟨Below.refl _ _, .inl ⟨by rw [HE.out]; decide, by rw [HE.out]; rfl⟩⟩
  · have hr0 : ¬ room < 0 := fun h => hr (.inl h)
    have hr1 : ¬ 16777216 < room := fun h => hr (.inr h)
    have HRM : Hid (¬ (room < 0 ∨ 16777216 < room)) := hr
    clear hr
    go_enter Try.func29, Try.ntmps29
    have HI0 : Hid (Acc room fs [] 0 ∧ RefAt (w.alloc (.cells #[.slice none 0 0, .int .i64 room, .slice none 0 0, .slice none 0 0] 66)) (fun k => w.heap.size ≤ k) w.heap.size ⟨[], room, [], []⟩ ∧ Below w.heap.size w (w.alloc (.cells #[.slice none 0 0, .int .i64 room, .slice none 0 0, .slice none 0 0] 66))) :=
      ⟨⟨Rises.nil, by simp, rfl, by omega, by simp [szL]; omega, by simp⟩, ⟨_, _, _, Blk.alloc w _ _, ⟨by simp [Value.ownBlock], [], .nil, own_nil _ _ _ _⟩, own_nil _ _ _ _, own_nil _ _ _ _, Nat.le_refl _, by simp [Value.ownBlock], by simp [Value.ownBlock]⟩, (Below.refl _ _).alloc (Nat.le_refl _) _⟩
    go_wp2
    obtain ⟨rb, hrb⟩ : ∃ rb, w.heap.size = rb := ⟨_, rfl⟩
    have HRB := Lib.hid hrb
    rw [hrb] at HI0 ⊢
    clear hrb
    go_loopg [9] fs.length (fun q v wr => ∃ (i : Nat) (acc : List S73), q + i = fs.length ∧ v = .int .i64 (i : Nat) ∧ Hid (Acc room fs acc i ∧ RefAt wr (fun k => rb ≤ k) rb ⟨acc, room, [], []⟩ ∧ Below rb w wr))
    case atStart => exact ⟨0, [], by simp, rfl, HI0.out⟩
    case round =>
      clear HI0
      obtain ⟨i, acc, hi, rfl, HI⟩ := hrel
      by_cases hlt : i < fs.length
      · obtain ⟨f, hf⟩ : ∃ f, fs[i]? = some f := ⟨_, List.getElem?_eq_getElem hlt⟩
        have hfl := HM.out f (List.mem_of_getElem? hf)
        obtain ⟨ad, A1, c1, eA, e0, e1, hc1l, hc1⟩ := fs_at (Kd.C_below HF.out (HRB.out ▸ HI.out.2.2)) hf
        subst eA
        obtain ⟨lv, pv, cv, hb, hF, hpv, hcv, hok⟩ := HI.out.2.1.out
        obtain ⟨Al, cl, rfl, hcl, hCl⟩ := hF.slice
        have h0 : wr.cell? ⟨rb, 0, none⟩ = some (.slice Al acc.length cl) := hb.cell 0
        have hal : acc.length ≤ 67108864 := by have := HI.out.1.len; have := HI.out.1.few; omega
        have hsz : szL acc ≤ 140737488355328 := by have := HI.out.1.fits; omega
        have HX : Hid (Blk wr rb 66 [.slice Al acc.length cl, .int .i64 room, pv, cv] ∧ Kd.C k73 wr Al acc.length acc) := ⟨hb, hCl⟩
        have HBK : Hid (∀ W, Below wr.heap.size wr W → Below w.heap.size w W) := fun W hW => by
          have h1 : Below w.heap.size w wr := HRB.out ▸ HI.out.2.2
          exact h1.trans (hW.mono h1.size)
        have HC1 := Lib.hid hc1; clear hc1 hb hF hpv hcv hok hCl hcl
        have HFI := Lib.hid hf; clear hf
        have HFL := Lib.hid hfl; clear hfl
        have HIL := Lib.hid hlt
        have hi0 : (0 : Int) ≤ (i : Int) := Int.natCast_nonneg _
        have hi1 : (i : Int) < (fs.length : Int) := Int.ofNat_lt.2 hlt
        obtain ⟨pl, hpl⟩ : ∃ pl, placeL f.f0 acc = pl := ⟨_, rfl⟩
        have HPL := Lib.hid hpl; clear hpl
        cases hh : hasN acc f.f0
        · cases hk : nmOK f.f0
          · have HHK := Lib.hid (show hasN acc f.f0 = false ∧ nmOK f.f0 = false from ⟨hh, hk⟩); clear hh hk
            go_wp2_with (first
              | (go_at_call 54; refine (place.calls rb Al cl acc f.f0 wr h0 HX.out.2 hal HI.out.1.rises).mono ?_; rintro e w1 ⟨rfl, hdr⟩; rw [HPL.out, HHK.out.1]
                 have HB1 : Hid (Below wr.heap.size wr w1) := drawn_below hdr
                 have e01 := Below.cellS hdr.below e0
                 clear hdr e0; dsimp only)
              | (go_at_call 55; refine (dowelref01_Name.calls 67 f.f0 false w1 (by rw [name_f _ _ (by decide), HHK.out.2])).mono ?_; rintro e w2 ⟨rfl, hdr⟩
                 have HB2 : Hid (Below wr.heap.size wr w2) := HB1.out.trans ((drawn_below hdr).mono HB1.out.size)
                 clear hdr; dsimp only)
              | fail)
            go_ret2
            have he := newE_files (ps := ps) HRM.out (HI.out.1.bad1 HFI.out (by rw [HHK.out.1, HHK.out.2]; rfl)) (by decide)
            exact ⟨HBK.out _ HB2.out, .inl ⟨by rw [he]; decide, by rw [he]; rfl⟩⟩
          · have HHK := Lib.hid (show hasN acc f.f0 = false ∧ nmOK f.f0 = true from ⟨hh, hk⟩); clear hh hk
            by_cases h64 : i = 64
            · have h64' : (64 : Int) ≤ (i : Int) := by omega
              have H64 := Lib.hid h64; clear h64
              go_wp2_with (first
                | (go_at_call 54; refine (place.calls rb Al cl acc f.f0 wr h0 HX.out.2 hal HI.out.1.rises).mono ?_; rintro e w1 ⟨rfl, hdr⟩; rw [HPL.out, HHK.out.1]
                   have HB1 : Hid (Below wr.heap.size wr w1) := drawn_below hdr
                   have e01 := Below.cellS hdr.below e0
                   have e11 := Below.cellS hdr.below e1
                   have h01 := Below.cellS hdr.below h0
                   clear hdr e0 e1 h0; dsimp only)
                | (go_at_call 55; refine (dowelref01_Name.calls 67 f.f0 true w1 (by rw [name_f _ _ (by decide), HHK.out.2])).mono ?_; rintro e w2 ⟨rfl, hdr⟩
                   have HB2 : Hid (Below wr.heap.size wr w2) := HB1.out.trans ((drawn_below hdr).mono HB1.out.size)
                   have e02 := Below.cellS hdr.below e01
                   have e12 := Below.cellS hdr.below e11
                   have h02 := Below.cellS hdr.below h01
                   clear hdr e01 e11 h01; dsimp only)
                | fail)
              go_quiet (fail)
              go_wp2
              go_ret2
              have he := newE_files (ps := ps) HRM.out (HI.out.1.bad2 HFI.out HHK.out.1 HHK.out.2 (.inl H64.out)) (by decide)
              exact ⟨HBK.out _ (HB2.out.trans ((Drawn0.below ⟨_, rfl⟩).mono HB2.out.size)), .inl ⟨by rw [he]; decide, by rw [he]; rfl⟩⟩
            · have h64' : ¬ (64 : Int) ≤ (i : Int) := by have := HI.out.1.few; omega
              have h64'' : (i : Int) < 64 := by omega
              have H64 := Lib.hid h64; clear h64
              obtain ⟨t, ht⟩ : ∃ t, szBut ⟨#[]⟩ acc = t := ⟨_, rfl⟩
              have HT : Hid (t = szL acc) := by rw [← ht]; exact szBut_none HI.out.1.noname
              have HT2 := Lib.hid ht; clear ht
              have htb : (t : Int) ≤ 16777216 := by have := HT.out; have := HI.out.1.fits; omega
              have hlb : (f.f1.length : Int) ≤ 140737488355328 := by have := HFL.out; omega
              have hw : IntKind.i64.wrap ((t : Int) + (f.f1.length : Int)) = (t : Int) + (f.f1.length : Int) := IntWalk.i64_in _ (by omega)
              go_wp2_with (first
                | (go_at_call 54; refine (place.calls rb Al cl acc f.f0 wr h0 HX.out.2 hal HI.out.1.rises).mono ?_; rintro e w1 ⟨rfl, hdr⟩; rw [HPL.out, HHK.out.1]
                   have HB1 : Hid (Below wr.heap.size wr w1) := drawn_below hdr
                   have e01 := Below.cellS hdr.below e0
                   have e11 := Below.cellS hdr.below e1
                   have h01 := Below.cellS hdr.below h0
                   clear hdr e0 e1 h0; dsimp only)
                | (go_at_call 55; refine (dowelref01_Name.calls 67 f.f0 true w1 (by rw [name_f _ _ (by decide), HHK.out.2])).mono ?_; rintro e w2 ⟨rfl, hdr⟩
                   have HB2 : Hid (Below wr.heap.size wr w2) := HB1.out.trans ((drawn_below hdr).mono HB1.out.size)
                   have e02 := Below.cellS hdr.below e01
                   have e12 := Below.cellS hdr.below e11
                   have h02 := Below.cellS hdr.below h01
                   have HSZ : Hid (∀ q, Calls Try.prog 34 #[.pointer (some ⟨rb, 0, none⟩), .string ⟨#[]⟩] (w2.drewN q) fun e w' => e = .returned (.int .i64 (t : Nat)) ∧ w' = w2.drewN q) := fun q => by
                     have h := size.calls rb Al cl acc ⟨#[]⟩ (w2.drewN q) h02 (Kd.C_below HX.out.2 (HB2.out.trans ((Drawn0.below ⟨q, rfl⟩).mono HB2.out.size))) hal hsz
                     rw [HT2.out] at h
                     exact h
                   clear hdr e01 e11 h01; dsimp only)
                | fail)
              go_quiet ((go_at_call 34; exact Calls.quiet_of_same (HSZ.out _)))
              have h64k := h64''
              clear hw hlb htb h64' h64''
              have HB3 : Hid (Below wr.heap.size wr (w2.drewN nq)) := HB2.out.trans ((Drawn0.below ⟨nq, rfl⟩).mono HB2.out.size)
              have e03 : (w2.drewN nq).cell? (ad.add (i * 2)) = some (.string f.f0) := e02
              have e13 : (w2.drewN nq).cell? ⟨(ad.add (i * 2)).block, (ad.add (i * 2)).off + 1, none⟩ = some (.slice A1 f.f1.length c1) := e12
              clear e02 e12 h02 HSZ HB2 HB1
              generalize w2.drewN nq = w3 at *
              have HI64 : Hid ((i : Int) < 64) := h64k
              clear h64k
              go_wp2
              · rename_i hfull
                have hfull' : room < szL acc + f.f1.length := by have := HT.out; have := HI64.out; omega
                go_ret2
                have he := newE_files (ps := ps) HRM.out (HI.out.1.bad2 HFI.out HHK.out.1 HHK.out.2 (.inr hfull')) (by decide)
                exact ⟨HBK.out _ HB3.out, .inl ⟨by rw [he]; decide, by rw [he]; rfl⟩⟩
              rename_i hfit
              have hfit' : ¬ room < szL acc + f.f1.length := by have := HT.out; omega
              have HFT := Lib.hid hfit'; clear hfit hfit'
              have HRF : Hid (RefAt w3.drew (fun k => rb ≤ k) rb ⟨acc, room, [], []⟩ ∧ rb ≤ w3.drew.heap.size) := ⟨HI.out.2.1.keep (Keeps.below (HB3.out.trans ((Below.refl _ w3).drew.mono HB3.out.size))), Nat.le_trans (Nat.le_trans (HRB.out ▸ Nat.le_refl _) HI.out.2.2.size) HB3.out.size⟩
              have HNB : Hid (¬ rb ≤ (ad.add (i * 2)).block) := by
                obtain ⟨ad', _, _, e', cc, _⟩ := fs_at HF.out HFI.out
                cases e'
                have h1 := World.block_lt_of_cell? w _ cc
                have := HRB.out
                show ¬ _
                omega
              go_region_held3 (fun w' => w'.cell? (ad.add (i * 2)) = some (.string f.f0) ∧ w'.cell? ⟨(ad.add (i * 2)).block, (ad.add (i * 2)).off + 1, none⟩ = some (.slice A1 f.f1.length c1))
                (first
                  | with_reducible exact ⟨p0, p1⟩
                  | go_keep)
                (first
                  | (go_at_call 56; refine (put.calls rb (fun k => rb ≤ k) ⟨acc, room, [], []⟩ f.f0 A1 c1 f.f1 w3.drew HRF.out.1 HI.out.1.rises hal (Kd.C_below HC1.out (HB3.out.trans ((Below.refl _ w3).drew.mono HB3.out.size))) HFL.out (fun k hk => Nat.le_trans HRF.out.2 hk)).mono ?_; rintro e w5 ⟨rfl, href, hbut⟩
                     have p0 := but_cell hbut (show w3.drew.cell? _ = _ from e03) HNB.out
                     have p1 := but_cell hbut (show w3.drew.cell? _ = _ from e13) HNB.out
                     have HRF5 := Lib.hid href; clear href
                     have HBT5 := Lib.hid hbut; clear hbut))
              rename_i hHeld
              clear hHeld
              have hiw : wrap64 ((i : Int) + 1) = ((i + 1 : Nat) : Int) := by rw [IntWalk.wrap64_in _ (by omega)]; rfl
              have HFIN : Hid (Acc room fs (putL f.f0 f.f1 acc) (i + 1) ∧ RefAt w5 (fun k => rb ≤ k) rb ⟨putL f.f0 f.f1 acc, room, [], []⟩ ∧ Below rb w w5) := by
                refine ⟨HI.out.1.next HFI.out HHK.out.1 HHK.out.2 H64.out (by have := HFT.out; omega), HRF5.out, ?_⟩
                have b1 : Below rb w w3.drew := HI.out.2.2.trans ((HB3.out.trans ((Below.refl _ w3).drew.mono HB3.out.size)).mono (Nat.le_trans (HRB.out ▸ Nat.le_refl _) HI.out.2.2.size))
                exact ⟨HBT5.out.os.trans b1.os, HBT5.out.tape.trans b1.tape, HBT5.out.output.trans b1.output, Nat.le_trans b1.size HBT5.out.size, fun k hk => (HBT5.out.block k (Nat.lt_of_lt_of_le hk HRF.out.2) (by omega)).trans (b1.block k hk)⟩
              clear p0 p1 e03 e13 hi0 hi1
              go_wp2
              go_roundg (fs.length - (i + 1))
              case measure => clear hiw; omega
              case rel => exact ⟨i + 1, putL f.f0 f.f1 acc, by clear hiw; omega, by first | rfl | rw [hiw], HFIN.out⟩
        · have HH := Lib.hid hh; clear hh
          obtain ⟨bk, hbk⟩ : ∃ bk, nmOK f.f0 = bk := ⟨_, rfl⟩
          have HBKN := Lib.hid hbk; clear hbk
          go_wp2_with (first
            | (go_at_call 54; refine (place.calls rb Al cl acc f.f0 wr h0 HX.out.2 hal HI.out.1.rises).mono ?_; rintro e w1 ⟨rfl, hdr⟩; rw [HPL.out, HH.out]
               have HB1 : Hid (Below wr.heap.size wr w1) := drawn_below hdr
               have e01 := Below.cellS hdr.below e0
               clear hdr e0; dsimp only)
            | (go_at_call 55; refine (dowelref01_Name.calls 67 f.f0 bk w1 (by rw [name_f _ _ (by decide), HBKN.out])).mono ?_; rintro e w2 ⟨rfl, hdr⟩
               have HB2 : Hid (Below wr.heap.size wr w2) := HB1.out.trans ((drawn_below hdr).mono HB1.out.size)
               clear hdr; dsimp only; cases bk)
            | fail)
          all_goals
            go_ret2
            have he := newE_files (ps := ps) HRM.out (HI.out.1.bad1 HFI.out (by rw [HH.out]; rfl)) (by decide)
            exact ⟨HBK.out _ HB2.out, .inl ⟨by rw [he]; decide, by rw [he]; rfl⟩⟩
      · obtain rfl : i = fs.length := by omega
        have hdone := HI.out.1.done
        have HD := Lib.hid hdone; clear hdone
        have HI2 : Hid (RefAt wr (fun k => rb ≤ k) rb ⟨acc, room, ps.take 0, []⟩ ∧ Below rb w wr) := Lib.hid (by simpa using HI.out.2)
        clear HI hlt hi
        go_wp2
        go_loopg [12] ps.length (fun q v wr => ∃ j : Nat, q + j = ps.length ∧ v = .int .i64 (j : Nat) ∧ Hid (newP ps = newP (ps.drop j)) ∧ Hid (RefAt wr (fun k => rb ≤ k) rb ⟨acc, room, ps.take j, []⟩ ∧ Below rb w wr))
        case atStart => exact ⟨0, by simp, rfl, Lib.hid (by simp), HI2.out⟩
        case round =>
          clear HI2
          rename World => wr2
          obtain ⟨j, hj, rfl, HNP, HI⟩ := hrel
          by_cases hlt : j < ps.length
          · obtain ⟨p, hp⟩ : ∃ p, ps[j]? = some p := ⟨_, List.getElem?_eq_getElem hlt⟩
            obtain ⟨ad, eA, e0, e1, e2⟩ := ps_at (Kd.C_below HP.out (HRB.out ▸ HI.out.2)) hp
            subst eA
            have HPI := Lib.hid hp; clear hp
            have hj0 : (0 : Int) ≤ (j : Int) := Int.natCast_nonneg _
            have hj1 : (j : Int) < (ps.length : Int) := Int.ofNat_lt.2 hlt
            have HB1 : ∀ wa : World, wa = wr2.alloc (.cells #[.int .i64 p.f0, .int .i64 p.f1, .int .i64 p.f2] 76) → Hid (Blk wa wr2.heap.size 76 [.int .i64 p.f0, .int .i64 p.f1, .int .i64 p.f2] ∧ RefAt wa (fun k => rb ≤ k) rb ⟨acc, room, ps.take j, []⟩ ∧ Below rb w wa ∧ rb ≤ wr2.heap.size) := by
              rintro wa rfl
              have hb : Below wr2.heap.size wr2 (wr2.alloc (.cells #[.int .i64 p.f0, .int .i64 p.f1, .int .i64 p.f2] 76)) := (Below.refl _ _).alloc (Nat.le_refl _) _
              have hle : rb ≤ wr2.heap.size := HRB.out ▸ HI.out.2.size
              exact ⟨Blk.alloc wr2 _ _, HI.out.1.keep (Keeps.below hb), HI.out.2.trans (hb.mono hle), hle⟩
            by_cases hbad : badT p = true
            · have hbad' : p.f0 < 1 ∨ 3 < p.f0 ∨ p.f1 < 1 ∨ ¬ (p.f2 = 11 ∨ p.f2 = 12 ∨ p.f2 = 13) := by
                simp only [badT, Bool.or_eq_true, decide_eq_true_eq, Bool.not_eq_true', Bool.or_eq_false_iff, decide_eq_false_iff_not] at hbad
                omega
              go_wp2
              all_goals first
                | (exfalso; omega)
                | (go_ret2
                   have he := newE_plan (ps := ps) HRM.out (show (newF room [] fs).1 = 0 by rw [HD.out])
                   rw [HNP.out, newP_step HPI.out, if_pos hbad] at he
                   exact ⟨HRB.out ▸ (HB1 _ rfl).out.2.2.1, .inl ⟨by rw [he]; decide, by rw [he]; rfl⟩⟩)
                | (exfalso; rename_i hx; simp only [bne_eq_false_iff_eq] at hx; omega)
            · have hok : 1 ≤ p.f0 ∧ p.f0 ≤ 3 ∧ 1 ≤ p.f1 ∧ (p.f2 = 11 ∨ p.f2 = 12 ∨ p.f2 = 13) := by
                simp only [badT, Bool.or_eq_true, decide_eq_true_eq, Bool.not_eq_true', Bool.or_eq_false_iff, decide_eq_false_iff_not] at hbad
                omega
              have HBAD := Lib.hid hbad; clear hbad
              obtain ⟨k0, k1, k2, k3⟩ := hok
              have hcase : (p.f2 != 11) = false ∨ ((p.f2 != 11) = true ∧ (p.f2 != 12) = false) ∨ ((p.f2 != 11) = true ∧ (p.f2 != 12) = true ∧ (p.f2 != 13) = false) := by
                rcases k3 with h | h | h <;> simp [h]
              obtain ⟨lv, pv, cv, hb, hF, hpv, hcv, hok⟩ := HI.out.1.out
              obtain ⟨Apv, cpv, rfl, _, _⟩ := row_slice (d := k76) hpv (troubleCells_reps wr2 (ps.take j))
              have hlj : (ps.take j).length = j := by rw [List.length_take]; omega
              have HXP : Hid (Blk wr2 rb 66 [lv, .int .i64 room, .slice Apv (ps.take j).length cpv, cv] ∧ FilesAt wr2 (fun k => rb ≤ k) lv acc ∧ wr2.ownsRow 0 76 3 (.slice Apv (ps.take j).length cpv) (ps.take j).length (troubleCells (ps.take j)) ∧ wr2.ownsRow 0 102 3 cv 0 [] ∧ (∀ g, (Value.slice Apv (ps.take j).length cpv).ownBlock = some g → rb ≤ g) ∧ (∀ g, cv.ownBlock = some g → rb ≤ g)) := ⟨hb, hF, hpv, hcv, hok.2.1, hok.2.2⟩
              clear hb hF hpv hcv hok k3
              rw [hlj] at HXP
              rcases hcase with hc | ⟨hc, hc2⟩ | ⟨hc, hc2, hc3⟩
              all_goals
                go_wp2
                generalize hwa : wr2.alloc (.cells #[.int .i64 p.f0, .int .i64 p.f1, .int .i64 p.f2] 76) = wa
                have HB := HB1 wa hwa.symm
                have HGW : Hid (wr2.grownBy wa none) := by rw [← hwa]; exact World.grownBy_alloc _ _ _
                clear HB1 hwa e0 e1 e2
                generalize wr2.heap.size = lb at *
                have c0 : wa.cell? ⟨lb, 0, none⟩ = some (.int .i64 p.f0) := HB.out.1.cell 0
                have c1 : wa.cell? ⟨lb, 1, none⟩ = some (.int .i64 p.f1) := HB.out.1.cell 1
                have c2 : wa.cell? ⟨lb, 2, none⟩ = some (.int .i64 p.f2) := HB.out.1.cell 2
                have HRW : Hid (Blk wa rb 66 [lv, .int .i64 room, .slice Apv j cpv, cv]) := HXP.out.1.grown HGW.out (by simp)
                have r2 : wa.cell? ⟨rb, 2, none⟩ = some (.slice Apv j cpv) := HRW.out.cell 2
                have HPV : Hid (wa.ownsRow 0 76 3 (.slice Apv j cpv) j (troubleCells (ps.take j))) := HXP.out.2.2.1.kept HGW.out (by cases (Value.slice Apv j cpv).ownBlock <;> simp)
                have HAL : Hid (Below wa.heap.size wa ((wa.alloc (.cells #[.int .i64 p.f0, .int .i64 p.f1, .int .i64 p.f2] 76)).drew)) := ((Below.refl _ _).alloc (Nat.le_refl _) _).drew
                have r2a : (wa.alloc (.cells #[.int .i64 p.f0, .int .i64 p.f1, .int .i64 p.f2] 76)).cell? ⟨rb, 2, none⟩ = some (.slice Apv j cpv) := Below.cellS HAL.out r2
                go_region_law (first
                  | (refine step_appendAny rfl (.tmp 118) (.tmp 120) 23 76 rfl 0 _ 3 24 Try.underlying23 info76 rfl (by decide) (.slice Apv j cpv) j (troubleCells (ps.take j)) rfl (show ((wa.alloc (.cells #[.int .i64 p.f0, .int .i64 p.f1, .int .i64 p.f2] 76)).drew).ownsRow _ _ _ _ _ _ from HPV.out.alloc _) (some ⟨wa.heap.size, 0, none⟩) 1 1 [.int .i64 p.f0, .int .i64 p.f1, .int .i64 p.f2] rfl rfl
                       (blk_news (w := (wa.alloc (.cells #[.int .i64 p.f0, .int .i64 p.f1, .int .i64 p.f2] 76)).drew) (rest := []) (Blk.alloc wa #[.int .i64 p.f0, .int .i64 p.f1, .int .i64 p.f2] 76)) (by simp [Value.oneCell']) (by simp only [maxLen]; omega) (by omega) (Nat.zero_le _) ?_
                     intro v4 w4 ho4 ha4
                     obtain ⟨A4, c4, rfl⟩ := own_slice ho4
                     have HO4 := Lib.hid ho4; clear ho4
                     have HA4 := Lib.hid ha4; clear ha4
                     have HR4 : Hid (Blk w4 rb 66 [lv, .int .i64 room, .slice Apv j cpv, cv]) := (HRW.out.below HAL.out HRW.out.lt).grown HA4.out.grown (fun e => row_ne_blk HPV.out HRW.out (by decide) e.symm rfl)
                     have h4 := HR4.out.cell 2
                     have f4 := HR4.out.frozen 2)
                  | fail)
              all_goals
                have hN : ∀ w6 : World, w6 = w4.setCell ⟨rb, 2, none⟩ (.slice A4 (j + 1) c4) → Hid (RefAt w6 (fun k => rb ≤ k) rb ⟨acc, room, ps.take (j + 1), []⟩ ∧ Below rb w w6) := fun w6 e => plan_next HXP.out HGW.out HPV.out HAL.out HA4.out HO4.out HR4.out HB.out.2.2.1 HRW.out.lt HPI.out e
                have hiw : wrap64 ((j : Int) + 1) = ((j + 1 : Nat) : Int) := by rw [IntWalk.wrap64_in _ (by omega)]; rfl
                clear h4 f4 c0 c1 c2 r2 r2a
                generalize hw6 : w4.setCell ⟨rb, 2, none⟩ (.slice A4 (j + 1) c4) = w6
                have HF6 := hN w6 hw6.symm
                clear hN hw6
                go_wp2
                go_roundg (ps.length - (j + 1))
                case measure => clear hiw; omega
                case rel =>
                  refine ⟨j + 1, by clear hiw; omega, by first | rfl | rw [hiw], Lib.hid ?_, HF6.out⟩
                  rw [HNP.out, newP_step HPI.out, if_neg HBAD.out]
          · obtain rfl : j = ps.length := by omega
            have hNP := HNP.out
            rw [List.drop_length] at hNP
            have he := newE_plan (ps := ps) HRM.out (show (newF room [] fs).1 = 0 by rw [HD.out])
            rw [hNP] at he
            have HE : Hid (newE fs room ps = 0) := he
            clear hNP he
            go_wp2
            go_ret2
            have hs : newS fs room ps = ⟨acc, room, ps.take ps.length, []⟩ := by rw [newS, HD.out, List.take_length]
            refine ⟨HRB.out ▸ HI.out.2, .inr ⟨HE.out, rb, rfl, ?_⟩⟩
            rw [hs, HRB.out]
            exact HI.out.1
end Go.Proofs.Ytplknppmaepinaa.S
/- The maps of the program's shelf: files by names, troubles by calls and turns, turns by calls. -/
namespace Go.Proofs.Ytplknppmaepinaa.S
open Go Go.RowKit Go.X Go.Maps Go.Proofs.YtplknppmaepinaaW.PrintWords Go.Proofs.Ytplknppmaepinaa.F

set_option maxRecDepth 100000
theorem lawS : Keyed Try.prog 9 := string_keyed Try.underlying9
theorem keyS {n : ByteArray} (h : n.size ≤ maxLen) : keyOf Try.prog 9 (.string n) = some (.string (ky n)) := by
  simp [keyOf, Try.underlying9, mapKey, h, ky]
theorem isKS (s : List UInt8) : WideAt.IsKeyLit (.string s) := trivial
theorem zero39 (w : World) : (zeroValue 39).run Try.prog w = .ok nilV w := by kernel_rfl
theorem zero42 (w : World) : (zeroValue 42).run Try.prog w = .ok (.int .i64 0) w := by kernel_rfl
/-- 'v, ok := files[n]', 'files[n]' -/
theorem FMap.look {w : World} {ok : Nat → Prop} {fm : Nat} {L : List S73} (h : FMap w ok fm L) {n : ByteArray} (hn : n.size ≤ maxLen) :
    ∃ v, (∀ W, Keeps (fun k => k = fm) w W → (Instr.lookup 80 (.map (some fm)) (.string n) true).run Try.prog W = .ok (.tuple #[v, .bool (hasN L n)]) W ∧ (Instr.lookup 80 (.map (some fm)) (.string n) false).run Try.prog W = .ok v W) ∧ (hasN L n = false → v = nilV) ∧ (∀ f ∈ L, ky f.f0 = ky n → DataAt w ok v f.f1) := by
  obtain ⟨D, h1, h2, h3, h4⟩ := h.out
  obtain ⟨v0, ps0, hr0, hv0⟩ := h1.look_ok lawS Try.underlying80 (zero39 w) (show RH nilV = some (.held nilV, []) from rfl) (keyS hn)
  have e0 : D.atKey (.string (ky n)) (.held nilV) = .held v0 := by
    simp only [RH, Option.some.injEq, Prod.mk.injEq] at hv0
    exact hv0.1.symm
  refine ⟨v0, fun W hW => ?_, fun hh => ?_, fun f hf e => ?_⟩
  · have hW1 := ownsMap_keep h1 hW rfl
    obtain ⟨v1, ps1, hr1, hv1⟩ := hW1.look_ok lawS Try.underlying80 (zero39 W) (show RH nilV = some (.held nilV, []) from rfl) (keyS hn)
    obtain ⟨v2, ps2, hr2, hv2⟩ := hW1.lookup lawS Try.underlying80 (zero39 W) (show RH nilV = some (.held nilV, []) from rfl) (keyS hn)
    simp only [RH, Option.some.injEq, Prod.mk.injEq] at hv1 hv2
    rw [e0] at hv1 hv2
    injection hv1.1 with hv1
    injection hv2.1 with hv2
    rw [hr1, hr2, hv1, hv2, h3]
    exact ⟨rfl, rfl⟩
  · rw [← h3] at hh
    rw [atKey_of_not_has hh] at e0
    injection e0 with e0
    exact e0.symm
  · obtain ⟨v, h5, h6⟩ := h4 f hf
    rw [e, e0] at h5
    injection h5 with h5
    rw [h5]
    exact h6
theorem FMap.len {w : World} {ok : Nat → Prop} {fm : Nat} {L : List S73} (h : FMap w ok fm L) (ty : TypeId) : ∀ W, Keeps (fun k => k = fm) w W → (Builtin.len_ #[80] ty #[.map (some fm)]).run Try.prog W = .ok (.int .i64 (L.length : Nat)) W := by
  obtain ⟨D, h1, h2, h3, h4⟩ := h.out
  intro W hW
  have := (ownsMap_keep h1 hW rfl).len Try.underlying80 ty
  rw [h2] at this
  exact this
theorem mapTurned_but {w w' : World} {b : Nat} (h : w.mapTurned w' b) : But (fun k => k = b) w w' := But.of_grown h.grown (fun k e => by cases e; rfl)
/-- 'files[n] = v' -/
theorem FMap.store {w : World} {ok : Nat → Prop} {fm : Nat} {L : List S73} (h : FMap w ok fm L) (hr : Rises L) (hl : L.length < maxLen) {n : ByteArray} (hn : n.size ≤ maxLen) {v : Value} {d : List Int} (hd : DataAt w ok v d) :
    ∃ w', (Instr.mapUpdate 80 (.map (some fm)) (.string n) v).run Try.prog w = .ok () w' ∧ FMap w' ok fm (putL n d L) ∧ w.mapTurned w' fm := by
  obtain ⟨D, h1, h2, h3, h4⟩ := h.out
  have hti := h1.tidy lawS
  obtain ⟨w', hrun, hown, hturn⟩ := h1.store lawS Try.underlying80 (by rw [h2]; exact hl) (keyS hn) (show RH v = some (.held v, []) from rfl)
  have n5 : No5 w (some fm) := No5.map h1
  refine ⟨w', hrun, ⟨_, ownsMap_tight hown, ?_, fun m => ?_, fun f hf => ?_⟩, hturn⟩
  · rw [size_put hti, h3, h2, length_putL hr]
  · rw [has_putL, ← h3]
    by_cases e : ky n = ky m
    · rw [e, has_put_same hti.isMap (isKS _)]
      simp
    · rw [has_put_other (fun h => e (by injection h with h; exact h.symm))]
      have : (ky n == ky m) = false := by simpa using e
      rw [this, Bool.false_or]
  · have hlk := lookL_of_mem hr.put hf
    rw [look_putL hr] at hlk
    by_cases e : ky n = ky f.f0
    · rw [if_pos e] at hlk
      refine ⟨v, ?_, ?_⟩
      · rw [← e]; exact atKey_put_same hti.isMap (isKS _) _ _
      · rw [← hlk]; exact hd.grown hturn.grown n5
    · rw [if_neg e] at hlk
      have hm : f ∈ L := by
        rcases mem_putL hf with h | h
        · exact absurd (by rw [h]) e
        · exact h
      obtain ⟨u, h5, h6⟩ := h4 f hm
      refine ⟨u, ?_, h6.grown hturn.grown n5⟩
      rw [atKey_put_other (fun h => e (by injection h with h; exact h.symm))]
      exact h5
/-! ### troubles -/
theorem planF_snoc_old {plan : List S76} {p : S76} (_hne : ∀ q ∈ plan, q.f2 ≠ 0) (c n : Int) (h : planF plan p.f0 p.f1 ≠ 0) : planF (plan ++ [p]) c n = planF plan c n := by
  unfold planF
  rw [List.find?_append]
  cases hf : plan.find? fun q => decide (q.f0 = c ∧ q.f1 = n) with
  | some q => rfl
  | none =>
    rw [Option.none_or]
    by_cases e : p.f0 = c ∧ p.f1 = n
    · exfalso
      apply h
      unfold planF
      rw [e.1, e.2, hf]
    · rw [List.find?_cons_of_neg (by simpa using e)]
      rfl
theorem planF_zero {plan : List S76} (hne : ∀ q ∈ plan, q.f2 ≠ 0) {c n : Int} (h : planF plan c n = 0) : plan.find? (fun q => decide (q.f0 = c ∧ q.f1 = n)) = none := by
  unfold planF at h
  cases hf : plan.find? fun q => decide (q.f0 = c ∧ q.f1 = n) with
  | none => rfl
  | some q => rw [hf] at h; exact absurd h (hne q (List.mem_of_find?_eq_some hf))
theorem planF_snoc_new {plan : List S76} {p : S76} (hne : ∀ q ∈ plan, q.f2 ≠ 0) (c n : Int) (h : planF plan p.f0 p.f1 = 0) : planF (plan ++ [p]) c n = if p.f0 = c ∧ p.f1 = n then p.f2 else planF plan c n := by
  by_cases e : p.f0 = c ∧ p.f1 = n
  · rw [if_pos e]
    have h0 := planF_zero hne h
    rw [e.1, e.2] at h0
    unfold planF
    rw [List.find?_append, h0, Option.none_or, List.find?_cons_of_pos (by simpa using e)]
  · rw [if_neg e]
    unfold planF
    rw [List.find?_append]
    cases hf : plan.find? fun q => decide (q.f0 = c ∧ q.f1 = n) with
    | some q => rfl
    | none =>
      rw [Option.none_or, List.find?_cons_of_neg (by simpa using e)]
      rfl
theorem PMap.keep {w w' : World} {pm : Nat} {plan : List S76} (h : PMap w pm plan) (hk : Keeps (fun k => k = pm) w w') : PMap w' pm plan := by
  obtain ⟨D, h1, h2⟩ := h
  exact ⟨D, ownsMap_keep h1 hk rfl, h2⟩
theorem AMap.keep {w w' : World} {am : Nat} {all : List S102} (h : AMap w am all) (hk : Keeps (fun k => k = am) w w') : AMap w' am all := by
  obtain ⟨D, h1, h2⟩ := h
  exact ⟨D, ownsMap_keep h1 hk rfl, h2⟩
theorem PMap.look {w : World} {pm : Nat} {plan : List S76} (h : PMap w pm plan) {c n : Int} (hc : (Lit.int .i64 c).wf = true) (hn : (Lit.int .i64 n).wf = true) :
    ∀ W, Keeps (fun k => k = pm) w W → (Instr.lookup 81 (.map (some pm)) (.agg #[.int .i64 c, .int .i64 n]) false).run Try.prog W = .ok (.int .i64 (planF plan c n)) W := by
  intro W hW
  obtain ⟨D, h1, _, h3⟩ := h
  obtain ⟨x, hrun, hat, _⟩ := (ownsMap_keep h1 hW rfl).lookup_int lawT Try.underlying81 Try.underlying42 (zero42 W) (keyT hc hn)
  rw [h3 c n hc hn] at hat
  injection hat with hat
  injection hat with _ hat
  rw [hrun, hat]
theorem PMap.old {w : World} {pm : Nat} {plan : List S76} (h : PMap w pm plan) (hne : ∀ q ∈ plan, q.f2 ≠ 0) {p : S76} (hz : planF plan p.f0 p.f1 ≠ 0) : PMap w pm (plan ++ [p]) := by
  obtain ⟨D, h1, h2, h3⟩ := h
  exact ⟨D, h1, by rw [List.length_append]; omega, fun c n hc hn => by rw [planF_snoc_old hne c n hz]; exact h3 c n hc hn⟩
theorem PMap.store {w : World} {pm : Nat} {plan : List S76} (h : PMap w pm plan) (hne : ∀ q ∈ plan, q.f2 ≠ 0) (hl : plan.length < maxLen) {p : S76} (hc : (Lit.int .i64 p.f0).wf = true) (hn : (Lit.int .i64 p.f1).wf = true) (h2 : (Lit.int .i64 p.f2).wf = true) (hz : planF plan p.f0 p.f1 = 0) :
    ∃ w', (Instr.mapUpdate 81 (.map (some pm)) (.agg #[.int .i64 p.f0, .int .i64 p.f1]) (.int .i64 p.f2)).run Try.prog w = .ok () w' ∧ PMap w' pm (plan ++ [p]) ∧ w.mapTurned w' pm := by
  obtain ⟨D, k1, k2, k3⟩ := h
  have hti := k1.tidy lawT
  obtain ⟨w', hrun, hown, hturn⟩ := k1.store lawT Try.underlying81 (Nat.lt_of_le_of_lt k2 hl) (keyT hc hn) (plainElem_int Try.underlying42 h2)
  refine ⟨w', hrun, ⟨_, ownsMap_tight hown, ?_, fun c n wc wn => ?_⟩, hturn⟩
  · have := hown.size_le
    rw [List.length_append]
    simp
    omega
  · rw [planF_snoc_new hne c n hz]
    by_cases e : p.f0 = c ∧ p.f1 = n
    · rw [if_pos e, ← e.1, ← e.2]
      exact atKey_put_same hti.isMap (lawT.key (keyT hc hn)) _ _
    · rw [if_neg e, atKey_put_other (fun h => e ?_)]
      · exact k3 c n wc wn
      · have := tkey_inj wc wn hc hn h
        exact ⟨this.1.symm, this.2.symm⟩
/-! ### turns -/
end Go.Proofs.Ytplknppmaepinaa.S
/- The program's New. -/
namespace Go.Proofs.Ytplknppmaepinaa.S
open Go Go.RowKit Go.X Go.Maps Go.Proofs.YtplknppmaepinaaW.PrintWords Go.Proofs.Ytplknppmaepinaa.F
set_option maxRecDepth 100000

theorem FMap.but {w w' : World} {ok S : Nat → Prop} {fm : Nat} {L : List S73} (h : FMap w ok fm L) (g : But S w w') (hf : ¬ S fm) (hr : ∀ b, S b → No5 w (some b)) : FMap w' ok fm L := by
  obtain ⟨D, h1, h2, h3, h4⟩ := h.out
  exact ⟨D, ownsMap_keep h1 (ok := fun k => k = fm) (fun k hk hlt => g.block k hlt (by cases hk; exact hf)) rfl, h2, h3, fun f hf' => by obtain ⟨v, h5, h6⟩ := h4 f hf'; exact ⟨v, h5, h6.but g hr⟩⟩
theorem FMap.lt {w : World} {ok : Nat → Prop} {fm : Nat} {L : List S73} (h : FMap w ok fm L) : fm < w.heap.size := by
  obtain ⟨D, h1, _⟩ := h.out
  exact h1.lt
theorem PMap.lt {w : World} {pm : Nat} {plan : List S76} (h : PMap w pm plan) : pm < w.heap.size := by
  obtain ⟨D, h1, _⟩ := h
  exact h1.lt
theorem AMap.lt {w : World} {am : Nat} {all : List S102} (h : AMap w am all) : am < w.heap.size := by
  obtain ⟨D, h1, _⟩ := h
  exact h1.lt
theorem FMap.ne {w : World} {ok : Nat → Prop} {fm : Nat} {L : List S73} (h : FMap w ok fm L) {b : Nat} {t : TypeId} {cs : List Value} (hb : Blk w b t cs) : fm ≠ b := by
  obtain ⟨D, h1, _⟩ := h.out
  exact ownsMap_ne_blk h1 hb
theorem PMap.ne {w : World} {pm : Nat} {plan : List S76} (h : PMap w pm plan) {b : Nat} {t : TypeId} {cs : List Value} (hb : Blk w b t cs) : pm ≠ b := by
  obtain ⟨D, h1, _⟩ := h
  exact ownsMap_ne_blk h1 hb
theorem AMap.ne {w : World} {am : Nat} {all : List S102} (h : AMap w am all) {b : Nat} {t : TypeId} {cs : List Value} (hb : Blk w b t cs) : am ≠ b := by
  obtain ⟨D, h1, _⟩ := h
  exact ownsMap_ne_blk h1 hb
/-- The shelf's parts in memory (nothing was asked yet). -/
structure NewAt (w : World) (ok : Nat → Prop) (sb fm pm am : Nat) (room : Int) (acc : List S73) (plan : List S76) : Prop where
  blk : Blk w sb 84 [.map (some fm), .int .i64 room, .int .i64 (szL acc), .map (some pm), .map (some am), .slice none 0 0]
  files : FMap w ok fm acc
  troubles : PMap w pm plan
  turns : AMap w am []
  oks : ok sb ∧ ok fm ∧ ok pm ∧ ok am
  ne : fm ≠ pm ∧ fm ≠ am ∧ pm ≠ am
theorem NewAt.shelf {w : World} {ok : Nat → Prop} {sb fm pm am : Nat} {room : Int} {acc : List S73} {plan : List S76} (h : NewAt w ok sb fm pm am room acc plan) : ShelfAt w ok sb ⟨acc, room, plan, []⟩ :=
  ⟨fm, pm, am, _, h.blk, h.files, h.troubles, h.turns, own_nil _ _ _ _, ⟨h.oks.1, h.oks.2.1, h.oks.2.2.1, h.oks.2.2.2, by simp [Value.ownBlock]⟩, h.ne⟩
theorem NewAt.keep {w w' : World} {ok : Nat → Prop} {sb fm pm am : Nat} {room : Int} {acc : List S73} {plan : List S76} (h : NewAt w ok sb fm pm am room acc plan) (hk : Keeps ok w w') : NewAt w' ok sb fm pm am room acc plan :=
  ⟨Blk.keep h.blk hk h.oks.1, h.files.keep hk h.oks.2.1, h.troubles.keep (fun k e => by cases e; exact hk _ h.oks.2.2.1), h.turns.keep (fun k e => by cases e; exact hk _ h.oks.2.2.2), h.oks, h.ne⟩
theorem NewAt.start (w : World) (room : Int) :
    NewAt ((((w.alloc (.map #[] 0)).alloc (.map #[] 0)).alloc (.map #[] 0)).alloc (.cells #[.map (some w.heap.size), .int .i64 room, .int .i64 0, .map (some (w.heap.size + 1)), .map (some (w.heap.size + 2)), .slice none 0 0] 84)) (fun k => w.heap.size ≤ k) (w.heap.size + 3) w.heap.size (w.heap.size + 1) (w.heap.size + 2) room [] [] := by
  have s1 : (w.alloc (.map #[] 0)).heap.size = w.heap.size + 1 := by simp
  have s2 : ((w.alloc (.map #[] 0)).alloc (.map #[] 0)).heap.size = w.heap.size + 2 := by simp
  have s3 : (((w.alloc (.map #[] 0)).alloc (.map #[] 0)).alloc (.map #[] 0)).heap.size = w.heap.size + 3 := by simp
  refine ⟨?_, ⟨.map [], ?_, rfl, fun n => rfl, fun f hf => by cases hf⟩, ⟨.map [], ?_, Nat.le_refl _, fun c n _ _ => rfl⟩, ⟨.map [], ?_, Nat.le_refl _, fun c => rfl⟩, ⟨by omega, by omega, by omega, by omega⟩, by omega, by omega, by omega⟩
  · have := Blk.alloc (((w.alloc (.map #[] 0)).alloc (.map #[] 0)).alloc (.map #[] 0)) #[.map (some w.heap.size), .int .i64 room, .int .i64 0, .map (some (w.heap.size + 1)), .map (some (w.heap.size + 2)), .slice none 0 0] 84
    rw [s3] at this
    exact this
  · exact ((((World.ownsMap_made w Try.prog 9 RH).alloc _).alloc _).alloc _)
  · have := World.ownsMap_made (w.alloc (.map #[] 0)) Try.prog 92 (plainElem (H := Value) Try.prog 42)
    rw [s1] at this
    exact (this.alloc _).alloc _
  · have := World.ownsMap_made ((w.alloc (.map #[] 0)).alloc (.map #[] 0)) Try.prog 3 (plainElem (H := Value) Try.prog 3)
    rw [s2] at this
    exact this.alloc _
/-- A file more. -/
theorem NewAt.file {w5 w6 w7 : World} {ok : Nat → Prop} {sb fm pm am : Nat} {room : Int} {acc : List S73} {plan : List S76} {f : S73} (h : NewAt w5 ok sb fm pm am room acc plan) (hr : Rises acc) (hn : hasN acc f.f0 = false)
    (hf : FMap w6 ok fm (putL f.f0 f.f1 acc)) (ht : w5.mapTurned w6 fm) (e : w7 = w6.setCell ⟨sb, 2, none⟩ (.int .i64 ((szL acc : Int) + f.f1.length))) : NewAt w7 ok sb fm pm am room (putL f.f0 f.f1 acc) plan ∧ But (fun k => k = fm ∨ k = sb) w5 w7 := by
  subst e
  have g1 := ht.grown
  have hb6 : Blk w6 sb 84 _ := h.blk.grown g1 (fun e => h.files.ne h.blk (by injection e with e; exact e.symm))
  have g2 := grown_setCell w6 ⟨sb, 2, none⟩ (.int .i64 ((szL acc : Int) + f.f1.length))
  have n6 : No5 w6 (some sb) := No5.blk hb6 (by decide)
  have fb := hf.ne hb6
  have hp6 : PMap w6 pm plan := h.troubles.keep (fun k e hlt => by cases e; exact g1.block _ hlt (fun e => h.ne.1 (by injection e with e; exact e.symm)))
  have ha6 : AMap w6 am [] := h.turns.keep (fun k e hlt => by cases e; exact g1.block _ hlt (fun e => h.ne.2.1 (by injection e with e; exact e.symm)))
  refine ⟨⟨?_, hf.but (S := fun k => k = sb) (But.of_grown g2 fun k e => by cases e; rfl) fb (fun b hb => by cases hb; exact n6), hp6.keep (fun k e hlt => by cases e; exact g2.block _ hlt (fun e => hp6.ne hb6 (by injection e))), ha6.keep (fun k e hlt => by cases e; exact g2.block _ hlt (fun e => ha6.ne hb6 (by injection e))), h.oks, h.ne⟩, ?_⟩
  · have := hb6.setCell 2 (.int .i64 ((szL acc : Int) + f.f1.length))
    have hs : (szL (putL f.f0 f.f1 acc) : Int) = (szL acc : Int) + f.f1.length := by
      rw [szL_putL hr, szBut_none hn]; simp
    rw [hs]
    exact this
  · exact (But.of_grown g1 fun k e => by cases e; exact .inl rfl).trans2 (But.of_grown g2 fun k e => by cases e; exact .inr rfl)
theorem bcase4 (a b c : Bool) : a = true ∨ (a = false ∧ b = true) ∨ (a = false ∧ b = false ∧ c = true) ∨ (a = false ∧ b = false ∧ c = false) := by cases a <;> cases b <;> cases c <;> simp
theorem bcase3 {a b c : Bool} (h : a = true ∨ b = true ∨ c = true) : a = true ∨ (a = false ∧ b = true) ∨ (a = false ∧ b = false ∧ c = true) := by cases a <;> cases b <;> simp_all
theorem bads {p : S76} (h : badT p = true) : p.f0 < 1 ∨ 3 < p.f0 ∨ p.f1 < 1 ∨ ¬ (p.f2 = 11 ∨ p.f2 = 12 ∨ p.f2 = 13) := by
  simp only [badT, Bool.or_eq_true, decide_eq_true_eq, Bool.not_eq_true', Bool.or_eq_false_iff, decide_eq_false_iff_not] at h
  omega
theorem goods {p : S76} (h : ¬ badT p = true) : 1 ≤ p.f0 ∧ p.f0 ≤ 3 ∧ 1 ≤ p.f1 ∧ (p.f2 = 11 ∨ p.f2 = 12 ∨ p.f2 = 13) := by
  simp only [badT, Bool.or_eq_true, decide_eq_true_eq, Bool.not_eq_true', Bool.or_eq_false_iff, decide_eq_false_iff_not] at h
  omega
theorem bools {x y : Int} {b : Bool} (h : decide (x = y) = b) : x = y ↔ b = true := by rw [← h]; simp
/-- A trouble more. -/
theorem NewAt.trouble {w w6 : World} {ok : Nat → Prop} {sb fm pm am : Nat} {room : Int} {acc : List S73} {plan : List S76} {p : S76} (h : NewAt w ok sb fm pm am room acc plan) (hp : PMap w6 pm (plan ++ [p])) (ht : w.mapTurned w6 pm) : NewAt w6 ok sb fm pm am room acc (plan ++ [p]) := by
  have g := ht.grown
  have n5 : No5 w (some pm) := by
    obtain ⟨D, h1, _⟩ := h.troubles
    exact No5.map h1
  refine ⟨h.blk.grown g (fun e => h.troubles.ne h.blk (by injection e with e; exact e.symm)), h.files.but (mapTurned_but ht) h.ne.1 (fun b hb => by cases hb; exact n5), hp, h.turns.keep (fun k e hlt => by cases e; exact g.block _ hlt (fun e => h.ne.2.2 (by injection e with e; exact e.symm))), h.oks, h.ne⟩
theorem plan_more {ps : List S76} {j : Nat} {p : S76} (h1 : newP ps = newP (ps.drop j)) (h2 : ∀ p ∈ ps.take j, p.f2 ≠ 0) (hp : ps[j]? = some p) (hb : ¬ badT p = true) (h0 : p.f2 ≠ 0) :
    newP ps = newP (ps.drop (j + 1)) ∧ (∀ q ∈ ps.take (j + 1), q.f2 ≠ 0) ∧ ps.take (j + 1) = ps.take j ++ [p] := by
  have hl : ps.take (j + 1) = ps.take j ++ [p] := by
    have hlt := (List.getElem?_eq_some_iff.1 hp).1
    rw [List.take_succ_eq_append_getElem hlt, (List.getElem?_eq_some_iff.1 hp).2]
  refine ⟨by rw [h1, newP_step hp, if_neg hb], fun q hq => ?_, hl⟩
  rw [hl] at hq
  rcases List.mem_append.1 hq with hq | hq
  · exact h2 q hq
  · simp at hq
    rw [hq]; exact h0
/-- What the program's New leaves. -/
def NewPost (w : World) (fs : List S73) (room : Int) (ps : List S76) (e : Ending) (w' : World) : Prop :=
  Below w.heap.size w w' ∧ ((newE fs room ps ≠ 0 ∧ e = .returned (.tuple #[.pointer none, .int .i64 (newE fs room ps)])) ∨
    (newE fs room ps = 0 ∧ ∃ sb, e = .returned (.tuple #[.pointer (some ⟨sb, 0, none⟩), .int .i64 0]) ∧ ShelfAt w' (fun k => w.heap.size ≤ k) sb (newS fs room ps)))
theorem drawn_drewN (w : World) (q : Nat) : Below w.heap.size w (w.drewN q) := Drawn0.below ⟨q, rfl⟩
set_option maxHeartbeats 8000000 in
theorem new.calls (Af Ap : Option Addr) (cf cp : Nat) (fs : List S73) (ps : List S76) (room : Int) (w : World) (hf : Kd.C k73 w Af fs.length fs) (hp : Kd.C k76 w Ap ps.length ps) (hn : fs.length ≤ 67108864) (hm : ∀ f ∈ fs, f.f1.length ≤ 140737488355328) (hz : ∀ f ∈ fs, f.f0.size ≤ maxLen) (hq : ps.length ≤ 5864062014805)
    (hwf : ∀ p ∈ ps, (Lit.int .i64 p.f0).wf = true ∧ (Lit.int .i64 p.f1).wf = true ∧ (Lit.int .i64 p.f2).wf = true) :
    Calls Try.prog 17 #[.slice Af fs.length cf, .int .i64 room, .slice Ap ps.length cp] w (NewPost w fs room ps) := by
  have HF := Lib.hid hf; clear hf
  have HP := Lib.hid hp; clear hp
  have HM := Lib.hid hm; clear hm
  have HZ := Lib.hid hz; clear hz
  have HWF := Lib.hid hwf; clear hwf
  by_cases hr : room < 0 ∨ 16777216 < room
  · have he := newE_room (fs := fs) (ps := ps) hr
    have HE := Lib.hid he; clear he
    go_enter Try.func17, Try.ntmps17
    rcases Classical.em (room < 0) with h0 | h0
    · go_wp2
      go_ret2
      exact ⟨Below.refl _ _, .inl ⟨by rw [HE.out]; decide, by rw [HE.out]; rfl⟩⟩
    · have h1 : 16777216 < room := by omega
      go_wp2
      go_ret2
      exact ⟨Below.refl _ _, .inl ⟨by rw [HE.out]; decide, by rw [HE.out]; rfl⟩⟩
  · have hr0 : ¬ room < 0 := fun h => hr (.inl h)
    have hr1 : ¬ 16777216 < room := fun h => hr (.inr h)
    have HRM : Hid (¬ (room < 0 ∨ 16777216 < room)) := hr
    clear hr
    have hmm := @run_makeMap Try.prog
    go_enter Try.func17, Try.ntmps17
    go_wp2
    have HN0 : Hid (NewAt ((((w.alloc (.map #[] 0)).alloc (.map #[] 0)).alloc (.map #[] 0)).alloc (.cells #[.map (some w.heap.size), .int .i64 room, .int .i64 0, .map (some (w.heap.size + 1)), .map (some (w.heap.size + 2)), .slice none 0 0] 84)) (fun k => w.heap.size ≤ k) (w.heap.size + 3) w.heap.size (w.heap.size + 1) (w.heap.size + 2) room [] [] ∧ Below w.heap.size w ((((w.alloc (.map #[] 0)).alloc (.map #[] 0)).alloc (.map #[] 0)).alloc (.cells #[.map (some w.heap.size), .int .i64 room, .int .i64 0, .map (some (w.heap.size + 1)), .map (some (w.heap.size + 2)), .slice none 0 0] 84))) :=
      ⟨NewAt.start w room, (((((Below.refl _ _).alloc (Nat.le_refl _) _).alloc (by simp) _).alloc (by simp; omega) _).alloc (by simp; omega) _)⟩
    generalize ((((w.alloc (.map #[] 0)).alloc (.map #[] 0)).alloc (.map #[] 0)).alloc (.cells #[.map (some w.heap.size), .int .i64 room, .int .i64 0, .map (some (w.heap.size + 1)), .map (some (w.heap.size + 2)), .slice none 0 0] 84)) = w0 at *
    obtain ⟨N, hN⟩ : ∃ N, w.heap.size = N := ⟨_, rfl⟩
    have HN := Lib.hid hN
    rw [hN] at HN0 ⊢
    clear hN hmm
    generalize N + 3 = sb at *
    generalize N + 1 = pm at *
    generalize N + 2 = am at *
    go_loopg [31] fs.length (fun q v wr => ∃ (i : Nat) (acc : List S73), q + i = fs.length ∧ v = .int .i64 (i : Nat) ∧ Hid (Acc room fs acc i ∧ NewAt wr (fun k => N ≤ k) sb N pm am room acc [] ∧ Below N w wr))
    case atStart => exact ⟨0, [], by simp, rfl, ⟨Rises.nil, by simp, rfl, by omega, by simp [szL]; omega, by simp⟩, HN0.out⟩
    case round =>
      clear HN0
      obtain ⟨i, acc, hi, rfl, HI⟩ := hrel
      by_cases hlt : i < fs.length
      · obtain ⟨f, hf⟩ : ∃ f, fs[i]? = some f := ⟨_, List.getElem?_eq_getElem hlt⟩
        have hfl := HM.out f (List.mem_of_getElem? hf)
        have hfz := HZ.out f (List.mem_of_getElem? hf)
        obtain ⟨ad, A1, c1, eA, e0, e1, hc1l, hc1⟩ := fs_at (Kd.C_below HF.out (HN.out ▸ HI.out.2.2)) hf
        subst eA
        have HBK : Hid (∀ W, Below wr.heap.size wr W → Below w.heap.size w W) := fun W hW => by
          have h1 : Below w.heap.size w wr := HN.out ▸ HI.out.2.2
          exact h1.trans (hW.mono h1.size)
        have HC1 := Lib.hid hc1; clear hc1
        have HFI := Lib.hid hf; clear hf
        have HFL := Lib.hid hfl; clear hfl
        have HFZ := Lib.hid hfz; clear hfz
        have HIL := Lib.hid hlt
        have hi0 : (0 : Int) ≤ (i : Int) := Int.natCast_nonneg _
        have hi1 : (i : Int) < (fs.length : Int) := Int.ofNat_lt.2 hlt
        have HA : ∀ wa : World, wa = wr.alloc (.cells #[.string f.f0, .slice A1 f.f1.length c1] 73) → Hid (Blk wa wr.heap.size 73 [.string f.f0, .slice A1 f.f1.length c1] ∧ NewAt wa (fun k => N ≤ k) sb N pm am room acc [] ∧ Below wr.heap.size wr wa) := by
          rintro wa rfl
          have hb : Below wr.heap.size wr (wr.alloc (.cells #[.string f.f0, .slice A1 f.f1.length c1] 73)) := (Below.refl _ _).alloc (Nat.le_refl _) _
          exact ⟨Blk.alloc wr _ _, HI.out.2.1.keep (Keeps.below hb), hb⟩
        go_upto_region 7 with (fail)
        generalize hwa : wr.alloc (.cells #[.string f.f0, .slice A1 f.f1.length c1] 73) = wa
        have HW0 := HA wa hwa.symm
        have HLB0 : Hid (N ≤ wr.heap.size) := HN.out ▸ HI.out.2.2.size
        clear HA hwa e0 e1
        obtain ⟨lb, hlb⟩ : ∃ lb, wr.heap.size = lb := ⟨_, rfl⟩
        rw [hlb]
        have HW : Hid (Blk wa lb 73 [.string f.f0, .slice A1 f.f1.length c1] ∧ NewAt wa (fun k => N ≤ k) sb N pm am room acc [] ∧ Below wr.heap.size wr wa) := ⟨hlb ▸ HW0.out.1, HW0.out.2⟩
        have HLB : Hid (N ≤ lb) := hlb ▸ HLB0.out
        have HLW := Lib.hid hlb
        clear hlb HW0 HLB0
        have c0 : wa.cell? ⟨lb, 0, none⟩ = some (.string f.f0) := HW.out.1.cell 0
        have d0 : wa.cell? ⟨sb, 0, none⟩ = some (.map (some N)) := HW.out.2.1.blk.cell 0
        obtain ⟨ov, hlk, _, _⟩ := HW.out.2.1.files.look HFZ.out
        have hlk1 := fun q => (hlk (wa.drewN q) (Keeps.below (drawn_drewN wa q))).1
        clear hlk
        obtain ⟨bh, hbh⟩ : ∃ bh, hasN acc f.f0 = bh := ⟨_, rfl⟩
        have HBH := Lib.hid hbh
        rw [hbh] at hlk1
        clear hbh
        go_quiet (fail)
        clear hlk1 c0 d0
        have HW2 : Hid (Blk (wa.drewN nq) lb 73 [.string f.f0, .slice A1 f.f1.length c1] ∧ NewAt (wa.drewN nq) (fun k => N ≤ k) sb N pm am room acc [] ∧ Below wr.heap.size wr (wa.drewN nq)) :=
          ⟨HW.out.1.below (drawn_drewN wa nq) HW.out.1.lt, HW.out.2.1.keep (Keeps.below (drawn_drewN wa nq)), HW.out.2.2.trans ((drawn_drewN wa nq).mono HW.out.2.2.size)⟩
        clear HW
        generalize wa.drewN nq = w2 at *
        cases bh
        · have c0 : w2.cell? ⟨lb, 0, none⟩ = some (.string f.f0) := HW2.out.1.cell 0
          obtain ⟨bk, hbk⟩ : ∃ bk, nmOK f.f0 = bk := ⟨_, rfl⟩
          have HBKN := Lib.hid hbk; clear hbk
          go_wp2_with (first
            | (go_at_call 36; refine (named.calls f.f0 w2).mono ?_; rintro e w3 ⟨rfl, hb3⟩; rw [HBKN.out]
               have HW3 : Hid (Blk w3 lb 73 [.string f.f0, .slice A1 f.f1.length c1] ∧ NewAt w3 (fun k => N ≤ k) sb N pm am room acc [] ∧ Below wr.heap.size wr w3) :=
                 ⟨HW2.out.1.below hb3 HW2.out.1.lt, HW2.out.2.1.keep (Keeps.below hb3), HW2.out.2.2.trans (hb3.mono HW2.out.2.2.size)⟩
               clear hb3 c0 HW2
               dsimp only; cases bk)
            | fail)
          · go_ret2
            have he := newE_files (ps := ps) HRM.out (HI.out.1.bad1 HFI.out (by rw [HBH.out, HBKN.out]; rfl)) (by decide)
            exact ⟨HBK.out _ HW3.out.2.2, .inl ⟨by rw [he]; decide, by rw [he]; rfl⟩⟩
          · have c1' : w3.cell? ⟨lb, 1, none⟩ = some (.slice A1 f.f1.length c1) := HW3.out.1.cell 1
            have d0 : w3.cell? ⟨sb, 0, none⟩ = some (.map (some N)) := HW3.out.2.1.blk.cell 0
            have d1 : w3.cell? ⟨sb, 1, none⟩ = some (.int .i64 room) := HW3.out.2.1.blk.cell 1
            have d2 : w3.cell? ⟨sb, 2, none⟩ = some (.int .i64 (szL acc : Nat)) := HW3.out.2.1.blk.cell 2
            have hlen : ∀ (ty : TypeId) (q : Nat), (Builtin.len_ #[80] ty #[.map (some N)]).run Try.prog (w3.drewN q) = .ok (.int .i64 (i : Nat)) (w3.drewN q) := fun ty q => by
              have := HW3.out.2.1.files.len ty (w3.drewN q) (Keeps.below (drawn_drewN w3 q))
              rwa [HI.out.1.len] at this
            obtain ⟨t, ht⟩ : ∃ t, szL acc = t := ⟨_, rfl⟩
            have HT := Lib.hid ht
            rw [ht] at d2
            have htb : (t : Int) ≤ room := ht ▸ HI.out.1.fits
            clear ht
            have hw : IntKind.i64.wrap (room - (t : Int)) = room - (t : Int) := IntWalk.i64_in _ (by omega)
            by_cases h64 : i = 64
            · have hb64 : ((i : Int) == 64) = true := by rw [h64]; rfl
              have H64 := Lib.hid h64; clear h64
              go_quiet (fail)
              go_wp2
              go_ret2
              have he := newE_files (ps := ps) HRM.out (HI.out.1.bad2 HFI.out HBH.out HBKN.out (.inl H64.out)) (by decide)
              exact ⟨HBK.out _ (HW3.out.2.2.trans ((drawn_drewN w3 _).mono HW3.out.2.2.size)), .inl ⟨by rw [he]; decide, by rw [he]; rfl⟩⟩
            · have hb64 : ((i : Int) == 64) = false := by simpa using fun h => h64 (by omega)
              have H64 := Lib.hid h64; clear h64
              go_quiet (fail)
              clear c1' d0 d1 d2 hlen hw hb64
              have HW4 : Hid (Blk (w3.drewN nq) lb 73 [.string f.f0, .slice A1 f.f1.length c1] ∧ NewAt (w3.drewN nq) (fun k => N ≤ k) sb N pm am room acc [] ∧ Below wr.heap.size wr (w3.drewN nq)) :=
                ⟨HW3.out.1.below (drawn_drewN w3 nq) HW3.out.1.lt, HW3.out.2.1.keep (Keeps.below (drawn_drewN w3 nq)), HW3.out.2.2.trans ((drawn_drewN w3 nq).mono HW3.out.2.2.size)⟩
              clear HW3
              generalize w3.drewN nq = w4 at *
              go_wp2
              · rename_i hfull
                go_ret2
                have he := newE_files (ps := ps) HRM.out (HI.out.1.bad2 HFI.out HBH.out HBKN.out (.inr (by rw [HT.out]; omega))) (by decide)
                exact ⟨HBK.out _ HW4.out.2.2, .inl ⟨by rw [he]; decide, by rw [he]; rfl⟩⟩
              have hfit' : ¬ room < (szL acc : Int) + f.f1.length := by rw [HT.out]; omega
              have HFT := Lib.hid hfit'; clear hfit' htb
              have c0 : w4.cell? ⟨lb, 0, none⟩ = some (.string f.f0) := HW4.out.1.cell 0
              have c1' : w4.cell? ⟨lb, 1, none⟩ = some (.slice A1 f.f1.length c1) := HW4.out.1.cell 1
              have d0 : w4.cell? ⟨sb, 0, none⟩ = some (.map (some N)) := HW4.out.2.1.blk.cell 0
              have HAC : Hid (acc.length < maxLen) := by have := HI.out.1.len; have := HI.out.1.few; simp only [maxLen]; show _ < _; omega
              go_region_held3 (fun w' => w'.cell? ⟨lb, 0, none⟩ = some (.string f.f0) ∧ w'.cell? ⟨lb, 1, none⟩ = some (.slice A1 f.f1.length c1) ∧ w'.cell? ⟨sb, 0, none⟩ = some (.map (some N)))
                (first
                  | with_reducible exact ⟨q0, q1, q2⟩
                  | with_reducible exact ⟨p0, p1, p2⟩
                  | go_keep)
                (first
                  | (go_at_call 37; refine (clone.calls A1 c1 f.f1 w4.drew (Kd.C_below HC1.out (HW4.out.2.2.trans ((Below.refl _ w4).drew.mono HW4.out.2.2.size))) HFL.out).mono ?_; rintro e w5 ⟨v5, rfl, hdat, hbl⟩
                     have HB5 : Hid (Below w4.heap.size w4 w5) := (Below.refl _ w4).drew.trans hbl
                     have p0 := Below.cellS HB5.out c0
                     have p1 := Below.cellS HB5.out c1'
                     have p2 := Below.cellS HB5.out d0
                     have HNA5 : Hid (NewAt w5 (fun k => N ≤ k) sb N pm am room acc []) := HW4.out.2.1.keep (Keeps.below HB5.out)
                     obtain ⟨Av, cw, rfl, _, _⟩ := hdat.slice
                     obtain ⟨w6, hrun6, hfm6, htu6⟩ := HNA5.out.files.store HI.out.1.rises HAC.out HFZ.out (hdat.mono fun k hk => Nat.le_trans (Nat.le_trans (HN.out ▸ HI.out.2.2.size) HW4.out.2.2.size) hk)
                     have HLB5 : Hid (Blk w5 lb 73 [.string f.f0, .slice A1 f.f1.length c1]) := HW4.out.1.below HB5.out HW4.out.1.lt
                     have hne1 : ¬ lb = N := fun e => HNA5.out.files.ne HLB5.out e.symm
                     have hne2 : ¬ sb = N := fun e => HNA5.out.files.ne HNA5.out.blk e.symm
                     have q0 := but_cell (mapTurned_but htu6) p0 hne1
                     have q1 := but_cell (mapTurned_but htu6) p1 hne1
                     have q2 := but_cell (mapTurned_but htu6) p2 hne2
                     have HFM6 := Lib.hid hfm6; clear hfm6
                     have HTU6 := Lib.hid htu6; clear htu6 hdat hbl hne1 hne2))
              rename _ ∧ _ ∧ _ => hHeld
              clear hHeld c0 c1' d0 p0 p1 p2 q0 hrun6
              have HS6 : Hid (Blk w6 sb 84 [.map (some N), .int .i64 room, .int .i64 (szL acc : Nat), .map (some pm), .map (some am), .slice none 0 0]) := HNA5.out.blk.grown HTU6.out.grown (fun e => HNA5.out.files.ne HNA5.out.blk (by injection e with e; exact e.symm))
              have r2 : w6.cell? ⟨sb, 2, none⟩ = some (.int .i64 (t : Nat)) := HT.out ▸ HS6.out.cell 2
              have f2 : w6.frozen? ⟨sb, 2, none⟩ = false := HS6.out.frozen 2
              have hw2 : IntKind.i64.wrap ((t : Int) + (f.f1.length : Int)) = (t : Int) + (f.f1.length : Int) := IntWalk.i64_in _ (by have := HFT.out; have := HT.out; omega)
              go_wp2
              go_region
              have hN7 : ∀ w7 : World, w7 = (w6.setCell ⟨sb, 2, none⟩ (.int .i64 ((t : Int) + (f.f1.length : Int)))).drew → Hid (Acc room fs (putL f.f0 f.f1 acc) (i + 1) ∧ NewAt w7 (fun k => N ≤ k) sb N pm am room (putL f.f0 f.f1 acc) [] ∧ Below N w w7) := by
                rintro w7 rfl
                obtain ⟨k1, k2⟩ := HNA5.out.file HI.out.1.rises HBH.out HFM6.out HTU6.out (w7 := w6.setCell ⟨sb, 2, none⟩ (.int .i64 ((t : Int) + (f.f1.length : Int)))) (by rw [HT.out])
                have hle : N ≤ wr.heap.size := HN.out ▸ HI.out.2.2.size
                have b5 : Below N w w5 := HI.out.2.2.trans ((HW4.out.2.2.trans (HB5.out.mono HW4.out.2.2.size)).mono hle)
                have b7 : Below N w5 (w6.setCell ⟨sb, 2, none⟩ (.int .i64 ((t : Int) + (f.f1.length : Int)))) := k2.below (fun k hk => by rcases hk with rfl | rfl; exact Nat.le_refl _; exact HNA5.out.oks.1) (Nat.le_trans (Nat.le_trans hle HW4.out.2.2.size) HB5.out.size)
                exact ⟨HI.out.1.next HFI.out HBH.out HBKN.out H64.out (by have := HFT.out; omega), k1.keep (Keeps.below (Below.refl _ _).drew), (b5.trans b7).drew⟩
              have hiw : wrap64 ((i : Int) + 1) = ((i + 1 : Nat) : Int) := by rw [IntWalk.wrap64_in _ (by omega)]; rfl
              clear q1 q2 r2 f2 hw2 hi0 hi1
              generalize hw7 : (w6.setCell ⟨sb, 2, none⟩ (.int .i64 ((t : Int) + (f.f1.length : Int)))).drew = w7
              have HF7 := hN7 w7 hw7.symm
              clear hN7 hw7
              go_wp2
              go_roundg (fs.length - (i + 1))
              case measure => clear hiw; omega
              case rel => exact ⟨i + 1, putL f.f0 f.f1 acc, by clear hiw; omega, by first | rfl | rw [hiw], HF7.out⟩
        · go_wp2
          go_ret2
          have he := newE_files (ps := ps) HRM.out (HI.out.1.bad1 HFI.out (by rw [HBH.out]; rfl)) (by decide)
          exact ⟨HBK.out _ HW2.out.2.2, .inl ⟨by rw [he]; decide, by rw [he]; rfl⟩⟩
      · obtain rfl : i = fs.length := by omega
        have hdone := HI.out.1.done
        have HD := Lib.hid hdone; clear hdone
        have HI2 : Hid (NewAt wr (fun k => N ≤ k) sb N pm am room acc (ps.take 0) ∧ Below N w wr) := Lib.hid (by simpa using HI.out.2)
        clear HI hlt hi
        go_wp2
        go_loopg [97] ps.length (fun q v wr => ∃ j : Nat, q + j = ps.length ∧ v = .int .i64 (j : Nat) ∧ Hid (newP ps = newP (ps.drop j) ∧ ∀ p ∈ ps.take j, p.f2 ≠ 0) ∧ Hid (NewAt wr (fun k => N ≤ k) sb N pm am room acc (ps.take j) ∧ Below N w wr))
        case atStart => exact ⟨0, by simp, rfl, Lib.hid (by simp), HI2.out⟩
        case round =>
          clear HI2
          rename World => wr2
          obtain ⟨j, hj, rfl, HNP, HI⟩ := hrel
          by_cases hlt : j < ps.length
          · obtain ⟨p, hp⟩ : ∃ p, ps[j]? = some p := ⟨_, List.getElem?_eq_getElem hlt⟩
            obtain ⟨ad, eA, e0, e1, e2⟩ := ps_at (Kd.C_below HP.out (HN.out ▸ HI.out.2)) hp
            subst eA
            have hwfp := HWF.out p (List.mem_of_getElem? hp)
            have HWP := Lib.hid hwfp; clear hwfp
            have HPI := Lib.hid hp; clear hp
            have hj0 : (0 : Int) ≤ (j : Int) := Int.natCast_nonneg _
            have hj1 : (j : Int) < (ps.length : Int) := Int.ofNat_lt.2 hlt
            have HB1 : ∀ wa : World, wa = wr2.alloc (.cells #[.int .i64 p.f0, .int .i64 p.f1, .int .i64 p.f2] 76) → Hid (Blk wa wr2.heap.size 76 [.int .i64 p.f0, .int .i64 p.f1, .int .i64 p.f2] ∧ NewAt wa (fun k => N ≤ k) sb N pm am room acc (ps.take j) ∧ Below N w wa ∧ N ≤ wr2.heap.size) := by
              rintro wa rfl
              have hb : Below wr2.heap.size wr2 (wr2.alloc (.cells #[.int .i64 p.f0, .int .i64 p.f1, .int .i64 p.f2] 76)) := (Below.refl _ _).alloc (Nat.le_refl _) _
              have hle : N ≤ wr2.heap.size := HN.out ▸ HI.out.2.size
              exact ⟨Blk.alloc wr2 _ _, HI.out.1.keep (Keeps.below hb), HI.out.2.trans (hb.mono hle), hle⟩
            obtain ⟨b11, b12, b13, hb1, hb2, hb3⟩ : ∃ b11 b12 b13 : Bool, ((p.f2 == 11) = b11 ∧ decide (p.f2 = 11) = b11) ∧ ((p.f2 == 12) = b12 ∧ decide (p.f2 = 12) = b12) ∧ ((p.f2 == 13) = b13 ∧ decide (p.f2 = 13) = b13) := ⟨_, _, _, ⟨rfl, rfl⟩, ⟨rfl, rfl⟩, rfl, rfl⟩
            have HBS : Hid ((p.f2 = 11 ↔ b11 = true) ∧ (p.f2 = 12 ↔ b12 = true) ∧ (p.f2 = 13 ↔ b13 = true)) := ⟨bools hb1.2, bools hb2.2, bools hb3.2⟩
            obtain ⟨h11, h11'⟩ := hb1
            obtain ⟨h12, h12'⟩ := hb2
            obtain ⟨h13, h13'⟩ := hb3
            by_cases hbad : badT p = true
            · have hbad' := bads hbad
              rw [HBS.out.1, HBS.out.2.1, HBS.out.2.2] at hbad'
              have HBD := Lib.hid hbad'; clear hbad'
              have HBB := Lib.hid hbad; clear hbad
              have hret : NewPost w fs room ps (.returned (.tuple #[.pointer none, .int .i64 6])) (wr2.alloc (.cells #[.int .i64 p.f0, .int .i64 p.f1, .int .i64 p.f2] 76)) := by
                have he := newE_plan (ps := ps) HRM.out (show (newF room [] fs).1 = 0 by rw [HD.out])
                rw [HNP.out.1, newP_step HPI.out, if_pos HBB.out] at he
                exact ⟨HN.out ▸ (HB1 _ rfl).out.2.2.1, .inl ⟨by rw [he]; decide, by rw [he]⟩⟩
              have HRET := Lib.hid hret; clear hret HB1
              have HBC := bcase4 b11 b12 b13
              clear HBS
              rcases HBC with rfl | ⟨rfl, rfl⟩ | ⟨rfl, rfl, rfl⟩ | ⟨rfl, rfl, rfl⟩
              all_goals
                go_wp2
                all_goals first
                  | (go_ret2; exact HRET.out)
                  | (exfalso; have := HBD.out; simp only [Bool.false_eq_true, or_false, or_true, true_or, not_true_eq_false] at this; omega)
            · have hok := goods hbad
              have HBAD := Lib.hid hbad; clear hbad
              obtain ⟨k0, k1, k2, k3⟩ := hok
              have HP2 : Hid (p.f2 ≠ 0) := fun e => by rw [e] at k3; revert k3; decide
              rw [HBS.out.1, HBS.out.2.1, HBS.out.2.2] at k3
              have HBC := bcase3 k3
              clear k3 HBS
              obtain ⟨pf, hpf⟩ : ∃ pf, planF (ps.take j) p.f0 p.f1 = pf := ⟨_, rfl⟩
              have HPF := Lib.hid hpf
              have hlk : ∀ W, Keeps (fun k => k = pm) wr2 W → (Instr.lookup 81 (.map (some pm)) (.agg #[.int .i64 p.f0, .int .i64 p.f1]) false).run Try.prog W = .ok (.int .i64 pf) W := hpf ▸ HI.out.1.troubles.look HWP.out.1 HWP.out.2.1
              have HLK := Lib.hid hlk; clear hlk hpf
              have HB2 : ∀ wb : World, wb = (wr2.alloc (.cells #[.int .i64 p.f0, .int .i64 p.f1, .int .i64 p.f2] 76)).alloc (.cells #[.int .i64 p.f0, .int .i64 p.f1] 92) →
                  Hid (Blk wb wr2.heap.size 76 [.int .i64 p.f0, .int .i64 p.f1, .int .i64 p.f2] ∧ Blk wb (wr2.heap.size + 1) 92 [.int .i64 p.f0, .int .i64 p.f1] ∧ NewAt wb (fun k => N ≤ k) sb N pm am room acc (ps.take j) ∧ Below wr2.heap.size wr2 wb) := by
                rintro wb rfl
                have h1 := HB1 _ rfl
                have hs : (wr2.alloc (.cells #[.int .i64 p.f0, .int .i64 p.f1, .int .i64 p.f2] 76)).heap.size = wr2.heap.size + 1 := by simp
                have hb := Blk.alloc (wr2.alloc (.cells #[.int .i64 p.f0, .int .i64 p.f1, .int .i64 p.f2] 76)) #[.int .i64 p.f0, .int .i64 p.f1] 92
                rw [hs] at hb
                have hbel := (Below.refl _ (wr2.alloc (.cells #[.int .i64 p.f0, .int .i64 p.f1, .int .i64 p.f2] 76))).alloc (Nat.le_refl _) (.cells #[.int .i64 p.f0, .int .i64 p.f1] 92)
                exact ⟨h1.out.1.below hbel h1.out.1.lt, hb, h1.out.2.1.keep (Keeps.below hbel), ((Below.refl _ wr2).alloc (Nat.le_refl _) _).alloc (by simp) _⟩
              clear HB1
              rcases HBC with rfl | ⟨rfl, rfl⟩ | ⟨rfl, rfl, rfl⟩
              all_goals
                go_wp2
                generalize hwb : (wr2.alloc (.cells #[.int .i64 p.f0, .int .i64 p.f1, .int .i64 p.f2] 76)).alloc (.cells #[.int .i64 p.f0, .int .i64 p.f1] 92) = wb
                have HB := HB2 wb hwb.symm
                clear HB2 hwb e0 e1 e2 h11 h11' h12 h12' h13 h13'
                have d3 : wb.cell? ⟨sb, 3, none⟩ = some (.map (some pm)) := HB.out.2.2.1.blk.cell 3
                have c0 : wb.cell? ⟨wr2.heap.size + 1, 0, none⟩ = some (.int .i64 p.f0) := HB.out.2.1.cell 0
                have c1 : wb.cell? ⟨wr2.heap.size + 1, 1, none⟩ = some (.int .i64 p.f1) := HB.out.2.1.cell 1
                have hlk1 := fun q => HLK.out (wb.drewN q) (Keeps.below (HB.out.2.2.2.trans ((drawn_drewN wb q).mono HB.out.2.2.2.size)))
                go_quiet (fail)
                clear hlk1 d3 c0 c1
                have HB3 : Hid (Blk (wb.drewN nq) wr2.heap.size 76 [.int .i64 p.f0, .int .i64 p.f1, .int .i64 p.f2] ∧ Blk (wb.drewN nq) (wr2.heap.size + 1) 92 [.int .i64 p.f0, .int .i64 p.f1] ∧ NewAt (wb.drewN nq) (fun k => N ≤ k) sb N pm am room acc (ps.take j) ∧ Below N w (wb.drewN nq)) := by
                  have hle : N ≤ wr2.heap.size := HN.out ▸ HI.out.2.size
                  have hd := drawn_drewN wb nq
                  exact ⟨HB.out.1.below hd HB.out.1.lt, HB.out.2.1.below hd HB.out.2.1.lt, HB.out.2.2.1.keep (Keeps.below hd), HI.out.2.trans ((HB.out.2.2.2.trans (hd.mono HB.out.2.2.2.size)).mono hle)⟩
                clear HB
                generalize wb.drewN nq = w2 at *
                have hiw : wrap64 ((j : Int) + 1) = ((j + 1 : Nat) : Int) := by rw [IntWalk.wrap64_in _ (by omega)]; rfl
                have HNX : Hid (newP ps = newP (ps.drop (j + 1)) ∧ (∀ q ∈ ps.take (j + 1), q.f2 ≠ 0) ∧ ps.take (j + 1) = ps.take j ++ [p]) := plan_more HNP.out.1 HNP.out.2 HPI.out HBAD.out HP2.out
                have HNJ : Hid (N ≤ w2.heap.size) := Nat.le_trans (HN.out ▸ Nat.le_refl _) HB3.out.2.2.2.size
                by_cases hz : pf = 0
                · have hz1 : (pf == 0) = true := by rw [hz]; rfl
                  have HZ0 : Hid (planF (ps.take j) p.f0 p.f1 = 0) := HPF.out.trans hz
                  clear hz
                  have d3 : w2.cell? ⟨sb, 3, none⟩ = some (.map (some pm)) := HB3.out.2.2.1.blk.cell 3
                  have c0 : w2.cell? ⟨wr2.heap.size + 1, 0, none⟩ = some (.int .i64 p.f0) := HB3.out.2.1.cell 0
                  have c1 : w2.cell? ⟨wr2.heap.size + 1, 1, none⟩ = some (.int .i64 p.f1) := HB3.out.2.1.cell 1
                  have e2 : w2.cell? ⟨wr2.heap.size, 2, none⟩ = some (.int .i64 p.f2) := HB3.out.1.cell 2
                  have HDR : Hid (NewAt w2.drew (fun k => N ≤ k) sb N pm am room acc (ps.take j)) := HB3.out.2.2.1.keep (Keeps.below (Below.refl _ w2).drew)
                  have hpl : (ps.take j).length < maxLen := by rw [List.length_take]; simp only [maxLen]; omega
                  obtain ⟨w6, hrun6, hpm6, htu6⟩ := HDR.out.troubles.store HNP.out.2 hpl HWP.out.1 HWP.out.2.1 HWP.out.2.2 HZ0.out
                  clear hpl
                  have HF6 : Hid (NewAt w6 (fun k => N ≤ k) sb N pm am room acc (ps.take (j + 1)) ∧ Below N w w6) := by
                    refine ⟨HNX.out.2.2 ▸ HDR.out.trouble hpm6 htu6, ?_⟩
                    have b1 : Below N w w2.drew := HB3.out.2.2.2.drew
                    exact b1.grown htu6.grown HNJ.out (fun k hk => by cases hk; exact HDR.out.oks.2.2.1)
                  clear hpm6 htu6
                  go_wp2
                  go_region
                  clear hrun6 d3 c0 c1 e2 hz1
                  go_wp2
                  go_roundg (ps.length - (j + 1))
                  case measure => clear hiw; omega
                  case rel => exact ⟨j + 1, by clear hiw; omega, by first | rfl | rw [hiw], ⟨HNX.out.1, HNX.out.2.1⟩, HF6.out⟩
                · have hz1 : (pf == 0) = false := by simpa using hz
                  have HZ0 : Hid (planF (ps.take j) p.f0 p.f1 ≠ 0) := fun e => hz (HPF.out.symm.trans e)
                  clear hz
                  have HF6 : Hid (NewAt w2 (fun k => N ≤ k) sb N pm am room acc (ps.take (j + 1)) ∧ Below N w w2) := by
                    refine ⟨HNX.out.2.2 ▸ ?_, HB3.out.2.2.2⟩
                    obtain ⟨n1, n2, n3, n4, n5, n6⟩ := HB3.out.2.2.1
                    exact ⟨n1, n2, n3.old HNP.out.2 HZ0.out, n4, n5, n6⟩
                  go_wp2
                  go_roundg (ps.length - (j + 1))
                  case measure => clear hiw; omega
                  case rel => exact ⟨j + 1, by clear hiw; omega, by first | rfl | rw [hiw], ⟨HNX.out.1, HNX.out.2.1⟩, HF6.out⟩
          · obtain rfl : j = ps.length := by omega
            have hNP := HNP.out.1
            rw [List.drop_length] at hNP
            have he := newE_plan (ps := ps) HRM.out (show (newF room [] fs).1 = 0 by rw [HD.out])
            rw [hNP] at he
            have HE : Hid (newE fs room ps = 0) := he
            clear hNP he
            go_wp2
            go_ret2
            have hs : newS fs room ps = ⟨acc, room, ps.take ps.length, []⟩ := by rw [newS, HD.out, List.take_length]
            refine ⟨HN.out ▸ HI.out.2, .inr ⟨HE.out, sb, rfl, ?_⟩⟩
            rw [hs, HN.out]
            exact HI.out.1.shelf
end Go.Proofs.Ytplknppmaepinaa.S
/- What the shelves tell: Left, Calls; the document's Files. -/
namespace Go.X
open Go Go.RowKit
theorem make0 {P : Program} (t : TypeId) (e : TypeId) (z : Value) (size bytes : Nat) (h1 : P.underlying t = some (.slice e)) (h2 : (P.info? e).map (fun i => (i.zero, i.size, i.bytes)) = some (some z, size, bytes)) (_hz : z.cells.size = size)
    (n : Nat) (b2 : bytes * n ≤ 281474976710656) (b3 : n ≤ maxLen) : ∃ Z : Array Value, Z.size = n * size ∧ ∀ W : World, (Instr.makeSlice t (.int .i64 0) (.int .i64 (n : Nat))).run P W = .ok (.slice (some ⟨W.heap.size, 0, none⟩) 0 n) (W.alloc (.cells Z e)) := by
  obtain ⟨i, hi, hz0, hs, hb⟩ := info_parts h2
  refine ⟨madeCells z.cells (n * size), size_madeCells _ _, fun W => ?_⟩
  have hb' : (i.bytes : Int) * (n : Int) ≤ 281474976710656 := by
    have h : ((i.bytes * n : Nat) : Int) ≤ 281474976710656 := by rw [hb]; omega
    rwa [Int.natCast_mul] at h
  have hr := run_make (P := P) W t e i z h1 hi hz0 .i64 .i64 0 n (by omega) (by omega) hb' (by simp only [maxLen] at b3; omega)
  simpa [hs] using hr
theorem own_made (w : World) (e : TypeId) (size n : Nat) (Z : Array Value) (hz : Z.size = n * size) (hn : n ≤ maxLen) : (w.alloc (.cells Z e)).ownsRow w.heap.size e size (.slice (some ⟨w.heap.size, 0, none⟩) 0 n) 0 [] :=
  ⟨by simp, .inr ⟨w.heap.size, n, Z, rfl, Nat.le_refl _, heap_alloc_new w _, Nat.zero_le _, hn, hz, by simp⟩⟩
end Go.X
namespace Go.Proofs.Ytplknppmaepinaa.S
open Go Go.RowKit Go.X Go.Maps Go.Proofs.YtplknppmaepinaaW.PrintWords Go.Proofs.Ytplknppmaepinaa.F
set_option maxRecDepth 100000

theorem left.calls {w : World} {ok : Nat → Prop} {sb : Nat} {s : Sh} (h : ShelfAt w ok sb s) (hg : Good s) :
    Calls Try.prog 13 #[.pointer (some ⟨sb, 0, none⟩)] w fun e w' => e = .returned (.int .i64 (s.room - szL s.L)) ∧ Drawn0 w w' := by
  obtain ⟨fm, pm, am, cv, h1, -⟩ := h.out
  have c1 : w.cell? ⟨sb, 1, none⟩ = some (.int .i64 s.room) := h1.cell 1
  have c2 : w.cell? ⟨sb, 2, none⟩ = some (.int .i64 (szL s.L : Nat)) := h1.cell 2
  have k1 := hg.fits
  have k2 := hg.room1
  obtain ⟨t, ht⟩ : ∃ t, szL s.L = t := ⟨_, rfl⟩
  rw [ht] at c2 k1 ⊢
  clear h1 ht
  have hw : IntKind.i64.wrap (s.room - (t : Int)) = s.room - (t : Int) := IntWalk.i64_in _ (by omega)
  go_enter Try.func13, Try.ntmps13
  go_wp2
  go_quiet (fail)
  go_wp2
  go_ret
  exact ⟨rfl, ⟨_, rfl⟩⟩

theorem info102 : (Try.prog.info? 102).map (fun i => (i.zero, i.size, i.bytes)) = some (some (.agg #[.int .i64 0, .string ⟨#[]⟩, .int .i64 0]), 3, 32) := by kernel_rfl
theorem u34 : Try.prog.underlying 34 = some (.slice 102) := Try.underlying34
set_option maxHeartbeats 4000000 in
/-- What was asked so far, as a row of its own. -/
theorem calls.calls {w : World} {ok : Nat → Prop} {sb : Nat} {s : Sh} (h : ShelfAt w ok sb s) (hl : s.all.length ≤ 1073741824) :
    Calls Try.prog 15 #[.pointer (some ⟨sb, 0, none⟩)] w fun e w' => ∃ v, e = .returned v ∧ w'.ownsRow w.heap.size 102 3 v s.all.length (callCells s.all) ∧ Below w.heap.size w w' := by
  obtain ⟨fm, pm, am, cv, h1, -, -, -, h5, -⟩ := h.out
  obtain ⟨Ac, cc, rfl⟩ := own_slice h5
  have c1 : w.cell? ⟨sb, 5, none⟩ = some (.slice Ac s.all.length cc) := h1.cell 5
  have HOW := Lib.hid h5; clear h5 h1 h
  have HN := Lib.hid hl
  go_enter Try.func15, Try.ntmps15
  go_wp2
  obtain ⟨Z, hZ, hmk⟩ := make0 (P := Try.prog) 34 102 _ 3 32 u34 info102 rfl s.all.length (by have := HN.out; omega) (by have := HN.out; simp only [maxLen]; omega)
  have HO1 : Hid (((w.alloc (.cells Z 102)).drew).ownsRow w.heap.size 102 3 (.slice (some ⟨w.heap.size, 0, none⟩) 0 s.all.length) 0 []) := own_made w 102 3 _ Z hZ (by have := HN.out; simp only [maxLen]; omega)
  have HG1 : Hid (Below w.heap.size w (w.alloc (.cells Z 102)).drew) := ((Below.refl _ w).alloc (Nat.le_refl _) _).drew
  have p0 : (w.alloc (.cells Z 102)).drew.cell? ⟨sb, 5, none⟩ = some (.slice Ac s.all.length cc) := Below.cellS HG1.out c1
  clear hZ hl
  go_region_law (first
      | (refine step_appendAny rfl (.tmp 8) (.tmp 12) 34 102 rfl w.heap.size _ 3 32 u34 info102 rfl (by decide) (.slice (some ⟨w.heap.size, 0, none⟩) 0 s.all.length) 0 [] rfl HO1.out Ac s.all.length cc (callCells s.all) rfl (callCells_length _)
           (own_news (ownsRow_keep (ok := fun _ => True) HOW.out (Keeps.below HG1.out) (fun _ _ => trivial))) (callCells_one _) (by have := HN.out; simp only [maxLen]; omega) (by have := HN.out; omega) (by have := HG1.out.size; exact this) ?_
         intro v' w2 ho2 ha2
         have HO2 := Lib.hid ho2; clear ho2
         have HA2 := Lib.hid ha2; clear ha2)
      | fail)
  all_goals
    go_wp2
    go_ret
    exact ⟨v', rfl, by simpa using HO2.out, HG1.out.grown HA2.out.grown HG1.out.size (by simp [Value.ownBlock])⟩

theorem files_next {wr wl w4 : World} {N : Nat} {v v4 : Value} {L : List S73} {f : S73} {u : Value} {cs : List Value} {i : Nat} (hi : L.length = i) (hok : ∀ g, v.ownBlock = some g → N ≤ g) (hfc : FileCells wr (fun k => N ≤ k) L cs) (how : wr.ownsRow 0 73 2 v i cs) (hb : Below wr.heap.size wr wl) (hle : N ≤ wr.heap.size)
    (hd : DataAt wl (fun k => N ≤ k) u f.f1) (ho : w4.ownsRow 0 73 2 v4 (i + 1) (cs ++ [.string f.f0, u])) (ha : Appended wl w4 73 2 v v4 i) : FilesAt w4 (fun k => N ≤ k) v4 (L ++ [f]) ∧ Below N wr w4 := by
  have n5 : No5 wl v.ownBlock := No5.row (ownsRow_keep (ok := fun _ => True) how (Keeps.below hb) (fun _ _ => trivial)) (by decide)
  refine ⟨⟨fun g hg => ?_, _, ((hfc.keep (Keeps.below hb)).grown ha.grown n5).append (.cons (hd.grown ha.grown n5) .nil), ?_⟩, (hb.mono hle).grown ha.grown (Nat.le_trans hle hb.size) fun k e => hok k e⟩
  · rcases ha.place with h | ⟨h, _⟩
    · rw [h] at hg; exact hok g hg
    · rw [h] at hg
      injection hg with hg
      have := hb.size
      omega
  · rw [List.length_append, hi]
    exact ho
theorem take_next {L : List S73} {i : Nat} {f : S73} (h : L[i]? = some f) : L.take (i + 1) = L.take i ++ [f] := by
  have hlt := (List.getElem?_eq_some_iff.1 h).1
  rw [List.take_succ_eq_append_getElem hlt, (List.getElem?_eq_some_iff.1 h).2]
theorem len_sz {L : List S73} {f : S73} (h : f ∈ L) : f.f1.length ≤ szL L := by
  induction L with
  | nil => cases h
  | cons g r ih =>
    unfold szL
    rcases List.mem_cons.1 h with rfl | h
    · omega
    · have := ih h; omega
set_option maxHeartbeats 4000000 in
/-- The document's files, told: a row of its own, and bytes of their own. -/
theorem refFiles.calls {w : World} {ok : Nat → Prop} {rb : Nat} {s : Sh} (h : RefAt w ok rb s) (hg : Good s) :
    Calls Try.prog 12 #[.pointer (some ⟨rb, 0, none⟩)] w fun e w' => ∃ v, e = .returned v ∧ FilesAt w' (fun k => w.heap.size ≤ k) v s.L ∧ Below w.heap.size w w' := by
  obtain ⟨lv, pv, cv, h1, h2, -⟩ := h.out
  obtain ⟨Al, cl, rfl, -, hC⟩ := h2.slice
  have c0 : w.cell? ⟨rb, 0, none⟩ = some (.slice Al s.L.length cl) := h1.cell 0
  have HC := Lib.hid hC; clear hC h1 h2 h
  have hn : s.L.length ≤ 64 := hg.few
  have HM : Hid (∀ f ∈ s.L, f.f1.length ≤ 16777216) := fun f hf => by have := len_sz hf; have := hg.fits; have := hg.room1; omega
  have HC0 := Lib.hid c0
  clear hg c0
  go_enter Try.func12, Try.ntmps12
  go_wp2
  go_loopg [3, 4] s.L.length (fun q u v wr => ∃ i : Nat, q + i = s.L.length ∧ v = .int .i64 (i : Nat) ∧ Hid (FilesAt wr (fun k => w.heap.size ≤ k) u (s.L.take i) ∧ Below w.heap.size w wr))
  case atStart => exact ⟨0, by simp, rfl, Lib.hid ⟨⟨by simp [Value.ownBlock], [], .nil, own_nil _ _ _ _⟩, Below.refl _ _⟩⟩
  case round =>
    obtain ⟨i, hi, rfl, HI⟩ := hrel
    have c0 : wr.cell? ⟨rb, 0, none⟩ = some (.slice Al s.L.length cl) := Below.cellS HI.out.2 HC0.out
    by_cases hlt : i < s.L.length
    · obtain ⟨f, hf⟩ : ∃ f, s.L[i]? = some f := ⟨_, List.getElem?_eq_getElem hlt⟩
      obtain ⟨ad, A1, c1, eA, e0, e1, _, hc1⟩ := fs_at (Kd.C_below HC.out HI.out.2) hf
      subst eA
      have HFL : Hid (f.f1.length ≤ 16777216) := HM.out f (List.mem_of_getElem? hf)
      have HF := Lib.hid hf; clear hf
      have HC1 := Lib.hid hc1; clear hc1
      have hi0 : (0 : Int) ≤ (i : Int) := Int.natCast_nonneg _
      have hi1 : (i : Int) < (s.L.length : Int) := Int.ofNat_lt.2 hlt
      obtain ⟨cs, HX⟩ : ∃ cs, Hid (FileCells wr (fun k => w.heap.size ≤ k) (s.L.take i) cs ∧ wr.ownsRow 0 73 2 u3 i cs ∧ (∀ g, u3.ownBlock = some g → w.heap.size ≤ g) ∧ (s.L.take i).length = i) := by
        obtain ⟨k1, cs, k2, k3⟩ := HI.out.1
        have hl : (s.L.take i).length = i := by rw [List.length_take]; omega
        rw [hl] at k3
        exact ⟨cs, k2, k3, k1, hl⟩
      have HI2 : Hid (Below w.heap.size w wr) := HI.out.2
      clear HI
      obtain ⟨Au, cu, rfl⟩ := own_slice HX.out.2.1
      have HIL : Hid (i < 64) := Lib.hid (by omega)
      go_wp2
      go_region_law (first
        | (go_simp; go_at_call 33; refine (copied.calls A1 c1 f.f1 _ (Kd.C_below HC1.out ((Below.refl _ _).drew)) (by have := HFL.out; omega)).mono ?_; rintro e w3 ⟨v3, rfl, hdat, hbl⟩
           obtain ⟨Av, cw, rfl, _, _⟩ := hdat.slice
           have HB3 : Hid (Below wr.heap.size wr w3) := (Below.refl _ wr).drew.trans hbl
           have HD3 : Hid (DataAt w3 (fun k => w.heap.size ≤ k) (.slice Av f.f1.length cw) f.f1) := hdat.mono fun k hk => Nat.le_trans HI2.out.size hk
           have p0 : w3.cell? ⟨rb, 0, none⟩ = some (.slice (some ad) s.L.length cl) := Below.cellS HB3.out c0
           have p1 : w3.cell? (ad.add (i * 2)) = some (.string f.f0) := Below.cellS HB3.out e0
           clear hdat hbl)
        | (refine step_appendAny rfl (.tmp 14) (.tmp 33) 22 73 rfl 0 _ 2 40 Try.underlying22 info73 rfl (by decide) (.slice Au i cu) i cs rfl (ownsRow_keep (ok := fun _ => True) HX.out.2.1 (Keeps.below (HB3.out.trans (((Below.refl _ w3).alloc (Nat.le_refl _) _).mono HB3.out.size))) (fun _ _ => trivial)) (some ⟨w3.heap.size, 0, none⟩) 1 1 [.string f.f0, .slice Av f.f1.length cw] rfl rfl
             (blk_news (rest := []) (Blk.alloc w3 #[.string f.f0, .slice Av f.f1.length cw] 73)) (by simp [Value.oneCell']) (by have := HIL.out; simp only [maxLen]; omega) (by have := HIL.out; omega) (Nat.zero_le _) ?_
           intro v4 w4 ho4 ha4
           obtain ⟨A4, c4, rfl⟩ := own_slice ho4
           have HO4 := Lib.hid ho4; clear ho4
           have HA4 := Lib.hid ha4; clear ha4)
        | fail)
      all_goals
        have HN : Hid (FilesAt w4 (fun k => w.heap.size ≤ k) (.slice A4 (i + 1) c4) (s.L.take (i + 1)) ∧ Below w.heap.size w w4) := by
          have hal : Below w3.heap.size w3 (w3.alloc (.cells #[.string f.f0, .slice Av f.f1.length cw] 73)) := (Below.refl _ w3).alloc (Nat.le_refl _) _
          have := files_next HX.out.2.2.2 HX.out.2.2.1 HX.out.1 HX.out.2.1 (HB3.out.trans (hal.mono HB3.out.size)) HI2.out.size (HD3.out.keep (Keeps.below hal)) HO4.out HA4.out
          rw [take_next HF.out]
          exact ⟨this.1, HI2.out.trans this.2⟩
        have hiw : wrap64 ((i : Int) + 1) = ((i + 1 : Nat) : Int) := by have := HIL.out; rw [IntWalk.wrap64_in _ (by omega)]; rfl
        clear HX HD3 HB3 HO4 HA4 p0 p1 c0 e0 e1 hi0 hi1
        go_wp2
        go_roundg (s.L.length - (i + 1))
        case measure => clear hiw; omega
        case rel => exact ⟨i + 1, by clear hiw; omega, by first | rfl | rw [hiw], HN.out⟩
    · obtain rfl : i = s.L.length := by omega
      have HI2 := HI.out
      rw [List.take_length] at HI2
      have HI3 := Lib.hid HI2; clear HI2 HI
      go_wp2
      go_ret
      exact ⟨u3, rfl, HI3.out.1, HI3.out.2⟩
end Go.Proofs.Ytplknppmaepinaa.S
/- slices.Sort at strings: the contract of the shelf, laid in plain words (by the kit's lay-plain). -/
namespace Go.Proofs
open Go.Shelf
def Try.lays190_ren : Go.Shelf.Ren := ⟨fun | 190 => 31 | 125 => 58 | 258 => 57 | 128 => 74 | 129 => 75 | 302 => 65 | 303 => 66 | 304 => 67 | 305 => 68 | 306 => 69 | 307 => 70 | 308 => 71 | 309 => 72 | 310 => 73 | 333 => 79 | 329 => 80 | 330 => 81 | 334 => 82 | 335 => 83 | 336 => 84 | 344 => 85 | n => n, fun | 31 => 79 | 9 => 9 | 3 => 3 | 46 => 114 | 0 => 0 | 51 => 128 | 53 => 130 | 4 => 4 | 183 => 121 | 182 => 120 | 131 => 54 | 5 => 5 | 218 => 136 | 222 => 140 | 228 => 153 | 229 => 154 | n => n, fun | n => n⟩
theorem Try.lays190 : Go.Proofs.Lays.n190 Try.prog Try.lays190_ren := {
  mixed := by kernel_rfl
  f125 := Try.func58.trans (congrArg some (by kernel_rfl))
  f128 := Try.func74.trans (congrArg some (by kernel_rfl))
  f129 := Try.func75.trans (congrArg some (by kernel_rfl))
  f190 := Try.func31.trans (congrArg some (by kernel_rfl))
  f258 := Try.func57.trans (congrArg some (by kernel_rfl))
  f302 := Try.func65.trans (congrArg some (by kernel_rfl))
  f303 := Try.func66.trans (congrArg some (by kernel_rfl))
  f304 := Try.func67.trans (congrArg some (by kernel_rfl))
  f305 := Try.func68.trans (congrArg some (by kernel_rfl))
  f306 := Try.func69.trans (congrArg some (by kernel_rfl))
  f307 := Try.func70.trans (congrArg some (by kernel_rfl))
  f308 := Try.func71.trans (congrArg some (by kernel_rfl))
  f309 := Try.func72.trans (congrArg some (by kernel_rfl))
  f310 := Try.func73.trans (congrArg some (by kernel_rfl))
  f329 := Try.func80.trans (congrArg some (by kernel_rfl))
  f330 := Try.func81.trans (congrArg some (by kernel_rfl))
  f333 := Try.func79.trans (congrArg some (by kernel_rfl))
  f334 := Try.func82.trans (congrArg some (by kernel_rfl))
  f335 := Try.func83.trans (congrArg some (by kernel_rfl))
  f336 := Try.func84.trans (congrArg some (by kernel_rfl))
  f344 := Try.func85.trans (congrArg some (by kernel_rfl))
  t0 := Try.underlying0
  a0 := Try.isAgg0
  z0 := Try.sizeOf0
  v0 := Try.zeroValue0
  t3 := Try.underlying3
  a3 := Try.isAgg3
  z3 := Try.sizeOf3
  v3 := Try.zeroValue3
  t4 := Try.underlying4
  a4 := Try.isAgg4
  z4 := Try.sizeOf4
  v4 := Try.zeroValue4
  t5 := Try.underlying5
  a5 := Try.isAgg5
  z5 := Try.sizeOf5
  v5 := Try.zeroValue5
  t9 := Try.underlying9
  a9 := Try.isAgg9
  z9 := Try.sizeOf9
  v9 := Try.zeroValue9
  t31 := Try.underlying79
  a31 := Try.isAgg79
  z31 := Try.sizeOf79
  v31 := Try.zeroValue79
  t46 := Try.underlying114
  a46 := Try.isAgg114
  z46 := Try.sizeOf114
  v46 := Try.zeroValue114
  t51 := Try.underlying128
  a51 := Try.isAgg128
  z51 := Try.sizeOf128
  v51 := Try.zeroValue128
  t53 := Try.underlying130
  a53 := Try.isAgg130
  z53 := Try.sizeOf130
  v53 := Try.zeroValue130
  t131 := Try.underlying54
  a131 := Try.isAgg54
  z131 := Try.sizeOf54
  v131 := Try.zeroValue54
  t182 := Try.underlying120
  a182 := Try.isAgg120
  z182 := Try.sizeOf120
  v182 := Try.zeroValue120
  t183 := Try.underlying121
  a183 := Try.isAgg121
  z183 := Try.sizeOf121
  v183 := Try.zeroValue121
  t218 := Try.underlying136
  a218 := Try.isAgg136
  z218 := Try.sizeOf136
  v218 := Try.zeroValue136
  t222 := Try.underlying140
  a222 := Try.isAgg140
  z222 := Try.sizeOf140
  v222 := Try.zeroValue140
  t228 := Try.underlying153
  a228 := Try.isAgg153
  z228 := Try.sizeOf153
  v228 := Try.zeroValue153
  t229 := Try.underlying154
  a229 := Try.isAgg154
  z229 := Try.sizeOf154
  v229 := Try.zeroValue154 }
open Go.Sort Go.RowKit in
theorem Try.slices_Sort_string (blk off cap : Nat) (ss : List (List UInt8)) (w : World) (hH : Holds encStr w blk off ss.toArray) (hblk : blk < w.heap.size) (hsz : ss.length < 4611686018427387904) :
    Calls Try.prog 31 #[.slice (some ⟨blk, off, none⟩) ss.length cap] w fun e w' =>
      e = .returned (.tuple #[]) ∧ ∃ n os, w' = grow (putRow encStr (Sort.ahead w n) blk off (ss.mergeSort fun x y => decide (x ≤ y)).toArray) os := Any.slices_Sort_string Try.lays190 blk off cap ss w hH hblk hsz
open Go.RowKit Go.Sort in
/-- .. and plain. (LAID: no walk: one application.) -/
theorem Try.slices_Sort_string_none (p : Option Addr) (cap : Nat) (w : World) :
    Calls Try.prog 31 #[.slice p 0 cap] w fun e w' => e = .returned (.tuple #[]) ∧ w' = w := Any.slices_Sort_string_none Try.lays190 p cap w
end Go.Proofs
