/- Texts joined and shortened (wip/tools/shrink.py): ShNew, ShAns, ShSort, ShFiles, ShEach, ShEach1, ShAsk, ShBegin. -/
import Derived.Test.YtplknppmaepinaaQe3
import Derived.Shelf.Sort.Plain
import Derived.Shelf.Slices.In.SortNone
import Derived.Test.YtplknppmaepinaaProg
import Derived.Maps.RangeWalk
import Derived.Sort.KeysCollected
import Derived.Sort.OwnSorted
import Derived.RangeFuncNested
import Derived.RangeFuncBound
import Derived.RangeFuncCalls
import Derived.RangeFuncLeaves
import Derived.OwnWalkIn
import Derived.TacticsInMore
import Derived.LoopNIn
import Derived.LoopIn
/- The program's New. -/
namespace Go.Proofs.Ytplknppmaepinaa.S
open Go Go.RowKit Go.X Go.Maps Go.Proofs.YtplknppmaepinaaW.PrintWords Go.Proofs.Ytplknppmaepinaa.F
set_option maxRecDepth 100000

theorem FMap.but {w w' : World} {ok S : Nat → Prop} {fm : Nat} {L : List S73} (h : FMap w ok fm L) (g : But S w w') (hf : ¬ S fm) (hr : ∀ b, S b → No5 w (some b)) : FMap w' ok fm L := by
  obtain ⟨D, h1, h2, h3, h4⟩ := h.out
  exact ⟨D, ownsMap_keep h1 (ok := fun k => k = fm) (fun k hk hlt => g.block k hlt (by cases hk; exact hf)) rfl, h2, h3, fun f hf' => by obtain ⟨v, h5, h6⟩ := h4 f hf'; exact ⟨v, h5, h6.but g hr⟩⟩
theorem FMap.lt {w : World} {ok : Nat → Prop} {fm : Nat} {L : List S73} (h : FMap w ok fm L) : fm < w.heap.size := by
  obtain ⟨D, h1, _⟩ := h.out
  exact h1.lt
theorem PMap.lt {w : World} {pm : Nat} {plan : List S76} (h : PMap w pm plan) : pm < w.heap.size := by
  obtain ⟨D, h1, _⟩ := h
  exact h1.lt
theorem AMap.lt {w : World} {am : Nat} {all : List S102} (h : AMap w am all) : am < w.heap.size := by
  obtain ⟨D, h1, _⟩ := h
  exact h1.lt
theorem FMap.ne {w : World} {ok : Nat → Prop} {fm : Nat} {L : List S73} (h : FMap w ok fm L) {b : Nat} {t : TypeId} {cs : List Value} (hb : Blk w b t cs) : fm ≠ b := by
  obtain ⟨D, h1, _⟩ := h.out
  exact ownsMap_ne_blk h1 hb
theorem PMap.ne {w : World} {pm : Nat} {plan : List S76} (h : PMap w pm plan) {b : Nat} {t : TypeId} {cs : List Value} (hb : Blk w b t cs) : pm ≠ b := by
  obtain ⟨D, h1, _⟩ := h
  exact ownsMap_ne_blk h1 hb
theorem AMap.ne {w : World} {am : Nat} {all : List S102} (h : AMap w am all) {b : Nat} {t : TypeId} {cs : List Value} (hb : Blk w b t cs) : am ≠ b := by
  obtain ⟨D, h1, _⟩ := h
  exact ownsMap_ne_blk h1 hb
theorem FMap.no5 {w : World} {ok : Nat → Prop} {fm : Nat} {L : List S73} (h : FMap w ok fm L) : No5 w (some fm) := by
  obtain ⟨D, h1, _⟩ := h.out
  exact No5.map h1
/-- The shelf's parts in memory (nothing was asked yet). -/
structure NewAt (w : World) (ok : Nat → Prop) (sb fm pm am : Nat) (room : Int) (acc : List S73) (plan : List S76) : Prop where
  blk : Blk w sb 84 [.map (some fm), .int .i64 room, .int .i64 (szL acc), .map (some pm), .map (some am), .slice none 0 0]
  files : FMap w ok fm acc
  troubles : PMap w pm plan
  turns : AMap w am []
  oks : ok sb ∧ ok fm ∧ ok pm ∧ ok am
  ne : fm ≠ pm ∧ fm ≠ am ∧ pm ≠ am
theorem NewAt.shelf {w : World} {ok : Nat → Prop} {sb fm pm am : Nat} {room : Int} {acc : List S73} {plan : List S76} (h : NewAt w ok sb fm pm am room acc plan) : ShelfAt w ok sb ⟨acc, room, plan, []⟩ :=
  ⟨fm, pm, am, _, h.blk, h.files, h.troubles, h.turns, own_nil _ _ _ _, ⟨h.oks.1, h.oks.2.1, h.oks.2.2.1, h.oks.2.2.2, by simp [Value.ownBlock]⟩, h.ne⟩
theorem NewAt.keep {w w' : World} {ok : Nat → Prop} {sb fm pm am : Nat} {room : Int} {acc : List S73} {plan : List S76} (h : NewAt w ok sb fm pm am room acc plan) (hk : Keeps ok w w') : NewAt w' ok sb fm pm am room acc plan :=
  ⟨Blk.keep h.blk hk h.oks.1, h.files.keep hk h.oks.2.1, h.troubles.keep (fun k e => by cases e; exact hk _ h.oks.2.2.1), h.turns.keep (fun k e => by cases e; exact hk _ h.oks.2.2.2), h.oks, h.ne⟩
theorem NewAt.start (w : World) (room : Int) :
    NewAt ((((w.alloc (.map #[] 0)).alloc (.map #[] 0)).alloc (.map #[] 0)).alloc (.cells #[.map (some w.heap.size), .int .i64 room, .int .i64 0, .map (some (w.heap.size + 1)), .map (some (w.heap.size + 2)), .slice none 0 0] 84)) (fun k => w.heap.size ≤ k) (w.heap.size + 3) w.heap.size (w.heap.size + 1) (w.heap.size + 2) room [] [] := by
  have s1 : (w.alloc (.map #[] 0)).heap.size = w.heap.size + 1 := by simp
  have s2 : ((w.alloc (.map #[] 0)).alloc (.map #[] 0)).heap.size = w.heap.size + 2 := by simp
  have s3 : (((w.alloc (.map #[] 0)).alloc (.map #[] 0)).alloc (.map #[] 0)).heap.size = w.heap.size + 3 := by simp
  refine ⟨?_, ⟨.map [], ?_, rfl, fun n => rfl, fun f hf => by cases hf⟩, ⟨.map [], ?_, Nat.le_refl _, fun c n _ _ => rfl⟩, ⟨.map [], ?_, Nat.le_refl _, fun c => rfl⟩, ⟨by omega, by omega, by omega, by omega⟩, by omega, by omega, by omega⟩
  · have := Blk.alloc (((w.alloc (.map #[] 0)).alloc (.map #[] 0)).alloc (.map #[] 0)) #[.map (some w.heap.size), .int .i64 room, .int .i64 0, .map (some (w.heap.size + 1)), .map (some (w.heap.size + 2)), .slice none 0 0] 84
    rw [s3] at this
    exact this
  · exact ((((World.ownsMap_made w Try.prog 9 RH).alloc _).alloc _).alloc _)
  · have := World.ownsMap_made (w.alloc (.map #[] 0)) Try.prog 92 (plainElem (H := Value) Try.prog 42)
    rw [s1] at this
    exact (this.alloc _).alloc _
  · have := World.ownsMap_made ((w.alloc (.map #[] 0)).alloc (.map #[] 0)) Try.prog 3 (plainElem (H := Value) Try.prog 3)
    rw [s2] at this
    exact this.alloc _
/-- A file more. -/
theorem NewAt.file {w5 w6 w7 : World} {ok : Nat → Prop} {sb fm pm am : Nat} {room : Int} {acc : List S73} {plan : List S76} {f : S73} (h : NewAt w5 ok sb fm pm am room acc plan) (hr : Rises acc) (hn : hasN acc f.f0 = false)
    (hf : FMap w6 ok fm (putL f.f0 f.f1 acc)) (ht : w5.mapTurned w6 fm) (e : w7 = w6.setCell ⟨sb, 2, none⟩ (.int .i64 ((szL acc : Int) + f.f1.length))) : NewAt w7 ok sb fm pm am room (putL f.f0 f.f1 acc) plan ∧ But (fun k => k = fm ∨ k = sb) w5 w7 := by
  subst e
  have g1 := ht.grown
  have hb6 : Blk w6 sb 84 _ := h.blk.grown g1 (fun e => h.files.ne h.blk (by injection e with e; exact e.symm))
  have g2 := grown_setCell w6 ⟨sb, 2, none⟩ (.int .i64 ((szL acc : Int) + f.f1.length))
  have n6 : No5 w6 (some sb) := No5.blk hb6 (by decide)
  have fb := hf.ne hb6
  have hp6 : PMap w6 pm plan := h.troubles.keep (fun k e hlt => by cases e; exact g1.block _ hlt (fun e => h.ne.1 (by injection e with e; exact e.symm)))
  have ha6 : AMap w6 am [] := h.turns.keep (fun k e hlt => by cases e; exact g1.block _ hlt (fun e => h.ne.2.1 (by injection e with e; exact e.symm)))
  refine ⟨⟨?_, hf.but (S := fun k => k = sb) (But.of_grown g2 fun k e => by cases e; rfl) fb (fun b hb => by cases hb; exact n6), hp6.keep (fun k e hlt => by cases e; exact g2.block _ hlt (fun e => hp6.ne hb6 (by injection e))), ha6.keep (fun k e hlt => by cases e; exact g2.block _ hlt (fun e => ha6.ne hb6 (by injection e))), h.oks, h.ne⟩, ?_⟩
  · have := hb6.setCell 2 (.int .i64 ((szL acc : Int) + f.f1.length))
    have hs : (szL (putL f.f0 f.f1 acc) : Int) = (szL acc : Int) + f.f1.length := by
      rw [szL_putL hr, szBut_none hn]; simp
    rw [hs]
    exact this
  · exact (But.of_grown g1 fun k e => by cases e; exact .inl rfl).trans2 (But.of_grown g2 fun k e => by cases e; exact .inr rfl)
theorem bcase4 (a b c : Bool) : a = true ∨ (a = false ∧ b = true) ∨ (a = false ∧ b = false ∧ c = true) ∨ (a = false ∧ b = false ∧ c = false) := by cases a <;> cases b <;> cases c <;> simp
theorem bcase3 {a b c : Bool} (h : a = true ∨ b = true ∨ c = true) : a = true ∨ (a = false ∧ b = true) ∨ (a = false ∧ b = false ∧ c = true) := by cases a <;> cases b <;> simp_all
theorem bads {p : S76} (h : badT p = true) : p.f0 < 1 ∨ 3 < p.f0 ∨ p.f1 < 1 ∨ ¬ (p.f2 = 11 ∨ p.f2 = 12 ∨ p.f2 = 13) := by
  simp only [badT, Bool.or_eq_true, decide_eq_true_eq, Bool.not_eq_true', Bool.or_eq_false_iff, decide_eq_false_iff_not] at h
  omega
theorem goods {p : S76} (h : ¬ badT p = true) : 1 ≤ p.f0 ∧ p.f0 ≤ 3 ∧ 1 ≤ p.f1 ∧ (p.f2 = 11 ∨ p.f2 = 12 ∨ p.f2 = 13) := by
  simp only [badT, Bool.or_eq_true, decide_eq_true_eq, Bool.not_eq_true', Bool.or_eq_false_iff, decide_eq_false_iff_not] at h
  omega
theorem bools {x y : Int} {b : Bool} (h : decide (x = y) = b) : x = y ↔ b = true := by rw [← h]; simp
/-- A trouble more. -/
theorem NewAt.trouble {w w6 : World} {ok : Nat → Prop} {sb fm pm am : Nat} {room : Int} {acc : List S73} {plan : List S76} {p : S76} (h : NewAt w ok sb fm pm am room acc plan) (hp : PMap w6 pm (plan ++ [p])) (ht : w.mapTurned w6 pm) : NewAt w6 ok sb fm pm am room acc (plan ++ [p]) := by
  have g := ht.grown
  have n5 : No5 w (some pm) := by
    obtain ⟨D, h1, _⟩ := h.troubles
    exact No5.map h1
  refine ⟨h.blk.grown g (fun e => h.troubles.ne h.blk (by injection e with e; exact e.symm)), h.files.but (mapTurned_but ht) h.ne.1 (fun b hb => by cases hb; exact n5), hp, h.turns.keep (fun k e hlt => by cases e; exact g.block _ hlt (fun e => h.ne.2.2 (by injection e with e; exact e.symm))), h.oks, h.ne⟩
theorem plan_more {ps : List S76} {j : Nat} {p : S76} (h1 : newP ps = newP (ps.drop j)) (h2 : ∀ p ∈ ps.take j, p.f2 ≠ 0) (hp : ps[j]? = some p) (hb : ¬ badT p = true) (h0 : p.f2 ≠ 0) :
    newP ps = newP (ps.drop (j + 1)) ∧ (∀ q ∈ ps.take (j + 1), q.f2 ≠ 0) ∧ ps.take (j + 1) = ps.take j ++ [p] := by
  have hl : ps.take (j + 1) = ps.take j ++ [p] := by
    have hlt := (List.getElem?_eq_some_iff.1 hp).1
    rw [List.take_succ_eq_append_getElem hlt, (List.getElem?_eq_some_iff.1 hp).2]
  refine ⟨by rw [h1, newP_step hp, if_neg hb], fun q hq => ?_, hl⟩
  rw [hl] at hq
  rcases List.mem_append.1 hq with hq | hq
  · exact h2 q hq
  · simp at hq
    rw [hq]; exact h0
/-- What the program's New leaves. -/
def NewPost (w : World) (fs : List S73) (room : Int) (ps : List S76) (e : Ending) (w' : World) : Prop :=
  Below w.heap.size w w' ∧ ((newE fs room ps ≠ 0 ∧ e = .returned (.tuple #[.pointer none, .int .i64 (newE fs room ps)])) ∨
    (newE fs room ps = 0 ∧ ∃ sb, e = .returned (.tuple #[.pointer (some ⟨sb, 0, none⟩), .int .i64 0]) ∧ ShelfAt w' (fun k => w.heap.size ≤ k) sb (newS fs room ps)))
theorem drawn_drewN (w : World) (q : Nat) : Below w.heap.size w (w.drewN q) := Drawn0.below ⟨q, rfl⟩
set_option maxHeartbeats 8000000 in
theorem new.calls (Af Ap : Option Addr) (cf cp : Nat) (fs : List S73) (ps : List S76) (room : Int) (w : World) (hf : Kd.C k73 w Af fs.length fs) (hp : Kd.C k76 w Ap ps.length ps) (hn : fs.length ≤ 67108864) (hm : ∀ f ∈ fs, f.f1.length ≤ 140737488355328) (hz : ∀ f ∈ fs, f.f0.size ≤ maxLen) (hq : ps.length ≤ 5864062014805)
    (hwf : ∀ p ∈ ps, (Lit.int .i64 p.f0).wf = true ∧ (Lit.int .i64 p.f1).wf = true ∧ (Lit.int .i64 p.f2).wf = true) :
    Calls Try.prog 17 #[.slice Af fs.length cf, .int .i64 room, .slice Ap ps.length cp] w (NewPost w fs room ps) := by
  have HF := Lib.hid hf; clear hf
  have HP := Lib.hid hp; clear hp
  have HM := Lib.hid hm; clear hm
  have HZ := Lib.hid hz; clear hz
  have HWF := Lib.hid hwf; clear hwf
  by_cases hr : room < 0 ∨ 16777216 < room
  · have he := newE_room (fs := fs) (ps := ps) hr
    have HE := Lib.hid he; clear he
    go_enter Try.func17, Try.ntmps17
    rcases Classical.em (room < 0) with h0 | h0
    · go_wp2
      go_ret2
      exact ⟨Below.refl _ _, .inl ⟨by rw [HE.out]; decide, by rw [HE.out]; rfl⟩⟩
    · have h1 : 16777216 < room := by omega
      go_wp2
      go_ret2
      exact ⟨Below.refl _ _, .inl ⟨by rw [HE.out]; decide, by rw [HE.out]; rfl⟩⟩
  · have hr0 : ¬ room < 0 := fun h => hr (.inl h)
    have hr1 : ¬ 16777216 < room := fun h => hr (.inr h)
    have HRM : Hid (¬ (room < 0 ∨ 16777216 < room)) := hr
    clear hr
    have hmm := @run_makeMap Try.prog
    go_enter Try.func17, Try.ntmps17
    go_wp2
    have HN0 : Hid (NewAt ((((w.alloc (.map #[] 0)).alloc (.map #[] 0)).alloc (.map #[] 0)).alloc (.cells #[.map (some w.heap.size), .int .i64 room, .int .i64 0, .map (some (w.heap.size + 1)), .map (some (w.heap.size + 2)), .slice none 0 0] 84)) (fun k => w.heap.size ≤ k) (w.heap.size + 3) w.heap.size (w.heap.size + 1) (w.heap.size + 2) room [] [] ∧ Below w.heap.size w ((((w.alloc (.map #[] 0)).alloc (.map #[] 0)).alloc (.map #[] 0)).alloc (.cells #[.map (some w.heap.size), .int .i64 room, .int .i64 0, .map (some (w.heap.size + 1)), .map (some (w.heap.size + 2)), .slice none 0 0] 84))) :=
      ⟨NewAt.start w room, (((((Below.refl _ _).alloc (Nat.le_refl _) _).alloc (by simp) _).alloc (by simp; omega) _).alloc (by simp; omega) _)⟩
    generalize ((((w.alloc (.map #[] 0)).alloc (.map #[] 0)).alloc (.map #[] 0)).alloc (.cells #[.map (some w.heap.size), .int .i64 room, .int .i64 0, .map (some (w.heap.size + 1)), .map (some (w.heap.size + 2)), .slice none 0 0] 84)) = w0 at *
    obtain ⟨N, hN⟩ : ∃ N, w.heap.size = N := ⟨_, rfl⟩
    have HN := Lib.hid hN
    rw [hN] at HN0 ⊢
    clear hN hmm
    generalize N + 3 = sb at *
    generalize N + 1 = pm at *
    generalize N + 2 = am at *
    go_loopg [31] fs.length (fun q v wr => ∃ (i : Nat) (acc : List S73), q + i = fs.length ∧ v = .int .i64 (i : Nat) ∧ Hid (Acc room fs acc i ∧ NewAt wr (fun k => N ≤ k) sb N pm am room acc [] ∧ Below N w wr))
    case atStart => exact ⟨0, [], by simp, rfl, ⟨Rises.nil, by simp, rfl, by omega, by simp [szL]; omega, by simp⟩, HN0.out⟩
    case round =>
      clear HN0
      obtain ⟨i, acc, hi, rfl, HI⟩ := hrel
      by_cases hlt : i < fs.length
      · obtain ⟨f, hf⟩ : ∃ f, fs[i]? = some f := ⟨_, List.getElem?_eq_getElem hlt⟩
        have hfl := HM.out f (List.mem_of_getElem? hf)
        have hfz := HZ.out f (List.mem_of_getElem? hf)
        obtain ⟨ad, A1, c1, eA, e0, e1, hc1l, hc1⟩ := fs_at (Kd.C_below HF.out (HN.out ▸ HI.out.2.2)) hf
        subst eA
        have HBK : Hid (∀ W, Below wr.heap.size wr W → Below w.heap.size w W) := fun W hW => by
          have h1 : Below w.heap.size w wr := HN.out ▸ HI.out.2.2
          exact h1.trans (hW.mono h1.size)
        have HC1 := Lib.hid hc1; clear hc1
        have HFI := Lib.hid hf; clear hf
        have HFL := Lib.hid hfl; clear hfl
        have HFZ := Lib.hid hfz; clear hfz
        have HIL := Lib.hid hlt
        have hi0 : (0 : Int) ≤ (i : Int) := Int.natCast_nonneg _
        have hi1 : (i : Int) < (fs.length : Int) := Int.ofNat_lt.2 hlt
        have HA : ∀ wa : World, wa = wr.alloc (.cells #[.string f.f0, .slice A1 f.f1.length c1] 73) → Hid (Blk wa wr.heap.size 73 [.string f.f0, .slice A1 f.f1.length c1] ∧ NewAt wa (fun k => N ≤ k) sb N pm am room acc [] ∧ Below wr.heap.size wr wa) := by
          rintro wa rfl
          have hb : Below wr.heap.size wr (wr.alloc (.cells #[.string f.f0, .slice A1 f.f1.length c1] 73)) := (Below.refl _ _).alloc (Nat.le_refl _) _
          exact ⟨Blk.alloc wr _ _, HI.out.2.1.keep (Keeps.below hb), hb⟩
        go_upto_region 7 with (fail)
        generalize hwa : wr.alloc (.cells #[.string f.f0, .slice A1 f.f1.length c1] 73) = wa
        have HW0 := HA wa hwa.symm
        have HLB0 : Hid (N ≤ wr.heap.size) := HN.out ▸ HI.out.2.2.size
        clear HA hwa e0 e1
        obtain ⟨lb, hlb⟩ : ∃ lb, wr.heap.size = lb := ⟨_, rfl⟩
        rw [hlb]
        have HW : Hid (Blk wa lb 73 [.string f.f0, .slice A1 f.f1.length c1] ∧ NewAt wa (fun k => N ≤ k) sb N pm am room acc [] ∧ Below wr.heap.size wr wa) := ⟨hlb ▸ HW0.out.1, HW0.out.2⟩
        have HLB : Hid (N ≤ lb) := hlb ▸ HLB0.out
        have HLW := Lib.hid hlb
        clear hlb HW0 HLB0
        have c0 : wa.cell? ⟨lb, 0, none⟩ = some (.string f.f0) := HW.out.1.cell 0
        have d0 : wa.cell? ⟨sb, 0, none⟩ = some (.map (some N)) := HW.out.2.1.blk.cell 0
        obtain ⟨ov, hlk, _, _⟩ := HW.out.2.1.files.look HFZ.out
        have hlk1 := fun q => (hlk (wa.drewN q) (Keeps.below (drawn_drewN wa q))).1
        clear hlk
        obtain ⟨bh, hbh⟩ : ∃ bh, hasN acc f.f0 = bh := ⟨_, rfl⟩
        have HBH := Lib.hid hbh
        rw [hbh] at hlk1
        clear hbh
        go_quiet (fail)
        clear hlk1 c0 d0
        have HW2 : Hid (Blk (wa.drewN nq) lb 73 [.string f.f0, .slice A1 f.f1.length c1] ∧ NewAt (wa.drewN nq) (fun k => N ≤ k) sb N pm am room acc [] ∧ Below wr.heap.size wr (wa.drewN nq)) :=
          ⟨HW.out.1.below (drawn_drewN wa nq) HW.out.1.lt, HW.out.2.1.keep (Keeps.below (drawn_drewN wa nq)), HW.out.2.2.trans ((drawn_drewN wa nq).mono HW.out.2.2.size)⟩
        clear HW
        generalize wa.drewN nq = w2 at *
        cases bh
        · have c0 : w2.cell? ⟨lb, 0, none⟩ = some (.string f.f0) := HW2.out.1.cell 0
          obtain ⟨bk, hbk⟩ : ∃ bk, nmOK f.f0 = bk := ⟨_, rfl⟩
          have HBKN := Lib.hid hbk; clear hbk
          go_wp2_with (first
            | (go_at_call 36; refine (named.calls f.f0 w2).mono ?_; rintro e w3 ⟨rfl, hb3⟩; rw [HBKN.out]
               have HW3 : Hid (Blk w3 lb 73 [.string f.f0, .slice A1 f.f1.length c1] ∧ NewAt w3 (fun k => N ≤ k) sb N pm am room acc [] ∧ Below wr.heap.size wr w3) :=
                 ⟨HW2.out.1.below hb3 HW2.out.1.lt, HW2.out.2.1.keep (Keeps.below hb3), HW2.out.2.2.trans (hb3.mono HW2.out.2.2.size)⟩
               clear hb3 c0 HW2
               dsimp only; cases bk)
            | fail)
          · go_ret2
            have he := newE_files (ps := ps) HRM.out (HI.out.1.bad1 HFI.out (by rw [HBH.out, HBKN.out]; rfl)) (by decide)
            exact ⟨HBK.out _ HW3.out.2.2, .inl ⟨by rw [he]; decide, by rw [he]; rfl⟩⟩
          · have c1' : w3.cell? ⟨lb, 1, none⟩ = some (.slice A1 f.f1.length c1) := HW3.out.1.cell 1
            have d0 : w3.cell? ⟨sb, 0, none⟩ = some (.map (some N)) := HW3.out.2.1.blk.cell 0
            have d1 : w3.cell? ⟨sb, 1, none⟩ = some (.int .i64 room) := HW3.out.2.1.blk.cell 1
            have d2 : w3.cell? ⟨sb, 2, none⟩ = some (.int .i64 (szL acc : Nat)) := HW3.out.2.1.blk.cell 2
            have hlen : ∀ (ty : TypeId) (q : Nat), (Builtin.len_ #[80] ty #[.map (some N)]).run Try.prog (w3.drewN q) = .ok (.int .i64 (i : Nat)) (w3.drewN q) := fun ty q => by
              have := HW3.out.2.1.files.len ty (w3.drewN q) (Keeps.below (drawn_drewN w3 q))
              rwa [HI.out.1.len] at this
            obtain ⟨t, ht⟩ : ∃ t, szL acc = t := ⟨_, rfl⟩
            have HT := Lib.hid ht
            rw [ht] at d2
            have htb : (t : Int) ≤ room := ht ▸ HI.out.1.fits
            clear ht
            have hw : IntKind.i64.wrap (room - (t : Int)) = room - (t : Int) := IntWalk.i64_in _ (by omega)
            by_cases h64 : i = 64
            · have hb64 : ((i : Int) == 64) = true := by rw [h64]; rfl
              have H64 := Lib.hid h64; clear h64
              go_quiet (fail)
              go_wp2
              go_ret2
              have he := newE_files (ps := ps) HRM.out (HI.out.1.bad2 HFI.out HBH.out HBKN.out (.inl H64.out)) (by decide)
              exact ⟨HBK.out _ (HW3.out.2.2.trans ((drawn_drewN w3 _).mono HW3.out.2.2.size)), .inl ⟨by rw [he]; decide, by rw [he]; rfl⟩⟩
            · have hb64 : ((i : Int) == 64) = false := by simpa using fun h => h64 (by omega)
              have H64 := Lib.hid h64; clear h64
              go_quiet (fail)
              clear c1' d0 d1 d2 hlen hw hb64
              have HW4 : Hid (Blk (w3.drewN nq) lb 73 [.string f.f0, .slice A1 f.f1.length c1] ∧ NewAt (w3.drewN nq) (fun k => N ≤ k) sb N pm am room acc [] ∧ Below wr.heap.size wr (w3.drewN nq)) :=
                ⟨HW3.out.1.below (drawn_drewN w3 nq) HW3.out.1.lt, HW3.out.2.1.keep (Keeps.below (drawn_drewN w3 nq)), HW3.out.2.2.trans ((drawn_drewN w3 nq).mono HW3.out.2.2.size)⟩
              clear HW3
              generalize w3.drewN nq = w4 at *
              go_wp2
              · rename_i hfull
                go_ret2
                have he := newE_files (ps := ps) HRM.out (HI.out.1.bad2 HFI.out HBH.out HBKN.out (.inr (by rw [HT.out]; omega))) (by decide)
                exact ⟨HBK.out _ HW4.out.2.2, .inl ⟨by rw [he]; decide, by rw [he]; rfl⟩⟩
              have hfit' : ¬ room < (szL acc : Int) + f.f1.length := by rw [HT.out]; omega
              have HFT := Lib.hid hfit'; clear hfit' htb
              have c0 : w4.cell? ⟨lb, 0, none⟩ = some (.string f.f0) := HW4.out.1.cell 0
              have c1' : w4.cell? ⟨lb, 1, none⟩ = some (.slice A1 f.f1.length c1) := HW4.out.1.cell 1
              have d0 : w4.cell? ⟨sb, 0, none⟩ = some (.map (some N)) := HW4.out.2.1.blk.cell 0
              have HAC : Hid (acc.length < maxLen) := by have := HI.out.1.len; have := HI.out.1.few; simp only [maxLen]; show _ < _; omega
              go_region_held3 (fun w' => w'.cell? ⟨lb, 0, none⟩ = some (.string f.f0) ∧ w'.cell? ⟨lb, 1, none⟩ = some (.slice A1 f.f1.length c1) ∧ w'.cell? ⟨sb, 0, none⟩ = some (.map (some N)))
                (first
                  | with_reducible exact ⟨q0, q1, q2⟩
                  | with_reducible exact ⟨p0, p1, p2⟩
                  | go_keep)
                (first
                  | (go_at_call 37; refine (clone.calls A1 c1 f.f1 w4.drew (Kd.C_below HC1.out (HW4.out.2.2.trans ((Below.refl _ w4).drew.mono HW4.out.2.2.size))) HFL.out).mono ?_; rintro e w5 ⟨v5, rfl, hdat, hbl⟩
                     have HB5 : Hid (Below w4.heap.size w4 w5) := (Below.refl _ w4).drew.trans hbl
                     have p0 := Below.cellS HB5.out c0
                     have p1 := Below.cellS HB5.out c1'
                     have p2 := Below.cellS HB5.out d0
                     have HNA5 : Hid (NewAt w5 (fun k => N ≤ k) sb N pm am room acc []) := HW4.out.2.1.keep (Keeps.below HB5.out)
                     obtain ⟨Av, cw, rfl, _, _⟩ := hdat.slice
                     obtain ⟨w6, hrun6, hfm6, htu6⟩ := HNA5.out.files.store HI.out.1.rises HAC.out HFZ.out (hdat.mono fun k hk => Nat.le_trans (Nat.le_trans (HN.out ▸ HI.out.2.2.size) HW4.out.2.2.size) hk)
                     have HLB5 : Hid (Blk w5 lb 73 [.string f.f0, .slice A1 f.f1.length c1]) := HW4.out.1.below HB5.out HW4.out.1.lt
                     have hne1 : ¬ lb = N := fun e => HNA5.out.files.ne HLB5.out e.symm
                     have hne2 : ¬ sb = N := fun e => HNA5.out.files.ne HNA5.out.blk e.symm
                     have q0 := but_cell (mapTurned_but htu6) p0 hne1
                     have q1 := but_cell (mapTurned_but htu6) p1 hne1
                     have q2 := but_cell (mapTurned_but htu6) p2 hne2
                     have HFM6 := Lib.hid hfm6; clear hfm6
                     have HTU6 := Lib.hid htu6; clear htu6 hdat hbl hne1 hne2))
              rename _ ∧ _ ∧ _ => hHeld
              clear hHeld c0 c1' d0 p0 p1 p2 q0 hrun6
              have HS6 : Hid (Blk w6 sb 84 [.map (some N), .int .i64 room, .int .i64 (szL acc : Nat), .map (some pm), .map (some am), .slice none 0 0]) := HNA5.out.blk.grown HTU6.out.grown (fun e => HNA5.out.files.ne HNA5.out.blk (by injection e with e; exact e.symm))
              have r2 : w6.cell? ⟨sb, 2, none⟩ = some (.int .i64 (t : Nat)) := HT.out ▸ HS6.out.cell 2
              have f2 : w6.frozen? ⟨sb, 2, none⟩ = false := HS6.out.frozen 2
              have hw2 : IntKind.i64.wrap ((t : Int) + (f.f1.length : Int)) = (t : Int) + (f.f1.length : Int) := IntWalk.i64_in _ (by have := HFT.out; have := HT.out; omega)
              go_wp2
              go_region
              have hN7 : ∀ w7 : World, w7 = (w6.setCell ⟨sb, 2, none⟩ (.int .i64 ((t : Int) + (f.f1.length : Int)))).drew → Hid (Acc room fs (putL f.f0 f.f1 acc) (i + 1) ∧ NewAt w7 (fun k => N ≤ k) sb N pm am room (putL f.f0 f.f1 acc) [] ∧ Below N w w7) := by
                rintro w7 rfl
                obtain ⟨k1, k2⟩ := HNA5.out.file HI.out.1.rises HBH.out HFM6.out HTU6.out (w7 := w6.setCell ⟨sb, 2, none⟩ (.int .i64 ((t : Int) + (f.f1.length : Int)))) (by rw [HT.out])
                have hle : N ≤ wr.heap.size := HN.out ▸ HI.out.2.2.size
                have b5 : Below N w w5 := HI.out.2.2.trans ((HW4.out.2.2.trans (HB5.out.mono HW4.out.2.2.size)).mono hle)
                have b7 : Below N w5 (w6.setCell ⟨sb, 2, none⟩ (.int .i64 ((t : Int) + (f.f1.length : Int)))) := k2.below (fun k hk => by rcases hk with rfl | rfl; exact Nat.le_refl _; exact HNA5.out.oks.1) (Nat.le_trans (Nat.le_trans hle HW4.out.2.2.size) HB5.out.size)
                exact ⟨HI.out.1.next HFI.out HBH.out HBKN.out H64.out (by have := HFT.out; omega), k1.keep (Keeps.below (Below.refl _ _).drew), (b5.trans b7).drew⟩
              have hiw : wrap64 ((i : Int) + 1) = ((i + 1 : Nat) : Int) := by rw [IntWalk.wrap64_in _ (by omega)]; rfl
              clear q1 q2 r2 f2 hw2 hi0 hi1
              generalize hw7 : (w6.setCell ⟨sb, 2, none⟩ (.int .i64 ((t : Int) + (f.f1.length : Int)))).drew = w7
              have HF7 := hN7 w7 hw7.symm
              clear hN7 hw7
              go_wp2
              go_roundg (fs.length - (i + 1))
              case measure => clear hiw; omega
              case rel => exact ⟨i + 1, putL f.f0 f.f1 acc, by clear hiw; omega, by first | rfl | rw [hiw], HF7.out⟩
        · go_wp2
          go_ret2
          have he := newE_files (ps := ps) HRM.out (HI.out.1.bad1 HFI.out (by rw [HBH.out]; rfl)) (by decide)
          exact ⟨HBK.out _ HW2.out.2.2, .inl ⟨by rw [he]; decide, by rw [he]; rfl⟩⟩
      · obtain rfl : i = fs.length := by omega
        have hdone := HI.out.1.done
        have HD := Lib.hid hdone; clear hdone
        have HI2 : Hid (NewAt wr (fun k => N ≤ k) sb N pm am room acc (ps.take 0) ∧ Below N w wr) := Lib.hid (by simpa using HI.out.2)
        clear HI hlt hi
        go_wp2
        go_loopg [97] ps.length (fun q v wr => ∃ j : Nat, q + j = ps.length ∧ v = .int .i64 (j : Nat) ∧ Hid (newP ps = newP (ps.drop j) ∧ ∀ p ∈ ps.take j, p.f2 ≠ 0) ∧ Hid (NewAt wr (fun k => N ≤ k) sb N pm am room acc (ps.take j) ∧ Below N w wr))
        case atStart => exact ⟨0, by simp, rfl, Lib.hid (by simp), HI2.out⟩
        case round =>
          clear HI2
          rename World => wr2
          obtain ⟨j, hj, rfl, HNP, HI⟩ := hrel
          by_cases hlt : j < ps.length
          · obtain ⟨p, hp⟩ : ∃ p, ps[j]? = some p := ⟨_, List.getElem?_eq_getElem hlt⟩
            obtain ⟨ad, eA, e0, e1, e2⟩ := ps_at (Kd.C_below HP.out (HN.out ▸ HI.out.2)) hp
            subst eA
            have hwfp := HWF.out p (List.mem_of_getElem? hp)
            have HWP := Lib.hid hwfp; clear hwfp
            have HPI := Lib.hid hp; clear hp
            have hj0 : (0 : Int) ≤ (j : Int) := Int.natCast_nonneg _
            have hj1 : (j : Int) < (ps.length : Int) := Int.ofNat_lt.2 hlt
            have HB1 : ∀ wa : World, wa = wr2.alloc (.cells #[.int .i64 p.f0, .int .i64 p.f1, .int .i64 p.f2] 76) → Hid (Blk wa wr2.heap.size 76 [.int .i64 p.f0, .int .i64 p.f1, .int .i64 p.f2] ∧ NewAt wa (fun k => N ≤ k) sb N pm am room acc (ps.take j) ∧ Below N w wa ∧ N ≤ wr2.heap.size) := by
              rintro wa rfl
              have hb : Below wr2.heap.size wr2 (wr2.alloc (.cells #[.int .i64 p.f0, .int .i64 p.f1, .int .i64 p.f2] 76)) := (Below.refl _ _).alloc (Nat.le_refl _) _
              have hle : N ≤ wr2.heap.size := HN.out ▸ HI.out.2.size
              exact ⟨Blk.alloc wr2 _ _, HI.out.1.keep (Keeps.below hb), HI.out.2.trans (hb.mono hle), hle⟩
            obtain ⟨b11, b12, b13, hb1, hb2, hb3⟩ : ∃ b11 b12 b13 : Bool, ((p.f2 == 11) = b11 ∧ decide (p.f2 = 11) = b11) ∧ ((p.f2 == 12) = b12 ∧ decide (p.f2 = 12) = b12) ∧ ((p.f2 == 13) = b13 ∧ decide (p.f2 = 13) = b13) := ⟨_, _, _, ⟨rfl, rfl⟩, ⟨rfl, rfl⟩, rfl, rfl⟩
            have HBS : Hid ((p.f2 = 11 ↔ b11 = true) ∧ (p.f2 = 12 ↔ b12 = true) ∧ (p.f2 = 13 ↔ b13 = true)) := ⟨bools hb1.2, bools hb2.2, bools hb3.2⟩
            obtain ⟨h11, h11'⟩ := hb1
            obtain ⟨h12, h12'⟩ := hb2
            obtain ⟨h13, h13'⟩ := hb3
            by_cases hbad : badT p = true
            · have hbad' := bads hbad
              rw [HBS.out.1, HBS.out.2.1, HBS.out.2.2] at hbad'
              have HBD := Lib.hid hbad'; clear hbad'
              have HBB := Lib.hid hbad; clear hbad
              have hret : NewPost w fs room ps (.returned (.tuple #[.pointer none, .int .i64 6])) (wr2.alloc (.cells #[.int .i64 p.f0, .int .i64 p.f1, .int .i64 p.f2] 76)) := by
                have he := newE_plan (ps := ps) HRM.out (show (newF room [] fs).1 = 0 by rw [HD.out])
                rw [HNP.out.1, newP_step HPI.out, if_pos HBB.out] at he
                exact ⟨HN.out ▸ (HB1 _ rfl).out.2.2.1, .inl ⟨by rw [he]; decide, by rw [he]⟩⟩
              have HRET := Lib.hid hret; clear hret HB1
              have HBC := bcase4 b11 b12 b13
              clear HBS
              rcases HBC with rfl | ⟨rfl, rfl⟩ | ⟨rfl, rfl, rfl⟩ | ⟨rfl, rfl, rfl⟩
              all_goals
                go_wp2
                all_goals first
                  | (go_ret2; exact HRET.out)
                  | (exfalso; have := HBD.out; simp only [Bool.false_eq_true, or_false, or_true, true_or, not_true_eq_false] at this; omega)
            · have hok := goods hbad
              have HBAD := Lib.hid hbad; clear hbad
              obtain ⟨k0, k1, k2, k3⟩ := hok
              have HP2 : Hid (p.f2 ≠ 0) := fun e => by rw [e] at k3; revert k3; decide
              rw [HBS.out.1, HBS.out.2.1, HBS.out.2.2] at k3
              have HBC := bcase3 k3
              clear k3 HBS
              obtain ⟨pf, hpf⟩ : ∃ pf, planF (ps.take j) p.f0 p.f1 = pf := ⟨_, rfl⟩
              have HPF := Lib.hid hpf
              have hlk : ∀ W, Keeps (fun k => k = pm) wr2 W → (Instr.lookup 81 (.map (some pm)) (.agg #[.int .i64 p.f0, .int .i64 p.f1]) false).run Try.prog W = .ok (.int .i64 pf) W := hpf ▸ HI.out.1.troubles.look HWP.out.1 HWP.out.2.1
              have HLK := Lib.hid hlk; clear hlk hpf
              have HB2 : ∀ wb : World, wb = (wr2.alloc (.cells #[.int .i64 p.f0, .int .i64 p.f1, .int .i64 p.f2] 76)).alloc (.cells #[.int .i64 p.f0, .int .i64 p.f1] 92) →
                  Hid (Blk wb wr2.heap.size 76 [.int .i64 p.f0, .int .i64 p.f1, .int .i64 p.f2] ∧ Blk wb (wr2.heap.size + 1) 92 [.int .i64 p.f0, .int .i64 p.f1] ∧ NewAt wb (fun k => N ≤ k) sb N pm am room acc (ps.take j) ∧ Below wr2.heap.size wr2 wb) := by
                rintro wb rfl
                have h1 := HB1 _ rfl
                have hs : (wr2.alloc (.cells #[.int .i64 p.f0, .int .i64 p.f1, .int .i64 p.f2] 76)).heap.size = wr2.heap.size + 1 := by simp
                have hb := Blk.alloc (wr2.alloc (.cells #[.int .i64 p.f0, .int .i64 p.f1, .int .i64 p.f2] 76)) #[.int .i64 p.f0, .int .i64 p.f1] 92
                rw [hs] at hb
                have hbel := (Below.refl _ (wr2.alloc (.cells #[.int .i64 p.f0, .int .i64 p.f1, .int .i64 p.f2] 76))).alloc (Nat.le_refl _) (.cells #[.int .i64 p.f0, .int .i64 p.f1] 92)
                exact ⟨h1.out.1.below hbel h1.out.1.lt, hb, h1.out.2.1.keep (Keeps.below hbel), ((Below.refl _ wr2).alloc (Nat.le_refl _) _).alloc (by simp) _⟩
              clear HB1
              rcases HBC with rfl | ⟨rfl, rfl⟩ | ⟨rfl, rfl, rfl⟩
              all_goals
                go_wp2
                generalize hwb : (wr2.alloc (.cells #[.int .i64 p.f0, .int .i64 p.f1, .int .i64 p.f2] 76)).alloc (.cells #[.int .i64 p.f0, .int .i64 p.f1] 92) = wb
                have HB := HB2 wb hwb.symm
                clear HB2 hwb e0 e1 e2 h11 h11' h12 h12' h13 h13'
                have d3 : wb.cell? ⟨sb, 3, none⟩ = some (.map (some pm)) := HB.out.2.2.1.blk.cell 3
                have c0 : wb.cell? ⟨wr2.heap.size + 1, 0, none⟩ = some (.int .i64 p.f0) := HB.out.2.1.cell 0
                have c1 : wb.cell? ⟨wr2.heap.size + 1, 1, none⟩ = some (.int .i64 p.f1) := HB.out.2.1.cell 1
                have hlk1 := fun q => HLK.out (wb.drewN q) (Keeps.below (HB.out.2.2.2.trans ((drawn_drewN wb q).mono HB.out.2.2.2.size)))
                go_quiet (fail)
                clear hlk1 d3 c0 c1
                have HB3 : Hid (Blk (wb.drewN nq) wr2.heap.size 76 [.int .i64 p.f0, .int .i64 p.f1, .int .i64 p.f2] ∧ Blk (wb.drewN nq) (wr2.heap.size + 1) 92 [.int .i64 p.f0, .int .i64 p.f1] ∧ NewAt (wb.drewN nq) (fun k => N ≤ k) sb N pm am room acc (ps.take j) ∧ Below N w (wb.drewN nq)) := by
                  have hle : N ≤ wr2.heap.size := HN.out ▸ HI.out.2.size
                  have hd := drawn_drewN wb nq
                  exact ⟨HB.out.1.below hd HB.out.1.lt, HB.out.2.1.below hd HB.out.2.1.lt, HB.out.2.2.1.keep (Keeps.below hd), HI.out.2.trans ((HB.out.2.2.2.trans (hd.mono HB.out.2.2.2.size)).mono hle)⟩
                clear HB
                generalize wb.drewN nq = w2 at *
                have hiw : wrap64 ((j : Int) + 1) = ((j + 1 : Nat) : Int) := by rw [IntWalk.wrap64_in _ (by omega)]; rfl
                have HNX : Hid (newP ps = newP (ps.drop (j + 1)) ∧ (∀ q ∈ ps.take (j + 1), q.f2 ≠ 0) ∧ ps.take (j + 1) = ps.take j ++ [p]) := plan_more HNP.out.1 HNP.out.2 HPI.out HBAD.out HP2.out
                have HNJ : Hid (N ≤ w2.heap.size) := Nat.le_trans (HN.out ▸ Nat.le_refl _) HB3.out.2.2.2.size
                by_cases hz : pf = 0
                · have hz1 : (pf == 0) = true := by rw [hz]; rfl
                  have HZ0 : Hid (planF (ps.take j) p.f0 p.f1 = 0) := HPF.out.trans hz
                  clear hz
                  have d3 : w2.cell? ⟨sb, 3, none⟩ = some (.map (some pm)) := HB3.out.2.2.1.blk.cell 3
                  have c0 : w2.cell? ⟨wr2.heap.size + 1, 0, none⟩ = some (.int .i64 p.f0) := HB3.out.2.1.cell 0
                  have c1 : w2.cell? ⟨wr2.heap.size + 1, 1, none⟩ = some (.int .i64 p.f1) := HB3.out.2.1.cell 1
                  have e2 : w2.cell? ⟨wr2.heap.size, 2, none⟩ = some (.int .i64 p.f2) := HB3.out.1.cell 2
                  have HDR : Hid (NewAt w2.drew (fun k => N ≤ k) sb N pm am room acc (ps.take j)) := HB3.out.2.2.1.keep (Keeps.below (Below.refl _ w2).drew)
                  have hpl : (ps.take j).length < maxLen := by rw [List.length_take]; simp only [maxLen]; omega
                  obtain ⟨w6, hrun6, hpm6, htu6⟩ := HDR.out.troubles.store HNP.out.2 hpl HWP.out.1 HWP.out.2.1 HWP.out.2.2 HZ0.out
                  clear hpl
                  have HF6 : Hid (NewAt w6 (fun k => N ≤ k) sb N pm am room acc (ps.take (j + 1)) ∧ Below N w w6) := by
                    refine ⟨HNX.out.2.2 ▸ HDR.out.trouble hpm6 htu6, ?_⟩
                    have b1 : Below N w w2.drew := HB3.out.2.2.2.drew
                    exact b1.grown htu6.grown HNJ.out (fun k hk => by cases hk; exact HDR.out.oks.2.2.1)
                  clear hpm6 htu6
                  go_wp2
                  go_region
                  clear hrun6 d3 c0 c1 e2 hz1
                  go_wp2
                  go_roundg (ps.length - (j + 1))
                  case measure => clear hiw; omega
                  case rel => exact ⟨j + 1, by clear hiw; omega, by first | rfl | rw [hiw], ⟨HNX.out.1, HNX.out.2.1⟩, HF6.out⟩
                · have hz1 : (pf == 0) = false := by simpa using hz
                  have HZ0 : Hid (planF (ps.take j) p.f0 p.f1 ≠ 0) := fun e => hz (HPF.out.symm.trans e)
                  clear hz
                  have HF6 : Hid (NewAt w2 (fun k => N ≤ k) sb N pm am room acc (ps.take (j + 1)) ∧ Below N w w2) := by
                    refine ⟨HNX.out.2.2 ▸ ?_, HB3.out.2.2.2⟩
                    obtain ⟨n1, n2, n3, n4, n5, n6⟩ := HB3.out.2.2.1
                    exact ⟨n1, n2, n3.old HNP.out.2 HZ0.out, n4, n5, n6⟩
                  go_wp2
                  go_roundg (ps.length - (j + 1))
                  case measure => clear hiw; omega
                  case rel => exact ⟨j + 1, by clear hiw; omega, by first | rfl | rw [hiw], ⟨HNX.out.1, HNX.out.2.1⟩, HF6.out⟩
          · obtain rfl : j = ps.length := by omega
            have hNP := HNP.out.1
            rw [List.drop_length] at hNP
            have he := newE_plan (ps := ps) HRM.out (show (newF room [] fs).1 = 0 by rw [HD.out])
            rw [hNP] at he
            have HE : Hid (newE fs room ps = 0) := he
            clear hNP he
            go_wp2
            go_ret2
            have hs : newS fs room ps = ⟨acc, room, ps.take ps.length, []⟩ := by rw [newS, HD.out, List.take_length]
            refine ⟨HN.out ▸ HI.out.2, .inr ⟨HE.out, sb, rfl, ?_⟩⟩
            rw [hs, HN.out]
            exact HI.out.1.shelf
end Go.Proofs.Ytplknppmaepinaa.S
/- What the shelves tell: Left, Calls; the document's Files. -/
namespace Go.X
open Go Go.RowKit
theorem make0 {P : Program} (t : TypeId) (e : TypeId) (z : Value) (size bytes : Nat) (h1 : P.underlying t = some (.slice e)) (h2 : (P.info? e).map (fun i => (i.zero, i.size, i.bytes)) = some (some z, size, bytes)) (_hz : z.cells.size = size)
    (n : Nat) (b2 : bytes * n ≤ 281474976710656) (b3 : n ≤ maxLen) : ∃ Z : Array Value, Z.size = n * size ∧ ∀ W : World, (Instr.makeSlice t (.int .i64 0) (.int .i64 (n : Nat))).run P W = .ok (.slice (some ⟨W.heap.size, 0, none⟩) 0 n) (W.alloc (.cells Z e)) := by
  obtain ⟨i, hi, hz0, hs, hb⟩ := info_parts h2
  refine ⟨madeCells z.cells (n * size), size_madeCells _ _, fun W => ?_⟩
  have hb' : (i.bytes : Int) * (n : Int) ≤ 281474976710656 := by
    have h : ((i.bytes * n : Nat) : Int) ≤ 281474976710656 := by rw [hb]; omega
    rwa [Int.natCast_mul] at h
  have hr := run_make (P := P) W t e i z h1 hi hz0 .i64 .i64 0 n (by omega) (by omega) hb' (by simp only [maxLen] at b3; omega)
  simpa [hs] using hr
theorem own_made (w : World) (e : TypeId) (size n : Nat) (Z : Array Value) (hz : Z.size = n * size) (hn : n ≤ maxLen) : (w.alloc (.cells Z e)).ownsRow w.heap.size e size (.slice (some ⟨w.heap.size, 0, none⟩) 0 n) 0 [] :=
  ⟨by simp, .inr ⟨w.heap.size, n, Z, rfl, Nat.le_refl _, heap_alloc_new w _, Nat.zero_le _, hn, hz, by simp⟩⟩
end Go.X
namespace Go.Proofs.Ytplknppmaepinaa.S
open Go Go.RowKit Go.X Go.Maps Go.Proofs.YtplknppmaepinaaW.PrintWords Go.Proofs.Ytplknppmaepinaa.F
set_option maxRecDepth 100000

theorem left.calls {w : World} {ok : Nat → Prop} {sb : Nat} {s : Sh} (h : ShelfAt w ok sb s) (hg : Good s) :
    Calls Try.prog 13 #[.pointer (some ⟨sb, 0, none⟩)] w fun e w' => e = .returned (.int .i64 (s.room - szL s.L)) ∧ Drawn0 w w' := by
  obtain ⟨fm, pm, am, cv, h1, -⟩ := h.out
  have c1 : w.cell? ⟨sb, 1, none⟩ = some (.int .i64 s.room) := h1.cell 1
  have c2 : w.cell? ⟨sb, 2, none⟩ = some (.int .i64 (szL s.L : Nat)) := h1.cell 2
  have k1 := hg.fits
  have k2 := hg.room1
  obtain ⟨t, ht⟩ : ∃ t, szL s.L = t := ⟨_, rfl⟩
  rw [ht] at c2 k1 ⊢
  clear h1 ht
  have hw : IntKind.i64.wrap (s.room - (t : Int)) = s.room - (t : Int) := IntWalk.i64_in _ (by omega)
  go_enter Try.func13, Try.ntmps13
  go_wp2
  go_quiet (fail)
  go_wp2
  go_ret
  exact ⟨rfl, ⟨_, rfl⟩⟩

theorem info102 : (Try.prog.info? 102).map (fun i => (i.zero, i.size, i.bytes)) = some (some (.agg #[.int .i64 0, .string ⟨#[]⟩, .int .i64 0]), 3, 32) := by kernel_rfl
theorem u34 : Try.prog.underlying 34 = some (.slice 102) := Try.underlying34
set_option maxHeartbeats 4000000 in
/-- What was asked so far, as a row of its own. -/
theorem calls.calls {w : World} {ok : Nat → Prop} {sb : Nat} {s : Sh} (h : ShelfAt w ok sb s) (hl : s.all.length ≤ 1073741824) :
    Calls Try.prog 15 #[.pointer (some ⟨sb, 0, none⟩)] w fun e w' => ∃ v, e = .returned v ∧ w'.ownsRow w.heap.size 102 3 v s.all.length (callCells s.all) ∧ Below w.heap.size w w' := by
  obtain ⟨fm, pm, am, cv, h1, -, -, -, h5, -⟩ := h.out
  obtain ⟨Ac, cc, rfl⟩ := own_slice h5
  have c1 : w.cell? ⟨sb, 5, none⟩ = some (.slice Ac s.all.length cc) := h1.cell 5
  have HOW := Lib.hid h5; clear h5 h1 h
  have HN := Lib.hid hl
  go_enter Try.func15, Try.ntmps15
  go_wp2
  obtain ⟨Z, hZ, hmk⟩ := make0 (P := Try.prog) 34 102 _ 3 32 u34 info102 rfl s.all.length (by have := HN.out; omega) (by have := HN.out; simp only [maxLen]; omega)
  have HO1 : Hid (((w.alloc (.cells Z 102)).drew).ownsRow w.heap.size 102 3 (.slice (some ⟨w.heap.size, 0, none⟩) 0 s.all.length) 0 []) := own_made w 102 3 _ Z hZ (by have := HN.out; simp only [maxLen]; omega)
  have HG1 : Hid (Below w.heap.size w (w.alloc (.cells Z 102)).drew) := ((Below.refl _ w).alloc (Nat.le_refl _) _).drew
  have p0 : (w.alloc (.cells Z 102)).drew.cell? ⟨sb, 5, none⟩ = some (.slice Ac s.all.length cc) := Below.cellS HG1.out c1
  clear hZ hl
  go_region_law (first
      | (refine step_appendAny rfl (.tmp 8) (.tmp 12) 34 102 rfl w.heap.size _ 3 32 u34 info102 rfl (by decide) (.slice (some ⟨w.heap.size, 0, none⟩) 0 s.all.length) 0 [] rfl HO1.out Ac s.all.length cc (callCells s.all) rfl (callCells_length _)
           (own_news (ownsRow_keep (ok := fun _ => True) HOW.out (Keeps.below HG1.out) (fun _ _ => trivial))) (callCells_one _) (by have := HN.out; simp only [maxLen]; omega) (by have := HN.out; omega) (by have := HG1.out.size; exact this) ?_
         intro v' w2 ho2 ha2
         have HO2 := Lib.hid ho2; clear ho2
         have HA2 := Lib.hid ha2; clear ha2)
      | fail)
  all_goals
    go_wp2
    go_ret
    exact ⟨v', rfl, by simpa using HO2.out, HG1.out.grown HA2.out.grown HG1.out.size (by simp [Value.ownBlock])⟩

theorem files_next {wr wl w4 : World} {N : Nat} {v v4 : Value} {L : List S73} {f : S73} {u : Value} {cs : List Value} {i : Nat} (hi : L.length = i) (hok : ∀ g, v.ownBlock = some g → N ≤ g) (hfc : FileCells wr (fun k => N ≤ k) L cs) (how : wr.ownsRow 0 73 2 v i cs) (hb : Below wr.heap.size wr wl) (hle : N ≤ wr.heap.size)
    (hd : DataAt wl (fun k => N ≤ k) u f.f1) (ho : w4.ownsRow 0 73 2 v4 (i + 1) (cs ++ [.string f.f0, u])) (ha : Appended wl w4 73 2 v v4 i) : FilesAt w4 (fun k => N ≤ k) v4 (L ++ [f]) ∧ Below N wr w4 := by
  have n5 : No5 wl v.ownBlock := No5.row (ownsRow_keep (ok := fun _ => True) how (Keeps.below hb) (fun _ _ => trivial)) (by decide)
  refine ⟨⟨fun g hg => ?_, _, ((hfc.keep (Keeps.below hb)).grown ha.grown n5).append (.cons (hd.grown ha.grown n5) .nil), ?_⟩, (hb.mono hle).grown ha.grown (Nat.le_trans hle hb.size) fun k e => hok k e⟩
  · rcases ha.place with h | ⟨h, _⟩
    · rw [h] at hg; exact hok g hg
    · rw [h] at hg
      injection hg with hg
      have := hb.size
      omega
  · rw [List.length_append, hi]
    exact ho
theorem take_next {L : List S73} {i : Nat} {f : S73} (h : L[i]? = some f) : L.take (i + 1) = L.take i ++ [f] := by
  have hlt := (List.getElem?_eq_some_iff.1 h).1
  rw [List.take_succ_eq_append_getElem hlt, (List.getElem?_eq_some_iff.1 h).2]
theorem len_sz {L : List S73} {f : S73} (h : f ∈ L) : f.f1.length ≤ szL L := by
  induction L with
  | nil => cases h
  | cons g r ih =>
    unfold szL
    rcases List.mem_cons.1 h with rfl | h
    · omega
    · have := ih h; omega
end Go.Proofs.Ytplknppmaepinaa.S
/- slices.Sort at strings: the contract of the shelf, laid in plain words (by the kit's lay-plain). -/
namespace Go.Proofs
open Go.Shelf
def Try.lays190_ren : Go.Shelf.Ren := ⟨fun | 190 => 31 | 125 => 58 | 258 => 57 | 128 => 74 | 129 => 75 | 302 => 65 | 303 => 66 | 304 => 67 | 305 => 68 | 306 => 69 | 307 => 70 | 308 => 71 | 309 => 72 | 310 => 73 | 333 => 79 | 329 => 80 | 330 => 81 | 334 => 82 | 335 => 83 | 336 => 84 | 344 => 85 | n => n, fun | 31 => 79 | 9 => 9 | 3 => 3 | 46 => 114 | 0 => 0 | 51 => 128 | 53 => 130 | 4 => 4 | 183 => 121 | 182 => 120 | 131 => 54 | 5 => 5 | 218 => 136 | 222 => 140 | 228 => 153 | 229 => 154 | n => n, fun | n => n⟩
theorem Try.lays190 : Go.Proofs.Lays.n190 Try.prog Try.lays190_ren := {
  mixed := by kernel_rfl
  f125 := Try.func58.trans (congrArg some (by kernel_rfl))
  f128 := Try.func74.trans (congrArg some (by kernel_rfl))
  f129 := Try.func75.trans (congrArg some (by kernel_rfl))
  f190 := Try.func31.trans (congrArg some (by kernel_rfl))
  f258 := Try.func57.trans (congrArg some (by kernel_rfl))
  f302 := Try.func65.trans (congrArg some (by kernel_rfl))
  f303 := Try.func66.trans (congrArg some (by kernel_rfl))
  f304 := Try.func67.trans (congrArg some (by kernel_rfl))
  f305 := Try.func68.trans (congrArg some (by kernel_rfl))
  f306 := Try.func69.trans (congrArg some (by kernel_rfl))
  f307 := Try.func70.trans (congrArg some (by kernel_rfl))
  f308 := Try.func71.trans (congrArg some (by kernel_rfl))
  f309 := Try.func72.trans (congrArg some (by kernel_rfl))
  f310 := Try.func73.trans (congrArg some (by kernel_rfl))
  f329 := Try.func80.trans (congrArg some (by kernel_rfl))
  f330 := Try.func81.trans (congrArg some (by kernel_rfl))
  f333 := Try.func79.trans (congrArg some (by kernel_rfl))
  f334 := Try.func82.trans (congrArg some (by kernel_rfl))
  f335 := Try.func83.trans (congrArg some (by kernel_rfl))
  f336 := Try.func84.trans (congrArg some (by kernel_rfl))
  f344 := Try.func85.trans (congrArg some (by kernel_rfl))
  t0 := Try.underlying0
  a0 := Try.isAgg0
  z0 := Try.sizeOf0
  v0 := Try.zeroValue0
  t3 := Try.underlying3
  a3 := Try.isAgg3
  z3 := Try.sizeOf3
  v3 := Try.zeroValue3
  t4 := Try.underlying4
  a4 := Try.isAgg4
  z4 := Try.sizeOf4
  v4 := Try.zeroValue4
  t5 := Try.underlying5
  a5 := Try.isAgg5
  z5 := Try.sizeOf5
  v5 := Try.zeroValue5
  t9 := Try.underlying9
  a9 := Try.isAgg9
  z9 := Try.sizeOf9
  v9 := Try.zeroValue9
  t31 := Try.underlying79
  a31 := Try.isAgg79
  z31 := Try.sizeOf79
  v31 := Try.zeroValue79
  t46 := Try.underlying114
  a46 := Try.isAgg114
  z46 := Try.sizeOf114
  v46 := Try.zeroValue114
  t51 := Try.underlying128
  a51 := Try.isAgg128
  z51 := Try.sizeOf128
  v51 := Try.zeroValue128
  t53 := Try.underlying130
  a53 := Try.isAgg130
  z53 := Try.sizeOf130
  v53 := Try.zeroValue130
  t131 := Try.underlying54
  a131 := Try.isAgg54
  z131 := Try.sizeOf54
  v131 := Try.zeroValue54
  t182 := Try.underlying120
  a182 := Try.isAgg120
  z182 := Try.sizeOf120
  v182 := Try.zeroValue120
  t183 := Try.underlying121
  a183 := Try.isAgg121
  z183 := Try.sizeOf121
  v183 := Try.zeroValue121
  t218 := Try.underlying136
  a218 := Try.isAgg136
  z218 := Try.sizeOf136
  v218 := Try.zeroValue136
  t222 := Try.underlying140
  a222 := Try.isAgg140
  z222 := Try.sizeOf140
  v222 := Try.zeroValue140
  t228 := Try.underlying153
  a228 := Try.isAgg153
  z228 := Try.sizeOf153
  v228 := Try.zeroValue153
  t229 := Try.underlying154
  a229 := Try.isAgg154
  z229 := Try.sizeOf154
  v229 := Try.zeroValue154 }
open Go.Sort Go.RowKit in
theorem Try.slices_Sort_string (blk off cap : Nat) (ss : List (List UInt8)) (w : World) (hH : Holds encStr w blk off ss.toArray) (hblk : blk < w.heap.size) (hsz : ss.length < 4611686018427387904) :
    Calls Try.prog 31 #[.slice (some ⟨blk, off, none⟩) ss.length cap] w fun e w' =>
      e = .returned (.tuple #[]) ∧ ∃ n os, w' = grow (putRow encStr (Sort.ahead w n) blk off (ss.mergeSort fun x y => decide (x ≤ y)).toArray) os := Any.slices_Sort_string Try.lays190 blk off cap ss w hH hblk hsz
open Go.RowKit Go.Sort in
/-- .. and plain. (LAID: no walk: one application.) -/
theorem Try.slices_Sort_string_none (p : Option Addr) (cap : Nat) (w : World) :
    Calls Try.prog 31 #[.slice p 0 cap] w fun e w' => e = .returned (.tuple #[]) ∧ w' = w := Any.slices_Sort_string_none Try.lays190 p cap w
end Go.Proofs
/- The program's Files: the names collected off the map, sorted; each file's bytes copied. -/
namespace Go.Proofs.Ytplknppmaepinaa.S
open Go Go.RowKit Go.X Go.Maps Go.Sort Go.Proofs.YtplknppmaepinaaW.PrintWords Go.Proofs.Ytplknppmaepinaa.F
set_option maxRecDepth 100000

theorem info9 : (Try.prog.info? 9).map (fun i => (i.zero, i.size, i.bytes)) = some (some (.string ⟨#[]⟩), 1, 16) := by kernel_rfl
theorem encStr_ky (n : ByteArray) : Go.Proofs.encStr (ky n) = .string n := by simp [Go.Proofs.encStr, ky]
def nameCells (L : List S73) : List Value := L.map fun f => .string f.f0
/-- The keys, sorted, are the names in the list's own order. -/
theorem keys_sorted {D : DataW Value} {left : Lit → Bool} {ss : List (List UInt8)} {L : List S73} (h : Collected D left ss) (hl : ∀ kl, left kl = false) (hh : ∀ n : ByteArray, Maps.has D (.string (ky n)) = hasN L n) (hr : Rises L) :
    ss.length = L.length ∧ (ss.mergeSort fun x y => decide (x ≤ y)).map Go.Proofs.encStr = nameCells L := by
  have hm : ∀ x, x ∈ ss ↔ x ∈ L.map fun f => ky f.f0 := fun x => by
    have e : x = ky ⟨x.toArray⟩ := by simp [ky]
    rw [h.2 x, hl]
    rw [e, hh, hasN_iff, List.mem_map]
    simp
  have hnd : (L.map fun f => ky f.f0).Nodup := List.pairwise_map.2 (hr.imp fun hlt => ne_of_lt' hlt)
  have hp : ss.Perm (L.map fun f => ky f.f0) := (List.perm_ext_iff_of_nodup h.1 hnd).2 hm
  refine ⟨by simpa using hp.length_eq, ?_⟩
  have h1 := mergeSort_of_perm hp
  have h2 : (L.map fun f => ky f.f0).mergeSort leB = L.map fun f => ky f.f0 := by
    refine List.mergeSort_of_pairwise (List.pairwise_map.2 (hr.imp fun {a b} hlt => ?_))
    simp only [leB, decide_eq_true_eq]
    exact List.le_of_lt hlt
  have h3 : (ss.mergeSort fun x y => decide (x ≤ y)) = L.map fun f => ky f.f0 := h1.trans h2
  rw [h3, List.map_map, nameCells]
  exact List.map_congr_left fun f _ => encStr_ky f.f0
/-- slices.Sort of a row of the call's own. -/
theorem sort.calls {w : World} {base : Nat} {v : Value} {ss : List (List UInt8)} (h : w.ownsRow base 9 1 v ss.length (ss.map Go.Proofs.encStr)) (hb : base ≤ w.heap.size) (hl : ss.length < 4611686018427387904) :
    Calls Try.prog 31 #[v] w fun e w' => e = .returned (.tuple #[]) ∧ w'.ownsRow base 9 1 v ss.length ((ss.mergeSort fun x y => decide (x ≤ y)).map Go.Proofs.encStr) ∧ Below base w w' := by
  rcases h.2 with ⟨rfl, h0⟩ | ⟨g, cap, cur, rfl, h1, h2, h3, h4, h5, h6⟩
  · obtain rfl := List.eq_nil_of_length_eq_zero h0
    refine (Try.slices_Sort_string_none none 0 w).mono ?_
    rintro e w' ⟨rfl, rfl⟩
    exact ⟨rfl, by simpa using h, Below.refl _ _⟩
  · have hgl : g < w.heap.size := (Array.getElem?_eq_some_iff.1 h2).1
    refine (Try.slices_Sort_string g 0 cap ss w (holds_of_block h2 (by simpa using h6)) hgl hl).mono ?_
    rintro e w' ⟨rfl, n, os, rfl⟩
    exact ⟨rfl, ownsRow_sorted (by simp) h1 h2 h3 h4 h5, (Below.refl _ _).grown (grownBy_sorted _) hb (fun j hj => by cases hj; exact h1)⟩

/-- The first loop's head. -/
structure Names (w wr : World) (N fm : Nat) (D : DataW Value) (v : Value) (q : Nat) (left : Lit → Bool) (ss : List (List UInt8)) : Prop where
  rng : wr.ranges Try.prog 9 RH fm N (Maps.size D) D left q
  few : ss.length + q ≤ Maps.size D
  row : wr.ownsRow N 9 1 v ss.length (ss.map Go.Proofs.encStr)
  col : Collected D left ss
  bel : Below N w wr
theorem Names.next {w wr w2 w4 : World} {N fm : Nat} {D : DataW Value} {v v4 : Value} {q q2 : Nat} {left : Lit → Bool} {ss : List (List UInt8)} {x : List UInt8} {y : DataW Value} (h : Names w wr N fm D v q left ss) (hlk : left (.string x) = true) (hat : ∀ zd, D.atKey (.string x) zd = y)
    (hrg : w2.ranges Try.prog 9 RH fm N (Maps.size D) D (fun z => left z && !z.sameKey (.string x)) q2) (hlt : q2 < q) (hg : wr.grownBy w2 (some N)) (o : Obj) (ho : w4.ownsRow N 9 1 v4 (ss.length + 1) (ss.map Go.Proofs.encStr ++ [Go.Proofs.encStr x]))
    (ha : Appended (w2.alloc o) w4 9 1 v v4 ss.length) (hfm : fm < N) (hN : N ≤ w.heap.size) : Names w w4 N fm D v4 q2 (fun z => left z && !z.sameKey (.string x)) (ss ++ [x]) := by
  have row2 : w2.ownsRow N 9 1 v ss.length (ss.map Go.Proofs.encStr) := h.row.kept hg (Or.inr (row_ne_iter h.row h.rng).symm)
  refine ⟨(hrg.alloc o).kept ha.grown (row_ne_low row2 hfm) (row_ne_iter row2 hrg), ?_, by simpa using ho, h.col.step hlk hat, ?_⟩
  · have := h.few
    simp; omega
  · have b2 : Below N w w2 := h.bel.grown hg (Nat.le_trans hN h.bel.size) (fun j hj => by cases hj; exact Nat.le_refl _)
    exact (b2.alloc (Nat.le_trans hN b2.size) o).grown ha.grown (by have := b2.size; simp; omega) (fun j hj => (row2.lt j hj).1)
theorem name_at {w : World} {base : Nat} {L : List S73} {A : Option Addr} {n c : Nat} (h : w.ownsRow base 9 1 (.slice A n c) n (nameCells L)) {i : Nat} {f : S73} (hf : L[i]? = some f) : ∃ ad, A = some ad ∧ w.cell? (ad.add i) = some (.string f.f0) := by
  obtain ⟨ad, e, hc⟩ := own_news h (by
    intro h0
    have hl := (List.getElem?_eq_some_iff.1 hf).1
    have h1 := congrArg List.length h0
    simp [nameCells] at h1
    simp [h1] at hl)
  exact ⟨ad, e, hc i _ (by simp [nameCells, hf])⟩
theorem own_type9 {w : World} {base base' : Nat} {n m : Nat} {v u : Value} {xs ys : List Value} (h : w.ownsRow base 9 1 v n xs) (h' : w.ownsRow base' 73 2 u m ys) : v.ownBlock = none ∨ v.ownBlock ≠ u.ownBlock := own_type_ne h h' (by decide)
/-- The second loop's head. -/
structure Told (w wr : World) (N : Nat) (v u : Value) (L : List S73) (i : Nat) : Prop where
  files : FilesAt wr (fun k => N ≤ k) u (L.take i)
  names : wr.ownsRow N 9 1 v L.length (nameCells L)
  bel : Below N w wr
theorem Told.next {w wr w3 w4 : World} {N : Nat} {v u u4 x : Value} {L : List S73} {f : S73} {i : Nat} {cs : List Value} (h : Told w wr N v u L i) (hf : L[i]? = some f) (hok : ∀ g, u.ownBlock = some g → N ≤ g) (hfc : FileCells wr (fun k => N ≤ k) (L.take i) cs) (how : wr.ownsRow 0 73 2 u i cs)
    (hb : Below wr.heap.size wr w3) (hN : N ≤ w.heap.size) (hd : DataAt w3 (fun k => N ≤ k) x f.f1) (ho : w4.ownsRow 0 73 2 u4 (i + 1) (cs ++ [.string f.f0, x])) (ha : Appended (w3.alloc (.cells #[.string f.f0, x] 73)) w4 73 2 u u4 i) : Told w w4 N v u4 L (i + 1) := by
  have hil := (List.getElem?_eq_some_iff.1 hf).1
  have hal : Below w3.heap.size w3 (w3.alloc (.cells #[.string f.f0, x] 73)) := (Below.refl _ w3).alloc (Nat.le_refl _) _
  have hb' := hb.trans (hal.mono hb.size)
  have hle := Nat.le_trans hN h.bel.size
  have k := files_next (by rw [List.length_take]; omega) hok hfc how hb' hle (hd.keep (Keeps.below hal)) ho ha
  have r1 : (w3.alloc (.cells #[.string f.f0, x] 73)).ownsRow N 9 1 v L.length (nameCells L) := ownsRow_keep (ok := fun _ => True) h.names (Keeps.below hb') (fun _ _ => trivial)
  have r2 : (w3.alloc (.cells #[.string f.f0, x] 73)).ownsRow 0 73 2 u i cs := ownsRow_keep (ok := fun _ => True) how (Keeps.below hb') (fun _ _ => trivial)
  exact ⟨by rw [take_next hf]; exact k.1, ha.keeps _ _ _ _ _ _ r1 ((own_type9 r1 r2).imp id fun q => .inl q), h.bel.trans k.2⟩
set_option maxHeartbeats 8000000 in
theorem files.calls {w : World} {ok : Nat → Prop} {sb : Nat} {s : Sh} (h : ShelfAt w ok sb s) (hg : Good s) :
    Calls Try.prog 11 #[.pointer (some ⟨sb, 0, none⟩)] w fun e w' => ∃ v, e = .returned v ∧ FilesAt w' (fun k => w.heap.size ≤ k) v s.L ∧ Below w.heap.size w w' := by
  obtain ⟨i0, hi, hz0, hz1, hz2⟩ := info_parts info9
  obtain ⟨j0, hj, hy0, hy1, hy2⟩ := info_parts info73
  obtain ⟨fm, pm, am, cv, h1, h2, -⟩ := h.out
  obtain ⟨D, h3, h4, h5, h6⟩ := h2.out
  have hfl := h2.lt
  have hn : s.L.length ≤ 64 := hg.few
  have c0 : w.cell? ⟨sb, 0, none⟩ = some (.map (some fm)) := h1.cell 0
  have HC0 := Lib.hid c0
  have HOW := Lib.hid h3; clear h3
  have HF := Lib.hid h2; clear h2 h6 h1 h
  have HSZ := Lib.hid h4
  have HHAS := Lib.hid h5; clear h5
  have HR : Hid (Rises s.L) := hg.rises
  have HNM : Hid (∀ f ∈ s.L, f.f0.size ≤ maxLen ∧ f.f1.length ≤ 16777216) := fun f hf => by
    have := len_sz hf
    have := hg.fits
    have := hg.room1
    have hk := hg.names f hf
    simp only [nmOK, Bool.and_eq_true, decide_eq_true_eq] at hk
    exact ⟨by simp only [maxLen]; omega, by omega⟩
  clear hg
  have HI := Lib.hid hi; clear hi
  have HZ0 := Lib.hid hz0; clear hz0
  have HZ1 := Lib.hid hz1; clear hz1
  have HZ2 := Lib.hid hz2; clear hz2
  have HJ := Lib.hid hj; clear hj
  have HY0 := Lib.hid hy0; clear hy0
  have HY1 := Lib.hid hy1; clear hy1
  have HY2 := Lib.hid hy2; clear hy2
  go_enter Try.func11, Try.ntmps11
  go_wp2_with (first
    | (at_range; refine wpList_range_own _ rfl _ 80 rfl 9 39 lawS Try.underlying80 RH fm (Maps.size D) D rfl HOW.out ?_; intro w0 hrg0 hg0 hs0)
    | fail)
  go_frame
  have HFM : Hid (fm < w.heap.size) := Lib.hid hfl
  have H0 : Hid (Names w w0 w.heap.size fm D (.slice none 0 0) (Maps.size D) (Maps.has D) []) :=
    ⟨hrg0, by simp, own_nil _ _ _ _, Collected.start D, (Below.refl _ _).grown hg0 (Nat.le_refl _) (fun j hj => by cases hj)⟩
  clear hrg0 hg0 hs0 hfl c0 h4
  obtain ⟨N, hN⟩ : ∃ N, w.heap.size = N := ⟨_, rfl⟩
  have HN := Lib.hid hN
  rw [hN] at H0 HFM ⊢
  clear hN
  go_loopg [3] (Maps.size D) (fun q v wr => ∃ cnt left ss, q = cnt ∧ Hid (Names w wr N fm D v cnt left ss))
  case atStart => exact ⟨_, _, [], rfl, H0.out⟩
  case round =>
    clear H0
    obtain ⟨cnt, left, ss, hq, H⟩ := hrel
    go_wp2_with (first
      | (at_next; refine wpList_next_ranges _ rfl _ rfl 9 lawS RH Go.Proofs.encStr (fun v : Value => v) (fun key kl hk => by obtain ⟨x, hx, _⟩ := Maps.keyOf_str Try.underlying9 hk; exact ⟨x, hx⟩) (fun v y hv => ⟨v, rfl⟩) fm N (Maps.size D) D left cnt rfl H.out.rng ?_ ?_)
      | fail)
    · intro hc0 hl0
      obtain ⟨hlen, hsort⟩ := keys_sorted H.out.col hl0 HHAS.out HR.out
      have HL := Lib.hid hl0; clear hl0 hc0 hq
      obtain ⟨A3, c3, rfl⟩ := own_slice H.out.row
      have HROW : Hid (wr.ownsRow N 9 1 (.slice A3 s.L.length c3) ss.length (ss.map Go.Proofs.encStr)) := by
        have := H.out.row
        rw [hlen] at this ⊢
        exact this
      have HBEL : Hid (Below N w wr) := H.out.bel
      have HLEN := Lib.hid hlen
      have HSORT := Lib.hid hsort; clear hsort
      rw [hlen]
      clear hlen H
      go_wp2_with (first
        | (go_at_call 31; refine (sort.calls HROW.out (Nat.le_trans (HN.out ▸ Nat.le_refl _) HBEL.out.size) (by have := HLEN.out; omega)).mono ?_; rintro e w1 ⟨rfl, hrow1, hb1⟩
           have HR1 : Hid (w1.ownsRow N 9 1 (.slice A3 s.L.length c3) s.L.length (nameCells s.L)) := by rw [HSORT.out, HLEN.out] at hrow1; exact hrow1
           have HB1 : Hid (Below N w w1) := HBEL.out.trans hb1
           clear hrow1 hb1)
        | (at_make; refine wpList_make_own _ rfl _ _ 22 rfl N 73 j0 _ 2 Try.underlying22 HJ.out HY0.out HY1.out .i64 .i64 _ s.L.length rfl rfl rfl (by rw [HY2.out]; omega) (by simp only [maxLen]; omega) (Nat.le_trans (HN.out ▸ Nat.le_refl _) HB1.out.size) ?_; intro w2 ho2 hg2
           have H2 : Hid (Told w w2 N (.slice A3 s.L.length c3) (.slice (some ⟨w1.heap.size, 0, none⟩) 0 s.L.length) s.L 0) :=
             ⟨⟨fun g hg => own_ge ho2 g hg, [], .nil, own_low ho2 (Nat.zero_le _)⟩, HR1.out.kept hg2 (by cases (Value.slice A3 s.L.length c3).ownBlock <;> simp), HB1.out.grown hg2 (Nat.le_trans (HN.out ▸ Nat.le_refl _) HB1.out.size) (fun j hj => by cases hj)⟩
           clear ho2 hg2)
        | fail)
      go_loopg [5, 28] s.L.length (fun q u v wr => ∃ i : Nat, q + i = s.L.length ∧ v = .int .i64 (i : Nat) ∧ Hid (Told w wr N (.slice A3 s.L.length c3) u s.L i))
      case atStart => exact ⟨0, by simp, rfl, H2.out⟩
      case round =>
        clear H2
        rename World => wr2
        obtain ⟨i, hi, rfl, H⟩ := hrel
        by_cases hlt : i < s.L.length
        · obtain ⟨f, hf⟩ : ∃ f, s.L[i]? = some f := ⟨_, List.getElem?_eq_getElem hlt⟩
          obtain ⟨ad, rfl, e0⟩ := name_at H.out.names hf
          have hmem := List.mem_of_getElem? hf
          have hsize := (HNM.out f hmem).1
          have HFL : Hid (f.f1.length ≤ 16777216) := (HNM.out f hmem).2
          have HBW : Hid (Below w.heap.size w wr2) := by have := H.out.bel; rw [← HN.out] at this; exact this
          have hbw : ∀ {ok : Nat → Prop}, Keeps ok w wr2 := Keeps.below HBW.out
          obtain ⟨ov, hlk, -, hdat⟩ := HF.out.look hsize
          have hlk0 := (hlk wr2 hbw).2
          obtain ⟨A1, c1, rfl, _, hc1⟩ := (hdat f hmem rfl).slice
          have HC1 : Hid (Kd.C (Kd.int .u8) wr2 A1 f.f1.length f.f1) := Kd.C_below hc1 HBW.out
          have c0 : wr2.cell? ⟨sb, 0, none⟩ = some (.map (some fm)) := Below.cellS HBW.out HC0.out
          have HFF := Lib.hid hf
          clear hlk hdat hc1 hmem hsize hf hbw
          have hi0 : (0 : Int) ≤ (i : Int) := Int.natCast_nonneg _
          have hi1 : (i : Int) < (s.L.length : Int) := Int.ofNat_lt.2 hlt
          obtain ⟨cs, HX⟩ : ∃ cs, Hid (FileCells wr2 (fun k => N ≤ k) (s.L.take i) cs ∧ wr2.ownsRow 0 73 2 u5 i cs ∧ (∀ g, u5.ownBlock = some g → N ≤ g)) := by
            obtain ⟨k1, cs, k2, k3⟩ := H.out.files
            have hl : (s.L.take i).length = i := by rw [List.length_take]; omega
            rw [hl] at k3
            exact ⟨cs, k2, k3, k1⟩
          have HIL : Hid (i < 64) := by show _ < _; omega
          go_wp2_with (first
            | (go_at_call 32; refine (fresh.calls A1 c1 f.f1 wr2 HC1.out (by have := HFL.out; omega)).mono ?_; rintro e w3 ⟨v3, rfl, hdat, hbl⟩
               have HB3 : Hid (Below wr2.heap.size wr2 w3) := hbl
               have HD3 : Hid (DataAt w3 (fun k => N ≤ k) v3 f.f1) := hdat.mono fun k hk => Nat.le_trans (Nat.le_trans (HN.out ▸ Nat.le_refl _) H.out.bel.size) hk
               have HO3 : Hid (w3.ownsRow 0 73 2 u5 i cs) := ownsRow_keep (ok := fun _ => True) HX.out.2.1 (Keeps.below hbl) (fun _ _ => trivial)
               obtain ⟨A6, c6, rfl, _, _⟩ := hdat.slice
               clear hdat hbl)
            | (at_builtin; refine append1 (w := w3) rfl (.tmp 32) (.tmp 42) 22 73 rfl 0 _ 2 40 Try.underlying22 info73 rfl u5 i cs rfl HO3.out [.string f.f0, .slice A6 f.f1.length c6] rfl rfl (by simp [Value.oneCell']) (by have := HIL.out; simp only [maxLen]; omega) (by have := HIL.out; omega) (Nat.zero_le _) ?_)
            | fail)
          intro v4 w4 ho4 ha4
          obtain ⟨A4, c4, rfl⟩ := own_slice ho4
          have HNX : Hid (Told w w4 N (.slice (some ad) s.L.length c3) (.slice A4 (i + 1) c4) s.L (i + 1)) := H.out.next HFF.out HX.out.2.2 HX.out.1 HX.out.2.1 HB3.out (HN.out ▸ Nat.le_refl _) HD3.out ho4 ha4
          have hiw : wrap64 ((i : Int) + 1) = ((i + 1 : Nat) : Int) := by have := HIL.out; rw [IntWalk.wrap64_in _ (by omega)]; rfl
          clear ho4 ha4 hlk0 c0 e0 hi0 hi1 HX H
          go_wp2
          go_roundg (s.L.length - (i + 1))
          case measure => clear hiw; omega
          case rel => exact ⟨i + 1, by clear hiw; omega, by first | rfl | rw [hiw], HNX.out⟩
        · obtain rfl : i = s.L.length := by omega
          have HT : Hid (FilesAt wr2 (fun k => N ≤ k) u5 s.L ∧ Below N w wr2) := by have := H.out.files; rw [List.take_length] at this; exact ⟨this, H.out.bel⟩
          clear H
          go_wp2
          go_ret
          exact ⟨u5, rfl, by rw [HN.out]; exact HT.out.1, by rw [HN.out]; exact HT.out.2⟩
    · intro x c kl yd yp w2 cnt2 hkey hlk hv hat hrg2 hlt hg2 hs2 hen
      obtain ⟨x', ex, rfl, hxl⟩ := Maps.keyOf_str Try.underlying9 hkey
      obtain rfl : x = x' := encStr_inj ex
      have HX : Hid ((left (.string x) = true) ∧ (∀ zd, D.atKey (.string x) zd = yd) ∧ w2.ranges Try.prog 9 RH fm N (Maps.size D) D (fun z => left z && !z.sameKey (.string x)) cnt2 ∧ wr.grownBy w2 (some N)) := ⟨hlk, hat, hrg2, hg2⟩
      clear hs2 hkey hlk hat hrg2 hg2 hv ex hxl
      have HROW : Hid (w2.ownsRow N 9 1 u3 ss.length (ss.map Go.Proofs.encStr)) := H.out.row.kept HX.out.2.2.2 (Or.inr (row_ne_iter H.out.row H.out.rng).symm)
      have HSS : Hid (ss.length ≤ 64) := by have := H.out.few; have := HSZ.out; show _ ≤ _; omega
      go_wp2_with (first
        | (at_builtin; refine append1 (w := w2) rfl (.tmp 17) (.tmp 19) 79 9 rfl N _ 1 16 Try.underlying79 info9 rfl u3 ss.length (ss.map Go.Proofs.encStr) rfl HROW.out [Go.Proofs.encStr x] rfl rfl (by simp [Value.oneCell', Go.Proofs.encStr]) (by have := HSS.out; simp only [maxLen]; omega) (by have := HSS.out; omega) (Nat.le_trans (HN.out ▸ Nat.le_refl _) (Nat.le_trans H.out.bel.size HX.out.2.2.2.size)) ?_)
        | fail)
      intro v4 w4 ho4 ha4
      obtain ⟨A4, c4, rfl⟩ := own_slice ho4
      have HNX : Hid (Names w w4 N fm D (.slice A4 (ss.length + 1) c4) cnt2 (fun z => left z && !z.sameKey (.string x)) (ss ++ [x])) :=
        H.out.next HX.out.1 HX.out.2.1 HX.out.2.2.1 hlt HX.out.2.2.2 _ ho4 ha4 HFM.out (HN.out ▸ Nat.le_refl _)
      clear ho4 ha4 hen
      go_wp2
      go_roundg cnt2
      case measure => omega
      case rel => exact ⟨cnt2, _, _, rfl, HNX.out⟩
end Go.Proofs.Ytplknppmaepinaa.S
/- Each: the files as they are, held fast: a copy of the map, the names sorted; what goes over them reads those alone. -/
namespace Go.Proofs.Ytplknppmaepinaa.S
open Go Go.RowKit Go.X Go.Maps Go.Sort Go.Proofs.YtplknppmaepinaaW.PrintWords Go.Proofs.Ytplknppmaepinaa.F
set_option maxRecDepth 100000

/-- Whatever bytes lie somewhere lie there still. -/
def DKept (w w' : World) : Prop := ∀ okd v bs, DataAt w okd v bs → DataAt w' okd v bs
theorem DKept.below {w w' : World} (h : Below w.heap.size w w') : DKept w w' := fun _ _ _ hd => hd.keep (Keeps.below h)
theorem DKept.trans {a b c : World} (h : DKept a b) (g : DKept b c) : DKept a c := fun okd v bs hd => g okd v bs (h okd v bs hd)
/-- Where an iterator's things lie. -/
structure It where
  nb : Nat
  mb : Nat
  cm : Nat
  A : Option Addr
  c : Nat
/-- What an iterator holds: the names in order, a map of its own. -/
structure ItAt (w : World) (okI : Nat → Prop) (X : It) (L : List S73) : Prop where
  box : Blk w X.nb 79 [.slice X.A L.length X.c]
  mbox : Blk w X.mb 80 [.map (some X.cm)]
  row : w.ownsRow 0 9 1 (.slice X.A L.length X.c) L.length (nameCells L)
  map : FMap w (fun _ => True) X.cm L
  oks : okI X.nb ∧ okI X.mb ∧ okI X.cm ∧ ∀ g, (Value.slice X.A L.length X.c).ownBlock = some g → okI g
theorem ItAt.keep {w w' : World} {okI : Nat → Prop} {X : It} {L : List S73} (h : ItAt w okI X L) (hk : Keeps okI w w') (hd : DKept w w') : ItAt w' okI X L := by
  obtain ⟨h1, h2, h3, h4, h5, h6, h7, h8⟩ := h
  obtain ⟨D, k1, k2, k3, k4⟩ := h4.out
  exact ⟨Blk.keep h1 hk h5, Blk.keep h2 hk h6, ownsRow_keep h3 hk h8, ⟨D, ownsMap_keep k1 hk h7, k2, k3, fun f hf => by obtain ⟨v, e, q⟩ := k4 f hf; exact ⟨v, e, hd _ _ _ q⟩⟩, h5, h6, h7, h8⟩
theorem ItAt.mono {w : World} {okI ok' : Nat → Prop} {X : It} {L : List S73} (h : ItAt w okI X L) (hi : ∀ k, okI k → ok' k) : ItAt w ok' X L :=
  ⟨h.1, h.2, h.3, h.4, hi _ h.5.1, hi _ h.5.2.1, hi _ h.5.2.2.1, fun g hg => hi _ (h.5.2.2.2 g hg)⟩
theorem ItAt.bound {w : World} {okI : Nat → Prop} {X : It} {L : List S73} (h : ItAt w okI X L) : ItAt w (fun k => okI k ∧ k < w.heap.size) X L :=
  ⟨h.1, h.2, h.3, h.4, ⟨h.5.1, h.1.lt⟩, ⟨h.5.2.1, h.2.lt⟩, ⟨h.5.2.2.1, h.4.lt⟩, fun g hg => ⟨h.5.2.2.2 g hg, own_lt h.3 g hg⟩⟩
theorem keys_perm {w : World} {b n : Nat} {D : DataW Value} {ss : List (List UInt8)} {L : List S73} (hown : w.ownsMap Try.prog 9 RH b n D) (hp : ss.Perm (strKeys D)) (hh : ∀ n : ByteArray, Maps.has D (.string (ky n)) = hasN L n) (hr : Rises L) :
    ss.length = L.length ∧ (ss.mergeSort fun x y => decide (x ≤ y)).map Go.Proofs.encStr = nameCells L := by
  have hnd : (L.map fun f => ky f.f0).Nodup := List.pairwise_map.2 (hr.imp fun hlt => ne_of_lt' hlt)
  have hc : Collected D (fun _ => false) (L.map fun f => ky f.f0) := ⟨hnd, fun x => by
    have e : x = ky ⟨x.toArray⟩ := by simp [ky]
    rw [e, hh, hasN_iff, List.mem_map]
    simp⟩
  have hq := hc.perm hown lawS Try.underlying9 (fun _ => rfl)
  have hp2 := hp.trans hq.symm
  refine ⟨by simpa using hp2.length_eq, ?_⟩
  have h1 := mergeSort_of_perm hp2
  have h2 : (L.map fun f => ky f.f0).mergeSort leB = L.map fun f => ky f.f0 := by
    refine List.mergeSort_of_pairwise (List.pairwise_map.2 (hr.imp fun {a b} hlt => ?_))
    simp only [leB, decide_eq_true_eq]
    exact List.le_of_lt hlt
  have h3 : (ss.mergeSort fun x y => decide (x ≤ y)) = L.map fun f => ky f.f0 := h1.trans h2
  rw [h3, List.map_map, nameCells]
  exact List.map_congr_left fun f _ => encStr_ky f.f0
/-- What Each leaves. -/
def EachPost (w : World) (L : List S73) (e : Ending) (w' : World) : Prop :=
  ∃ X : It, e = .returned (.func (.func 53) #[] #[.pointer (some ⟨X.nb, 0, none⟩), .pointer (some ⟨X.mb, 0, none⟩)]) ∧ ItAt w' (fun k => w.heap.size ≤ k) X L ∧ Below w.heap.size w w'
set_option maxHeartbeats 4000000 in
theorem each.calls {w : World} {ok : Nat → Prop} {sb : Nat} {s : Sh} (h : ShelfAt w ok sb s) (hg : Good s) :
    Calls Try.prog 27 #[.pointer (some ⟨sb, 0, none⟩)] w (EachPost w s.L) := by
  obtain ⟨fm, pm, am, cv, h1, h2, -⟩ := h.out
  have c0 : w.cell? ⟨sb, 0, none⟩ = some (.map (some fm)) := h1.cell 0
  obtain ⟨D, k1, k2, k3, k4⟩ := h2.out
  have k1' := k1
  obtain ⟨es, clock, hes, hFt, hs1, hs2⟩ := k1
  have hmax : Maps.size D ≤ 64 := by rw [k2]; exact hg.few
  have ho1 : (w.alloc (.map es clock)).ownsMap Try.prog 9 RH w.heap.size (Maps.size D) D := ⟨es, clock, heap_alloc_new w _, hFt, hs1, hs2⟩
  have hb1 : Below w.heap.size w (w.alloc (.map es clock)) := (Below.refl _ _).alloc (Nat.le_refl _) _
  have hs1 : (w.alloc (.map es clock)).heap.size = w.heap.size + 1 := by simp
  have HES := Lib.hid hes
  have HR : Hid (∀ ss : List (List UInt8), ss.Perm (strKeys D) → ss.length = s.L.length ∧ (ss.mergeSort fun x y => decide (x ≤ y)).map Go.Proofs.encStr = nameCells s.L) := fun ss hp => keys_perm k1' hp k3 hg.rises
  have HFM : Hid (FMap (w.alloc (.map es clock)) (fun _ => True) w.heap.size s.L) := ⟨D, ho1, k2, k3, fun f hf => by obtain ⟨v, e, q⟩ := k4 f hf; exact ⟨v, e, (q.mono fun _ _ => trivial).keep (Keeps.below hb1)⟩⟩
  have HMX := Lib.hid hmax
  have HO1 := Lib.hid ho1
  have HB1 := Lib.hid (And.intro hb1 hs1)
  clear h1 h2 h k1' hes hFt hs1 hs2 k2 k3 k4 ho1 hb1 hmax hg
  go_enter Try.func27, Try.ntmps27
  go_wp2_with (first
    | (go_at_call 50; refine (AnyW.maps_Clone Try.clone50 fm es clock w HES.out).mono ?_; rintro e w1 ⟨rfl, rfl⟩)
    | fail)
  clear c0 HES
  generalize w.alloc (.map es clock) = w1 at *
  have HB2 : Hid (Below w1.heap.size w1 (w1.alloc (.cells #[.map (some w.heap.size)] 80)) ∧ Blk (w1.alloc (.cells #[.map (some w.heap.size)] 80)) w1.heap.size 80 [.map (some w.heap.size)]) := ⟨(Below.refl _ _).alloc (Nat.le_refl _) _, Blk.alloc w1 _ _⟩
  have HO2 : Hid ((w1.alloc (.cells #[.map (some w.heap.size)] 80)).ownsMap Try.prog 9 RH w.heap.size (Maps.size D) D) := ownsMap_keep (ok := fun _ => True) HO1.out (Keeps.below HB2.out.1) trivial
  generalize w1.alloc (.cells #[.map (some w.heap.size)] 80) = w2 at *
  have HB3 : Hid (Below w2.heap.size w2 (w2.alloc (.cells #[.map (some w.heap.size)] 80))) := (Below.refl _ _).alloc (Nat.le_refl _) _
  have HSO := Lib.hid (callsIn_wide.1 (Try.slices_Sorted_keys_51_52 w.heap.size _ D RH w2 HO2.out (by have := HMX.out; simp only [maxLen]; omega) (by have := HMX.out; omega)))
  go_wp2_with (first
    | (go_at_call 52; refine (callsIn_wide.1 (Try.maps_Keys_52 (some w.heap.size) w2)).mono ?_; rintro e w3 ⟨rfl, rfl⟩)
    | (go_at_call 51; refine HSO.out.mono ?_; rintro e w4 ⟨v4, ss, rfl, hp4, hr4, -, hb4⟩
       obtain ⟨hl4, hc4⟩ := HR.out ss hp4
       rw [hl4, hc4] at hr4
       obtain ⟨A4, c4, rfl⟩ := own_slice hr4
       have HR4 := Lib.hid hr4
       have HB4 : Hid (Below w2.heap.size w2 w4) := HB3.out.trans (hb4.mono HB3.out.size)
       clear hp4 hr4 hb4 hl4 hc4)
    | fail)
  have HB5 : Hid (Below w4.heap.size w4 (w4.alloc (.cells #[.slice A4 s.L.length c4] 79)) ∧ Blk (w4.alloc (.cells #[.slice A4 s.L.length c4] 79)) w4.heap.size 79 [.slice A4 s.L.length c4]) := ⟨(Below.refl _ _).alloc (Nat.le_refl _) _, Blk.alloc w4 _ _⟩
  generalize w4.alloc (.cells #[.slice A4 s.L.length c4] 79) = w5 at *
  go_ret
  have b15 : Below w1.heap.size w1 w5 := HB2.out.1.trans ((HB4.out.mono HB2.out.1.size).trans (HB5.out.1.mono (Nat.le_trans HB2.out.1.size HB4.out.size)))
  have b25 : Below w2.heap.size w2 w5 := HB4.out.trans (HB5.out.1.mono HB4.out.size)
  have hsz := HB1.out.2
  refine ⟨⟨w4.heap.size, w.heap.size + 1, w.heap.size, A4, c4⟩, rfl, ⟨HB5.out.2, ?_, ownsRow_keep (ok := fun _ => True) (own_low HR4.out (Nat.zero_le _)) (Keeps.below HB5.out.1) (fun _ _ => trivial), HFM.out.keep (Keeps.below b15) trivial, ?_, ?_, Nat.le_refl _, fun g hg => ?_⟩, HB1.out.1.trans (b15.mono HB1.out.1.size)⟩
  · have := HB2.out.2.below b25 HB2.out.2.lt
    rw [hsz] at this
    exact this
  · exact Nat.le_trans HB1.out.1.size (Nat.le_trans HB2.out.1.size HB4.out.size)
  · show w.heap.size ≤ w.heap.size + 1
    omega
  · have h1 := own_base HR4.out g hg
    have h2 := HB3.out.size
    have h3 := HB2.out.1.size
    have h4 := HB1.out.1.size
    omega
end Go.Proofs.Ytplknppmaepinaa.S
/- What Each hands back, called: each file in turn, its bytes copied anew. -/
namespace Go.Proofs.Ytplknppmaepinaa.S
open Go Go.RowKit Go.X Go.Maps Go.Sort Go.Proofs.YtplknppmaepinaaW.PrintWords Go.Proofs.Ytplknppmaepinaa.F
attribute [local go_sem] Oper.semAt_some
set_option maxRecDepth 100000
set_option maxHeartbeats 4000000 in
theorem each1.calls (n l : Nat) (X : It) (L : List S73) (J : Nat → World → Prop) (Jx : Nat → World → Prop) (W : World) (hn : 1 ≤ n)
    (hIt : ∀ k W, J k W → ∃ okI, ItAt W okI X L) (hJ : ∀ k W W', J k W → Below W.heap.size W W' → J k W')
    (hY : ∀ k f v W0 W, L[k]? = some f → J k W0 → Below W0.heap.size W0 W → DataAt W (fun g => W0.heap.size ≤ g) v f.f1 → YieldAt Fence.wide (n - 1) Try.prog l #[.string f.f0, v] W fun e W' => (e = .returned (.bool true) ∧ J (k + 1) W') ∨ (e = .returned (.bool false) ∧ Jx k W'))
    (h0 : J 0 W) (_hr : Rises L) (hL : L.length ≤ 64) (hm : ∀ f ∈ L, f.f0.size ≤ maxLen ∧ f.f1.length ≤ 16777216) :
    CallsIn Fence.wide n Try.prog 53 #[.func (.yield l) #[] #[], .pointer (some ⟨X.nb, 0, none⟩), .pointer (some ⟨X.mb, 0, none⟩)] W fun e W' => (∃ v, e = .returned v) ∧ (J L.length W' ∨ ∃ k, Jx k W') := by
  have HIT := Lib.hid hIt; clear hIt
  have HJJ := Lib.hid hJ; clear hJ
  have HY := Lib.hid hY; clear hY
  have H0 := Lib.hid h0; clear h0
  have HM := Lib.hid hm; clear hm
  obtain ⟨nb, mb, cm, A, c⟩ := X
  have c0 : W.cell? ⟨nb, 0, none⟩ = some (.slice A L.length c) := by
    obtain ⟨okI, hI⟩ := HIT.out 0 W H0.out
    exact hI.box.cell 0
  refine callsIn_of_wp Try.func53 rfl trivial ?_ rfl
  simp only [Try.ntmps53, List.size_toArray, List.length_cons, List.length_nil, Nat.reduceAdd, Nat.reduceSub, Array.replicate_succ, Array.replicate_zero, List.push_toArray, List.append_toArray, List.nil_append, List.cons_append]
  gi_wp2
  clear c0
  gi_loopw [8] (fun v wr => ∃ k : Nat, v = .int .i64 (k : Nat) ∧ k ≤ L.length ∧ Hid (J k wr)) (fun v _ => L.length - (intOf v).toNat)
  case atStart => exact ⟨0, rfl, Nat.zero_le _, H0.out⟩
  case round =>
    clear H0
    obtain ⟨k, rfl, hk, HK⟩ := hrel
    by_cases hlt : k < L.length
    · obtain ⟨f, hf⟩ : ∃ f, L[k]? = some f := ⟨_, List.getElem?_eq_getElem hlt⟩
      obtain ⟨okI, hI⟩ := HIT.out k wr HK.out
      have hne : nameCells L ≠ [] := by intro h; have h2 := congrArg List.length h; simp only [nameCells, List.length_map, List.length_nil] at h2; omega
      obtain ⟨ad, eA, hc⟩ := own_news hI.row hne
      have eA' : A = some ad := eA
      subst eA'
      have c1 : wr.cell? (ad.add k) = some (.string f.f0) := hc k _ (by simp [nameCells, hf])
      have c2 : wr.cell? ⟨mb, 0, none⟩ = some (.map (some cm)) := hI.mbox.cell 0
      obtain ⟨v0, hlk, -, hdat⟩ := hI.map.look (HM.out f (List.mem_of_getElem? hf)).1
      obtain ⟨Av, cv, rfl, _, hC⟩ := (hdat f (List.mem_of_getElem? hf) rfl).slice
      have hlk0 := (hlk wr (Keeps.refl _ _)).2
      have HC := Lib.hid (And.intro hC (HM.out f (List.mem_of_getElem? hf)).2)
      have HF := Lib.hid hf
      have hk0 : (0 : Int) ≤ (k : Int) := Int.natCast_nonneg _
      have hk1 : (k : Int) < (L.length : Int) := Int.ofNat_lt.2 hlt
      have hkw : wrap64 ((k : Int) + 1) = ((k + 1 : Nat) : Int) := by rw [IntWalk.wrap64_in _ (by omega)]; rfl
      clear hlk hdat hC hf hI hne hc eA
      gi_wp2_with (first
        | (refine ⟨trivial, ?_⟩; gi_at_call 32; refine (callsIn_wide.2 (fresh.calls Av cv f.f1 wr HC.out.1 (by have := HC.out.2; omega))).mono ?_; rintro e w5 ⟨v5, rfl, hd5, hb5⟩
           obtain ⟨fn, tmps, assign, body, hy, hR⟩ := HY.out k f v5 wr w5 HF.out HK.out hb5 hd5
           clear hd5 hb5)
        | fail)
      clear c1 c2 hlk0
      refine hR.mono ?_
      clear hR
      rintro e W3 (⟨rfl, hJ3⟩ | ⟨rfl, hJx3⟩)
      · have HN := Lib.hid hJ3; clear hJ3
        gi_wp2
        go_roundw
        case rel => exact ⟨k + 1, by first | rfl | rw [hkw], by clear hkw; omega, HN.out⟩
        case measure => show L.length - ((k : Int) + 1).toNat < L.length - (k : Int).toNat; omega
      · have HN := Lib.hid hJx3; clear hJx3
        gi_wp2
        refine bodyPost_ret (results_none rfl _ _ _) rfl ?_
        exact ⟨⟨_, rfl⟩, .inr ⟨k, HN.out⟩⟩
    · have hk1 : ¬ (k : Int) < (L.length : Int) := by omega
      have HE : Hid (J L.length wr) := by have : k = L.length := by omega
                                          rw [← this]; exact HK.out
      gi_wp2
      go_end0
      exact ⟨⟨_, rfl⟩, .inl HE.out⟩
end Go.Proofs.Ytplknppmaepinaa.S
/- The program's ask: a call is noted down, and answered with what is planned for it, or with what look finds wrong. -/
namespace Go.Proofs.Ytplknppmaepinaa.S
open Go Go.RowKit Go.X Go.Maps Go.Proofs.YtplknppmaepinaaW.PrintWords Go.Proofs.Ytplknppmaepinaa.F
set_option maxRecDepth 100000

/-- What a call of kind c is answered. -/
def askE (s : Sh) (c : Int) (n : ByteArray) (look : Int) : Int := if planF s.plan c ((cntL s.all c : Int) + 1) ≠ 0 then planF s.plan c ((cntL s.all c : Int) + 1) else if nmOK n then look else 10
def Sh.note (s : Sh) (c : Int) (n : ByteArray) (e : Int) : Sh := { s with all := s.all ++ [⟨c, n, e⟩] }
/-- A call's look: it reads, no more; whatever was turned in memory but for the cells and the files' map. -/
def Looks (f : FuncId) (caps : Array Value) (w : World) (fm : Nat) (L : List S73) (lk : Int) : Prop :=
  ∀ W, (∀ b t cs, Blk w b t cs → Blk W b t cs) → (∀ ok, FMap w ok fm L → FMap W ok fm L) → Calls Try.prog f caps W fun e w' => e = .returned (.int .i64 lk) ∧ Below W.heap.size W w'
theorem ask_end {w w1 W2 w3 w4 : World} {ok : Nat → Prop} {sb fm pm am : Nat} {cv cv' : Value} {s : Sh} {c e : Int} {n : ByteArray} {o : Obj}
    (h1 : Blk w sb 84 [.map (some fm), .int .i64 s.room, .int .i64 (szL s.L), .map (some pm), .map (some am), cv]) (h2 : FMap w ok fm s.L) (h3 : PMap w pm s.plan) (h5 : w.ownsRow 0 102 3 cv s.all.length (callCells s.all)) (h6 : ok sb ∧ ok fm ∧ ok pm ∧ ok am ∧ ∀ g, cv.ownBlock = some g → ok g) (h7 : fm ≠ pm ∧ fm ≠ am ∧ pm ≠ am)
    (ht : w.mapTurned w1 am) (ha : AMap w1 am (s.all ++ [⟨c, n, e⟩])) (hm : ∃ D : DataW Value, w.ownsMap Try.prog 3 (plainElem Try.prog 3) am (Maps.size D) D) (hb : Below w1.heap.size w1 W2) (hap : Appended (W2.alloc o) w3 102 3 cv cv' s.all.length) (hr : w3.ownsRow 0 102 3 cv' (s.all.length + 1) (callCells s.all ++ [.int .i64 c, .string n, .int .i64 e]))
    (he : w4 = w3.setCell ⟨sb, 5, none⟩ cv') : ShelfAt w4 (fun k => ok k ∨ w.heap.size ≤ k) sb (s.note c n e) ∧ But (fun k => (k = am ∨ k = sb) ∨ cv.ownBlock = some k) w w4 ∧ ∀ okd v bs, DataAt w okd v bs → DataAt w4 okd v bs := by
  subst he
  obtain ⟨Da, hma⟩ := hm
  have g1 := ht.grown
  have hal : Below w1.heap.size w1 (W2.alloc o) := hb.trans (((Below.refl _ W2).alloc (Nat.le_refl _) o).mono hb.size)
  have nam : No5 w (some am) := No5.map hma
  have nsb : No5 w (some sb) := No5.blk h1 (by decide)
  have ncv : No5 w cv.ownBlock := No5.row h5 (by decide)
  have sbam : sb ≠ am := fun e => ownsMap_ne_blk hma h1 e.symm
  have sbcv : ∀ g, cv.ownBlock = some g → g ≠ sb := fun g hg => row_ne_blk h5 h1 (by decide) hg
  have amcv : some am ≠ cv.ownBlock := ownsMap_ne_row hma h5
  have g5 := grown_setCell w3 ⟨sb, 5, none⟩ cv'
  have B : But (fun k => (k = am ∨ k = sb) ∨ cv.ownBlock = some k) w (w3.setCell ⟨sb, 5, none⟩ cv') :=
    (((But.of_grown g1 fun k e => by cases e; exact .inl (.inl rfl)).trans2 (But.of_below hal)).trans2 (But.of_grown hap.grown fun k e => .inr e)).trans2 (But.of_grown g5 fun k e => by cases e; exact .inl (.inr rfl))
  have nS : ∀ b, ((b = am ∨ b = sb) ∨ cv.ownBlock = some b) → No5 w (some b) := fun b hb => by
    rcases hb with (rfl | rfl) | hb
    · exact nam
    · exact nsb
    · rw [← hb]; exact ncv
  have b1 : Blk w1 sb 84 _ := h1.grown g1 (fun e => sbam (by injection e))
  have b2 : Blk (W2.alloc o) sb 84 _ := b1.below hal b1.lt
  have b3 : Blk w3 sb 84 _ := b2.grown hap.grown (fun e => sbcv sb e.symm rfl)
  have r1 : w1.ownsRow 0 102 3 cv s.all.length (callCells s.all) := h5.kept g1 (by
    cases hv : cv.ownBlock with
    | none => exact .inl rfl
    | some g => exact .inr fun e => amcv (by rw [hv, e]))
  have fmS : ¬ ((fm = am ∨ fm = sb) ∨ cv.ownBlock = some fm) := fun h => by
    obtain ⟨D, k1, _⟩ := h2.out
    rcases h with (h | h) | h
    · exact h7.2.1 h
    · exact ownsMap_ne_blk k1 h1 h
    · exact ownsMap_ne_row k1 h5 h.symm
  have pmS : ¬ ((pm = am ∨ pm = sb) ∨ cv.ownBlock = some pm) := fun h => by
    obtain ⟨D, k1, _⟩ := h3
    rcases h with (h | h) | h
    · exact h7.2.2 h
    · exact ownsMap_ne_blk k1 h1 h
    · exact ownsMap_ne_row k1 h5 h.symm
  have pl : ∀ g, cv'.ownBlock = some g → cv.ownBlock = some g ∨ w.heap.size ≤ g := fun g hg => by
    rcases hap.place with h | ⟨h, _⟩
    · exact .inl (by rw [← h]; exact hg)
    · rw [h] at hg
      injection hg with hg
      have := g1.size
      have := hal.size
      exact .inr (by omega)
  have hA : AMap (w3.setCell ⟨sb, 5, none⟩ cv') am (s.all ++ [⟨c, n, e⟩]) := by
    obtain ⟨D, k1, k2⟩ := ha
    have q1 := ownsMap_keep k1 (ok := fun _ => True) (Keeps.below hal) trivial
    have q2 := ownsMap_keep q1 (ok := fun k => k = am) (fun k hk hlt => by cases hk; exact hap.grown.block _ hlt amcv) rfl
    exact ⟨D, ownsMap_keep q2 (ok := fun k => k = am) (fun k hk hlt => by cases hk; exact g5.block _ hlt (fun e => sbam (by injection e with e; exact e.symm))) rfl, k2⟩
  refine ⟨⟨fm, pm, am, cv', b3.setCell 5 cv', ((h2.but B fmS nS).mono fun k hk => .inl hk), h3.keep (fun k hk hlt => by cases hk; exact B.block _ hlt pmS), hA, ?_, ⟨.inl h6.1, .inl h6.2.1, .inl h6.2.2.1, .inl h6.2.2.2.1, fun g hg => (pl g hg).imp (h6.2.2.2.2 g) id⟩, h7⟩, B, fun okd v bs hd => hd.but B nS⟩
  show (w3.setCell ⟨sb, 5, none⟩ cv').ownsRow 0 102 3 cv' (s.all ++ [(⟨c, n, e⟩ : S102)]).length (callCells (s.all ++ [⟨c, n, e⟩]))
  rw [callCells_append, List.length_append]
  refine hr.kept g5 ?_
  cases hv : cv'.ownBlock with
  | none => exact .inl rfl
  | some g => exact .inr fun e => row_ne_blk hr b3 (by decide) hv (by injection e)

theorem FMap.below {w w' : World} {ok : Nat → Prop} {fm : Nat} {L : List S73} (h : FMap w ok fm L) (hb : Below w.heap.size w w') : FMap w' ok fm L := h.but (S := fun _ => False) (But.of_below hb) id (fun _ hb => hb.elim)
theorem missing.calls {w : World} {ok : Nat → Prop} {sb fm : Nat} {L : List S73} {rest : List Value} {n : ByteArray} (h1 : Blk w sb 84 (.map (some fm) :: rest)) (h2 : FMap w ok fm L) (hn : n.size ≤ maxLen) :
    Calls Try.prog 42 #[.pointer (some ⟨sb, 0, none⟩), .string n] w fun e w' => e = .returned (.int .i64 (if hasN L n then 0 else 11)) ∧ w' = w := by
  have c0 : w.cell? ⟨sb, 0, none⟩ = some (.map (some fm)) := h1.cell 0
  obtain ⟨ov, hlk, -, -⟩ := h2.look hn
  have hl := (hlk w (Keeps.refl _ _)).1
  clear hlk h1 h2
  cases hb : hasN L n
  · rw [hb] at hl
    clear hb
    go_enter Try.func42, Try.ntmps42
    go_wp2
    go_ret
    exact ⟨rfl, rfl⟩
  · rw [hb] at hl
    clear hb
    go_enter Try.func42, Try.ntmps42
    go_wp2
    go_ret
    exact ⟨rfl, rfl⟩
/-- Read's and Remove's look. -/
theorem readLook.calls {w : World} {ok : Nat → Prop} {sb fm b1 b2 : Nat} {L : List S73} {rest : List Value} {n : ByteArray} (h1 : Blk w sb 84 (.map (some fm) :: rest)) (h2 : FMap w ok fm L) (hn : n.size ≤ maxLen) (h3 : Blk w b1 27 [.pointer (some ⟨sb, 0, none⟩)]) (h4 : Blk w b2 9 [.string n]) :
    Looks 43 #[.pointer (some ⟨b1, 0, none⟩), .pointer (some ⟨b2, 0, none⟩)] w fm L (if hasN L n then 0 else 11) := by
  intro W hW hM
  have c3 : W.cell? ⟨b1, 0, none⟩ = some (.pointer (some ⟨sb, 0, none⟩)) := (hW _ _ _ h3).cell 0
  have c4 : W.cell? ⟨b2, 0, none⟩ = some (.string n) := (hW _ _ _ h4).cell 0
  have HB := Lib.hid (hW _ _ _ h1)
  have HM := Lib.hid (hM _ h2)
  clear hW hM h1 h2 h3 h4
  generalize hE : (if hasN L n then (0 : Int) else 11) = E
  have HE := Lib.hid hE; clear hE
  go_enter Try.func43, Try.ntmps43
  go_wp2_with (first
    | (go_at_call 42; refine (missing.calls HB.out HM.out hn).mono ?_; rintro e w' ⟨rfl, rfl⟩; rw [HE.out])
    | fail)
  go_ret
  exact ⟨rfl, Below.refl _ _⟩
theorem removeLook.calls {w : World} {ok : Nat → Prop} {sb fm b1 b2 : Nat} {L : List S73} {rest : List Value} {n : ByteArray} (h1 : Blk w sb 84 (.map (some fm) :: rest)) (h2 : FMap w ok fm L) (hn : n.size ≤ maxLen) (h3 : Blk w b1 27 [.pointer (some ⟨sb, 0, none⟩)]) (h4 : Blk w b2 9 [.string n]) :
    Looks 41 #[.pointer (some ⟨b1, 0, none⟩), .pointer (some ⟨b2, 0, none⟩)] w fm L (if hasN L n then 0 else 11) := by
  intro W hW hM
  have c3 : W.cell? ⟨b1, 0, none⟩ = some (.pointer (some ⟨sb, 0, none⟩)) := (hW _ _ _ h3).cell 0
  have c4 : W.cell? ⟨b2, 0, none⟩ = some (.string n) := (hW _ _ _ h4).cell 0
  have HB := Lib.hid (hW _ _ _ h1)
  have HM := Lib.hid (hM _ h2)
  clear hW hM h1 h2 h3 h4
  generalize hE : (if hasN L n then (0 : Int) else 11) = E
  have HE := Lib.hid hE; clear hE
  go_enter Try.func41, Try.ntmps41
  go_wp2_with (first
    | (go_at_call 42; refine (missing.calls HB.out HM.out hn).mono ?_; rintro e w' ⟨rfl, rfl⟩; rw [HE.out])
    | fail)
  go_ret
  exact ⟨rfl, Below.refl _ _⟩
theorem told.calls (e : Int) (w : World) : Calls Try.prog 40 #[.int .i64 e] w fun r w' => r = .returned (if e = 0 then .nilIface else .iface 42 (.int .i64 e)) ∧ w' = w := by
  by_cases h : e = 0
  · subst h
    go_enter Try.func40, Try.ntmps40
    go_wp2
    go_ret
    exact ⟨rfl, rfl⟩
  · rw [if_neg h]
    have h1 : (e == 0) = false := by simpa using h
    go_enter Try.func40, Try.ntmps40
    go_wp2
    go_ret
    exact ⟨rfl, rfl⟩

theorem run_enter {P : Program} {f : FuncId} {fn : Func} (hf : P.funcs[f]? = some fn) (hname : (fn.name == "runtime.NumGoroutine") = false) (hb : fn.body.isNone = false) (args : Array Value) (w : World) : (callFunc f args).run P w = .ok (.enter f args) w := by
  have h1 : fn.name ≠ "runtime.NumGoroutine" := by simpa using hname
  have h2 : fn.body ≠ none := fun e => by rw [e] at hb; cases hb
  simp [callFunc, hf, h1, h2]
theorem enter43 (caps : Array Value) (W : World) : (callFunc 43 caps).run Try.prog W = .ok (.enter 43 caps) W := run_enter Try.func43 (by kernel_rfl) (by kernel_rfl) caps W
theorem enter41 (caps : Array Value) (W : World) : (callFunc 41 caps).run Try.prog W = .ok (.enter 41 caps) W := run_enter Try.func41 (by kernel_rfl) (by kernel_rfl) caps W
theorem enter39 (caps : Array Value) (W : World) : (callFunc 39 caps).run Try.prog W = .ok (.enter 39 caps) W := run_enter Try.func39 (by kernel_rfl) (by kernel_rfl) caps W
/-- What ask leaves. -/
def AskPost (w : World) (ok : Nat → Prop) (sb : Nat) (s : Sh) (c : Int) (n : ByteArray) (lk : Int) (e : Ending) (w' : World) : Prop :=
  e = .returned (.int .i64 (askE s c n lk)) ∧ ShelfAt w' (fun k => ok k ∨ w.heap.size ≤ k) sb (s.note c n (askE s c n lk)) ∧ But ok w w' ∧ ∀ okd v bs, DataAt w okd v bs → DataAt w' okd v bs
set_option maxHeartbeats 4000000 in
theorem ask.calls {w : World} {ok : Nat → Prop} {sb : Nat} {s : Sh} (h : ShelfAt w ok sb s) (c : Int) (n : ByteArray) (f : FuncId) (caps : Array Value) (lk : Int) (hc : (Lit.int .i64 c).wf = true) (hall : s.all.length ≤ 1073741824) (hcf : ∀ W : World, (callFunc f caps).run Try.prog W = .ok (.enter f caps) W)
    (hlook : ∀ fm rest, Blk w sb 84 (.map (some fm) :: .int .i64 s.room :: .int .i64 (szL s.L) :: rest) → FMap w ok fm s.L → Looks f caps w fm s.L lk) :
    Calls Try.prog 38 #[.pointer (some ⟨sb, 0, none⟩), .int .i64 c, .string n, .func (.func f) #[] caps] w (AskPost w ok sb s c n lk) := by
  obtain ⟨fm, pm, am, cv, h1, h2, h3, h4, h5, h6, h7⟩ := h.out
  obtain ⟨Ac, cc, rfl⟩ := own_slice h5
  have HLK := Lib.hid (hlook fm _ h1 h2); clear hlook
  have hm : ∃ D : DataW Value, w.ownsMap Try.prog 3 (plainElem Try.prog 3) am (Maps.size D) D := by
    obtain ⟨D, k1, _⟩ := h4
    exact ⟨D, k1⟩
  have hcl := cntL_le s.all c
  obtain ⟨k, hk⟩ : ∃ k, cntL s.all c = k := ⟨_, rfl⟩
  have hla := h4.look hc w (Keeps.refl _ _)
  obtain ⟨E, hE⟩ : ∃ E, askE s c n lk = E := ⟨_, rfl⟩
  obtain ⟨w1, hrun, ha, ht⟩ := h4.store (x := ⟨c, n, E⟩) (by omega) hc
  have g1 := ht.grown
  have hla1 : ∀ q, (Instr.lookup 82 (.map (some am)) (.int .i64 c) false).run Try.prog (w1.drewN q) = .ok (.int .i64 (k + 1 : Nat)) (w1.drewN q) := fun q => by
    have := ha.look hc (w1.drewN q) (Keeps.below (drawn_drewN w1 q))
    rw [cntL_snoc, if_pos rfl, hk] at this
    exact this
  have am7 : ∀ {b : Nat} {t : TypeId} {cs : List Value}, Blk w b t cs → Blk w1 b t cs := fun hb => hb.grown g1 (fun e => by
    obtain ⟨D, k1⟩ := hm
    exact ownsMap_ne_blk k1 hb (by injection e with e; exact e.symm))
  have hp1 : PMap w1 pm s.plan := h3.keep (fun k hk hlt => by cases hk; exact g1.block _ hlt (fun e => h7.2.2 (by injection e)))
  obtain ⟨pf, hpf⟩ : ∃ pf, planF s.plan c ((k : Int) + 1) = pf := ⟨_, rfl⟩
  have hlp1 : ∀ q, (Instr.lookup 81 (.map (some pm)) (.agg #[.int .i64 c, .int .i64 ((k : Int) + 1)]) false).run Try.prog (w1.drewN q) = .ok (.int .i64 pf) (w1.drewN q) := fun q => by
    have := hp1.look hc (n := (k : Int) + 1) (WalkArith.wf_i64 (by omega)) (w1.drewN q) (Keeps.below (drawn_drewN w1 q))
    rw [hpf] at this
    exact this
  rw [hk] at hla hrun
  have hw1 : wrap64 ((k : Int) + 1) = (k : Int) + 1 := IntWalk.wrap64_in _ (by omega)
  have hask : E = if pf ≠ 0 then pf else if nmOK n then lk else 10 := by rw [← hE, askE, hk, hpf]
  have HFM1 : Hid (∀ ok', FMap w ok' fm s.L → FMap w1 ok' fm s.L) := fun ok' h => by
    obtain ⟨D, k1⟩ := hm
    exact h.but (mapTurned_but ht) h7.2.1 (fun b hb => by cases hb; exact No5.map k1)
  have c3 : w.cell? ⟨sb, 4, none⟩ = some (.map (some am)) := h1.cell 4
  have HS1 : Hid (Blk w1 sb 84 [.map (some fm), .int .i64 s.room, .int .i64 (szL s.L), .map (some pm), .map (some am), .slice Ac s.all.length cc]) := am7 h1
  have HR1 : Hid (w1.ownsRow 0 102 3 (.slice Ac s.all.length cc) s.all.length (callCells s.all)) := h5.kept g1 (by
    obtain ⟨D, k1⟩ := hm
    cases hv : (Value.slice Ac s.all.length cc).ownBlock with
    | none => exact .inl rfl
    | some g => exact .inr fun e => ownsMap_ne_row k1 h5 (by rw [hv, e]))
  have HEND : Hid (∀ (W2 w3 : World) (A4 : Option Addr) (c4 : Nat) (o : Obj), Below w1.heap.size w1 W2 → Appended (W2.alloc o) w3 102 3 (.slice Ac s.all.length cc) (.slice A4 (s.all.length + 1) c4) s.all.length → w3.ownsRow 0 102 3 (.slice A4 (s.all.length + 1) c4) (s.all.length + 1) (callCells s.all ++ [.int .i64 c, .string n, .int .i64 E]) →
      AskPost w ok sb s c n lk (.returned (.int .i64 E)) (w3.setCell ⟨sb, 5, none⟩ (.slice A4 (s.all.length + 1) c4))) := fun W2 w3 A4 c4 o hb hap hr => by
    have := ask_end h1 h2 h3 h5 h6 h7 ht ha hm hb hap hr rfl
    rw [← hE] at this ⊢
    exact ⟨rfl, this.1, this.2.1.imp fun k hk => by
      rcases hk with (rfl | rfl) | hk
      · exact h6.2.2.2.1
      · exact h6.1
      · exact h6.2.2.2.2 k hk, this.2.2⟩
  have HAM : Hid (∀ {b : Nat} {t : TypeId} {cs : List Value}, Blk w b t cs → Blk w1 b t cs) := am7
  have d3 : w1.cell? ⟨sb, 3, none⟩ = some (.map (some pm)) := HS1.out.cell 3
  have d4 : w1.cell? ⟨sb, 4, none⟩ = some (.map (some am)) := HS1.out.cell 4
  have HASK := Lib.hid hask
  have HALL := Lib.hid hall
  clear hask h h1 h2 h3 h4 h5 h6 h7 hm hcl hk ha ht g1 am7 hp1 hE hpf hall hc
  rcases Classical.em (pf = 0) with h0 | h0
  · subst h0
    cases hnm : nmOK n
    · have he10 : E = 10 := by have := HASK.out; rw [hnm] at this; simpa using this
      have HE := Lib.hid he10; clear he10
      have HNM := Lib.hid hnm; clear hnm
      go_enter Try.func38, Try.ntmps38
      go_wp2
      go_quiet (fail)
      have HB2 : Hid (Below w1.heap.size w1 (w1.drewN nq)) := drawn_drewN w1 nq
      clear hla1 hlp1 d3 d4 hla hrun c3 hw1
      generalize w1.drewN nq = W2 at *
      go_wp2_with (first
        | (go_at_call 36; refine (named.calls n W2).mono ?_; rintro e W3 ⟨rfl, hb3⟩; rw [HNM.out]
           have HB3 : Hid (Below w1.heap.size w1 W3) := HB2.out.trans (hb3.mono HB2.out.size)
           have HR2 : Hid (W3.ownsRow 0 102 3 (.slice Ac s.all.length cc) s.all.length (callCells s.all)) := ownsRow_keep (ok := fun _ => True) HR1.out (Keeps.below HB3.out) (fun _ _ => trivial)
           have HS2 : Hid (Blk W3 sb 84 [.map (some fm), .int .i64 s.room, .int .i64 (szL s.L), .map (some pm), .map (some am), .slice Ac s.all.length cc]) := HS1.out.below HB3.out HS1.out.lt
           have d5 : W3.cell? ⟨sb, 5, none⟩ = some (.slice Ac s.all.length cc) := HS2.out.cell 5
           clear hb3)
        | (at_builtin; refine append1 (w := W3) rfl (.tmp 45) (.tmp 50) 34 102 rfl 0 _ 3 32 u34 info102 rfl (.slice Ac s.all.length cc) s.all.length (callCells s.all) rfl HR2.out [.int .i64 c, .string n, .int .i64 10] rfl rfl (by simp [Value.oneCell']) (by have := HALL.out; simp only [maxLen]; omega) (by have := HALL.out; omega) (Nat.zero_le _) ?_
           intro v4 w4 ho4 ha4
           obtain ⟨A4, c4, rfl⟩ := own_slice ho4
           have HF4 : Hid (AskPost w ok sb s c n lk (.returned (.int .i64 E)) (w4.setCell ⟨sb, 5, none⟩ (.slice A4 (s.all.length + 1) c4))) := HEND.out W3 w4 A4 c4 _ HB3.out ha4 (by rw [HE.out]; exact ho4)
           have hsb : Blk w4 sb 84 _ := (HS2.out.below ((Below.refl _ W3).alloc (Nat.le_refl _) (.cells #[.int .i64 c, .string n, .int .i64 10] 102)) HS2.out.lt).grown ha4.grown (fun e => row_ne_blk HR2.out HS2.out (by decide) e.symm rfl)
           have z5 := hsb.cell 5
           have zf := hsb.frozen 5
           clear ho4 ha4 hsb)
        | fail)
      go_ret
      have hfin := HF4.out
      rw [HE.out] at hfin
      exact hfin
    · have helk : E = lk := by have := HASK.out; rw [hnm] at this; simpa using this
      have HE := Lib.hid helk; clear helk
      have HNM := Lib.hid hnm; clear hnm
      go_enter Try.func38, Try.ntmps38
      go_wp2
      go_quiet (fail)
      have HB2 : Hid (Below w1.heap.size w1 (w1.drewN nq)) := drawn_drewN w1 nq
      clear hla1 hlp1 d3 d4 hla hrun c3 hw1
      generalize w1.drewN nq = W2 at *
      go_wp2_with (first
        | (go_at_call 36; refine (named.calls n W2).mono ?_; rintro e W3 ⟨rfl, hb3⟩; rw [HNM.out]
           have HB3 : Hid (Below w1.heap.size w1 W3) := HB2.out.trans (hb3.mono HB2.out.size)
           have HL3 : Hid (Calls Try.prog f caps W3 fun e w' => e = .returned (.int .i64 lk) ∧ Below W3.heap.size W3 w') := HLK.out W3 (fun b t cs hb => (HAM.out hb).below HB3.out (HAM.out hb).lt) (fun ok' h => (HFM1.out ok' h).below HB3.out)
           clear hb3)
        | (refine HL3.out.mono ?_; rintro e W4 ⟨rfl, hb4⟩
           have HB4 : Hid (Below w1.heap.size w1 W4) := HB3.out.trans (hb4.mono HB3.out.size)
           have HR2 : Hid (W4.ownsRow 0 102 3 (.slice Ac s.all.length cc) s.all.length (callCells s.all)) := ownsRow_keep (ok := fun _ => True) HR1.out (Keeps.below HB4.out) (fun _ _ => trivial)
           have HS2 : Hid (Blk W4 sb 84 [.map (some fm), .int .i64 s.room, .int .i64 (szL s.L), .map (some pm), .map (some am), .slice Ac s.all.length cc]) := HS1.out.below HB4.out HS1.out.lt
           have d5 : W4.cell? ⟨sb, 5, none⟩ = some (.slice Ac s.all.length cc) := HS2.out.cell 5
           clear hb4)
        | (at_builtin; refine append1 (w := W4) rfl (.tmp 45) (.tmp 50) 34 102 rfl 0 _ 3 32 u34 info102 rfl (.slice Ac s.all.length cc) s.all.length (callCells s.all) rfl HR2.out [.int .i64 c, .string n, .int .i64 lk] rfl rfl (by simp [Value.oneCell']) (by have := HALL.out; simp only [maxLen]; omega) (by have := HALL.out; omega) (Nat.zero_le _) ?_
           intro v4 w4 ho4 ha4
           obtain ⟨A4, c4, rfl⟩ := own_slice ho4
           have HF4 : Hid (AskPost w ok sb s c n lk (.returned (.int .i64 E)) (w4.setCell ⟨sb, 5, none⟩ (.slice A4 (s.all.length + 1) c4))) := HEND.out W4 w4 A4 c4 _ HB4.out ha4 (by rw [HE.out]; exact ho4)
           have hsb : Blk w4 sb 84 _ := (HS2.out.below ((Below.refl _ W4).alloc (Nat.le_refl _) (.cells #[.int .i64 c, .string n, .int .i64 lk] 102)) HS2.out.lt).grown ha4.grown (fun e => row_ne_blk HR2.out HS2.out (by decide) e.symm rfl)
           have z5 := hsb.cell 5
           have zf := hsb.frozen 5
           clear ho4 ha4 hsb)
        | fail)
      go_ret
      have hfin := HF4.out
      rw [HE.out] at hfin
      exact hfin
  · have e1 : (pf == 0) = false := by simpa using h0
    have HE : Hid (E = pf) := by have := HASK.out; rw [if_pos h0] at this; exact this
    clear h0
    go_enter Try.func38, Try.ntmps38
    go_wp2
    go_quiet (fail)
    have HB2 : Hid (Below w1.heap.size w1 (w1.drewN nq)) := drawn_drewN w1 nq
    clear hla1 hlp1 d3 d4 hla hrun c3 hw1
    generalize w1.drewN nq = W2 at *
    have HR2 : Hid (W2.ownsRow 0 102 3 (.slice Ac s.all.length cc) s.all.length (callCells s.all)) := ownsRow_keep (ok := fun _ => True) HR1.out (Keeps.below HB2.out) (fun _ _ => trivial)
    have HS2 : Hid (Blk W2 sb 84 [.map (some fm), .int .i64 s.room, .int .i64 (szL s.L), .map (some pm), .map (some am), .slice Ac s.all.length cc]) := HS1.out.below HB2.out HS1.out.lt
    have d5 : W2.cell? ⟨sb, 5, none⟩ = some (.slice Ac s.all.length cc) := HS2.out.cell 5
    go_wp2_with (first
      | (at_builtin; refine append1 (w := W2) rfl (.tmp 45) (.tmp 50) 34 102 rfl 0 _ 3 32 u34 info102 rfl (.slice Ac s.all.length cc) s.all.length (callCells s.all) rfl HR2.out [.int .i64 c, .string n, .int .i64 pf] rfl rfl (by simp [Value.oneCell']) (by have := HALL.out; simp only [maxLen]; omega) (by have := HALL.out; omega) (Nat.zero_le _) ?_
         intro v4 w4 ho4 ha4
         obtain ⟨A4, c4, rfl⟩ := own_slice ho4
         have HF4 : Hid (AskPost w ok sb s c n lk (.returned (.int .i64 E)) (w4.setCell ⟨sb, 5, none⟩ (.slice A4 (s.all.length + 1) c4))) := HEND.out W2 w4 A4 c4 _ HB2.out ha4 (by rw [HE.out]; exact ho4)
         have hsb : Blk w4 sb 84 _ := (HS2.out.below ((Below.refl _ W2).alloc (Nat.le_refl _) (.cells #[.int .i64 c, .string n, .int .i64 pf] 102)) HS2.out.lt).grown ha4.grown (fun e => row_ne_blk HR2.out HS2.out (by decide) e.symm rfl)
         have z5 := hsb.cell 5
         have zf := hsb.frozen 5
         clear ho4 ha4 hsb)
      | fail)
    go_ret
    have hfin := HF4.out
    rw [HE.out] at hfin
    exact hfin

/-- What Write's look finds. -/
def lkW (s : Sh) (n : ByteArray) (d : List Int) : Int := if (hasN s.L n = false ∧ s.L.length = 64) ∨ s.room < szBut n s.L + d.length then 13 else 0
set_option maxHeartbeats 2000000 in
theorem writeLook.calls {w : World} {ok : Nat → Prop} {sb fm bi bs bd bo cd co : Nat} {Ad Ao : Option Addr} {s : Sh} {rest : List Value} {n : ByteArray} {d : List Int} (hg : Good s) (h1 : Blk w sb 84 (.map (some fm) :: .int .i64 s.room :: .int .i64 (szL s.L) :: rest)) (h2 : FMap w ok fm s.L)
    (h3 : Blk w bi 4 [.bool (hasN s.L n)]) (h4 : Blk w bs 27 [.pointer (some ⟨sb, 0, none⟩)]) (h5 : Blk w bd 39 [.slice Ad d.length cd]) (h6 : Blk w bo 39 [.slice Ao (lookL n s.L).length co]) (_hd : d.length ≤ 140737488355328) :
    Looks 39 #[.pointer (some ⟨bi, 0, none⟩), .pointer (some ⟨bs, 0, none⟩), .pointer (some ⟨bd, 0, none⟩), .pointer (some ⟨bo, 0, none⟩)] w fm s.L (lkW s n d) := by
  intro W hW hM
  have c3 : W.cell? ⟨bi, 0, none⟩ = some (.bool (hasN s.L n)) := (hW _ _ _ h3).cell 0
  have c4 : W.cell? ⟨bs, 0, none⟩ = some (.pointer (some ⟨sb, 0, none⟩)) := (hW _ _ _ h4).cell 0
  have c5 : W.cell? ⟨bd, 0, none⟩ = some (.slice Ad d.length cd) := (hW _ _ _ h5).cell 0
  have c6 : W.cell? ⟨bo, 0, none⟩ = some (.slice Ao (lookL n s.L).length co) := (hW _ _ _ h6).cell 0
  have hb := hW _ _ _ h1
  have d0 : W.cell? ⟨sb, 0, none⟩ = some (.map (some fm)) := hb.cell 0
  have d1 : W.cell? ⟨sb, 1, none⟩ = some (.int .i64 s.room) := hb.cell 1
  obtain ⟨u, hu⟩ : ∃ u, szL s.L = u := ⟨_, rfl⟩
  have d2 : W.cell? ⟨sb, 2, none⟩ = some (.int .i64 (u : Nat)) := hu ▸ hb.cell 2
  have hlen := fun q => (hM _ h2).len 3 (W.drewN q) (Keeps.below (drawn_drewN W q))
  obtain ⟨v, hv⟩ : ∃ v, szBut n s.L = v := ⟨_, rfl⟩
  obtain ⟨o, ho⟩ : ∃ o, (lookL n s.L).length = o := ⟨_, rfl⟩
  have hadd := szBut_add (n := n) hg.rises
  have hf := hg.fits
  have hr1 := hg.room1
  obtain ⟨l, hl⟩ : ∃ l, s.L.length = l := ⟨_, rfl⟩
  rw [hu, hv, ho] at hadd
  rw [hu] at hf
  rw [ho] at c6
  rw [hl] at hlen
  obtain ⟨r, hr⟩ : ∃ r, s.room = r := ⟨_, rfl⟩
  rw [hr] at d1 hf hr1
  have hw1 : IntKind.i64.wrap (r - (u : Int)) = r - (u : Int) := IntWalk.i64_in _ (by omega)
  have hw2 : IntKind.i64.wrap (r - (u : Int) + (o : Int)) = r - (u : Int) + (o : Int) := IntWalk.i64_in _ (by omega)
  obtain ⟨b, hb1⟩ : ∃ b, hasN s.L n = b := ⟨_, rfl⟩
  rw [hb1] at c3
  have hlk : lkW s n d = if (b = false ∧ l = 64) ∨ r < (v : Int) + d.length then 13 else 0 := by rw [lkW, hb1, hl, hr, hv]
  rw [hlk]
  clear hlk hb1 hr hl ho hv hb hu hM hW h1 h2 h3 h4 h5 h6
  cases b
  · by_cases h64 : l = 64
    · have h64b : ((l : Int) == 64) = true := by rw [h64]; rfl
      rw [if_pos (.inl ⟨rfl, h64⟩)]
      clear h64
      go_enter Try.func39, Try.ntmps39
      go_wp2
      go_quiet (fail)
      go_wp2
      go_ret
      exact ⟨rfl, drawn_drewN _ _⟩
    · have h64b : ((l : Int) == 64) = false := by simpa using fun h => h64 (by omega)
      by_cases hfit : r < (v : Int) + d.length
      · rw [if_pos (.inr hfit)]
        have hgt : r - (u : Int) + (o : Int) < (d.length : Int) := by omega
        clear h64
        go_enter Try.func39, Try.ntmps39
        go_wp2
        go_quiet (fail)
        go_wp2
        go_ret
        exact ⟨rfl, drawn_drewN _ _⟩
      · rw [if_neg (fun h => h.elim (fun h => h64 h.2) hfit)]
        have hgt : ¬ r - (u : Int) + (o : Int) < (d.length : Int) := by omega
        clear h64
        go_enter Try.func39, Try.ntmps39
        go_wp2
        go_quiet (fail)
        go_wp2
        go_ret
        exact ⟨rfl, drawn_drewN _ _⟩
  · by_cases hfit : r < (v : Int) + d.length
    · rw [if_pos (.inr hfit)]
      have hgt : r - (u : Int) + (o : Int) < (d.length : Int) := by omega
      go_enter Try.func39, Try.ntmps39
      go_wp2
      go_quiet (fail)
      go_wp2
      go_ret
      exact ⟨rfl, drawn_drewN _ _⟩
    · rw [if_neg (fun h => h.elim (fun h => by cases h.1) hfit)]
      have hgt : ¬ r - (u : Int) + (o : Int) < (d.length : Int) := by omega
      go_enter Try.func39, Try.ntmps39
      go_wp2
      go_quiet (fail)
      go_wp2
      go_ret
      exact ⟨rfl, drawn_drewN _ _⟩
end Go.Proofs.Ytplknppmaepinaa.S
/- The law's begin: both shelves made; what was handed in, held against its copy and written over. -/
namespace Go.Proofs.Ytplknppmaepinaa.S
open Go Go.RowKit Go.X Go.Maps Go.Proofs.YtplknppmaepinaaW.PrintWords Go.Proofs.Ytplknppmaepinaa.F
set_option maxRecDepth 100000

theorem ShelfAt.bound {w : World} {ok : Nat → Prop} {sb : Nat} {s : Sh} (h : ShelfAt w ok sb s) : ShelfAt w (fun k => ok k ∧ k < w.heap.size) sb s := by
  obtain ⟨fm, pm, am, cv, h1, h2, h3, h4, h5, h6, h7⟩ := h.out
  obtain ⟨D, k1, k2, k3, k4⟩ := h2.out
  exact ⟨fm, pm, am, cv, h1, ⟨D, k1, k2, k3, fun f hf => by obtain ⟨v, e, hd⟩ := k4 f hf; exact ⟨v, e, hd.bound⟩⟩, h3, h4, h5, ⟨⟨h6.1, h1.lt⟩, ⟨h6.2.1, h2.lt⟩, ⟨h6.2.2.1, h3.lt⟩, ⟨h6.2.2.2.1, h4.lt⟩, fun g hg => ⟨h6.2.2.2.2 g hg, own_lt h5 g hg⟩⟩, h7⟩
/-- What the program's New leaves, told at once. -/
theorem NewPost.told {w w' : World} {fs : List S73} {room : Int} {ps : List S76} {e : Ending} (h : NewPost w fs room ps e w') : Below w.heap.size w w' ∧ ∃ sp : Option Addr, e = .returned (.tuple #[.pointer sp, .int .i64 (newE fs room ps)]) ∧ (sp = none ↔ newE fs room ps ≠ 0) ∧ (newE fs room ps = 0 → ∃ sb, sp = some ⟨sb, 0, none⟩ ∧ ShelfAt w' (fun k => w.heap.size ≤ k) sb (newS fs room ps)) := by
  obtain ⟨hb, h | h⟩ := h
  · exact ⟨hb, none, h.2, by simp [h.1], fun e => absurd e h.1⟩
  · obtain ⟨h0, sb, rfl, hs⟩ := h
    exact ⟨hb, some ⟨sb, 0, none⟩, by rw [h0], by simp [h0], fun _ => ⟨sb, rfl, hs⟩⟩
theorem LentAt.keep {w w' : World} {base g : Nat} {gs : List Nat} {fs : List S73} (h : LentAt w base g gs fs) (hb : Below w.heap.size w w') : LentAt w' base g gs fs := by
  obtain ⟨cs, h1, h2, h3, h4⟩ := h
  exact ⟨cs, h1.keep fun b _ hlt => hb.block b hlt, h2.below hb h2.lt, h3, h4⟩
theorem LentAt.C {w : World} {base g : Nat} {gs : List Nat} {fs : List S73} (h : LentAt w base g gs fs) (hn : fs.length ≤ 67108864) (hm : ∀ f ∈ fs, f.f1.length ≤ 140737488355328) : Kd.C k73 w (some ⟨g, 0, none⟩) fs.length fs := by
  obtain ⟨cs, h1, h2, h3, h4⟩ := h
  exact C_of_blk h2 (h1.files fun f hf => by have := hm f hf; simp only [maxLen]; omega).reps (by omega)
end Go.Proofs.Ytplknppmaepinaa.S
