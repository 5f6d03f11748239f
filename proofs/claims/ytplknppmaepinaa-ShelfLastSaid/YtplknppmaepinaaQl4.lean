/- Texts joined and shortened (wip/tools/shrink.py): ShAsk, ShSort, ShFiles, ShBegin, ShRead, ShWrite, ShNum, ShGood, ShTotal, ShStep. -/
import Derived.Test.YtplknppmaepinaaQl3
import Derived.Shelf.Sort.Plain
import Derived.Shelf.Slices.In.SortNone
import Derived.Test.YtplknppmaepinaaProg
import Derived.Maps.RangeWalk
import Derived.Sort.KeysCollected
import Derived.Sort.OwnSorted
import Derived.Test.YtplknppmaepinaaQl1
import Derived.Test.YtplknppmaepinaaQl2
/- The program's ask: a call is noted down, and answered with what is planned for it, or with what look finds wrong. -/
namespace Go.Proofs.Ytplknppmaepinaa.S
open Go Go.RowKit Go.X Go.Maps Go.Proofs.YtplknppmaepinaaW.PrintWords Go.Proofs.Ytplknppmaepinaa.F
set_option maxRecDepth 100000

/-- What a call of kind c is answered. -/
def askE (s : Sh) (c : Int) (n : ByteArray) (look : Int) : Int := if planF s.plan c ((cntL s.all c : Int) + 1) ≠ 0 then planF s.plan c ((cntL s.all c : Int) + 1) else if nmOK n then look else 10
def Sh.note (s : Sh) (c : Int) (n : ByteArray) (e : Int) : Sh := { s with all := s.all ++ [⟨c, n, e⟩] }
/-- A call's look: it reads, no more; whatever was turned in memory but for the cells and the files' map. -/
def Looks (f : FuncId) (caps : Array Value) (w : World) (fm : Nat) (L : List S73) (lk : Int) : Prop :=
  ∀ W, (∀ b t cs, Blk w b t cs → Blk W b t cs) → (∀ ok, FMap w ok fm L → FMap W ok fm L) → Calls Try.prog f caps W fun e w' => e = .returned (.int .i64 lk) ∧ Below W.heap.size W w'
theorem ask_end {w w1 W2 w3 w4 : World} {ok : Nat → Prop} {sb fm pm am : Nat} {cv cv' : Value} {s : Sh} {c e : Int} {n : ByteArray} {o : Obj}
    (h1 : Blk w sb 84 [.map (some fm), .int .i64 s.room, .int .i64 (szL s.L), .map (some pm), .map (some am), cv]) (h2 : FMap w ok fm s.L) (h3 : PMap w pm s.plan) (h5 : w.ownsRow 0 102 3 cv s.all.length (callCells s.all)) (h6 : ok sb ∧ ok fm ∧ ok pm ∧ ok am ∧ ∀ g, cv.ownBlock = some g → ok g) (h7 : fm ≠ pm ∧ fm ≠ am ∧ pm ≠ am)
    (ht : w.mapTurned w1 am) (ha : AMap w1 am (s.all ++ [⟨c, n, e⟩])) (hm : ∃ D : DataW Value, w.ownsMap Try.prog 3 (plainElem Try.prog 3) am (Maps.size D) D) (hb : Below w1.heap.size w1 W2) (hap : Appended (W2.alloc o) w3 102 3 cv cv' s.all.length) (hr : w3.ownsRow 0 102 3 cv' (s.all.length + 1) (callCells s.all ++ [.int .i64 c, .string n, .int .i64 e]))
    (he : w4 = w3.setCell ⟨sb, 5, none⟩ cv') : ShelfAt w4 (fun k => ok k ∨ w.heap.size ≤ k) sb (s.note c n e) ∧ But (fun k => (k = am ∨ k = sb) ∨ cv.ownBlock = some k) w w4 ∧ ∀ okd v bs, DataAt w okd v bs → DataAt w4 okd v bs := by
  subst he
  obtain ⟨Da, hma⟩ := hm
  have g1 := ht.grown
  have hal : Below w1.heap.size w1 (W2.alloc o) := hb.trans (((Below.refl _ W2).alloc (Nat.le_refl _) o).mono hb.size)
  have nam : No5 w (some am) := No5.map hma
  have nsb : No5 w (some sb) := No5.blk h1 (by decide)
  have ncv : No5 w cv.ownBlock := No5.row h5 (by decide)
  have sbam : sb ≠ am := fun e => ownsMap_ne_blk hma h1 e.symm
  have sbcv : ∀ g, cv.ownBlock = some g → g ≠ sb := fun g hg => row_ne_blk h5 h1 (by decide) hg
  have amcv : some am ≠ cv.ownBlock := ownsMap_ne_row hma h5
  have g5 := grown_setCell w3 ⟨sb, 5, none⟩ cv'
  have B : But (fun k => (k = am ∨ k = sb) ∨ cv.ownBlock = some k) w (w3.setCell ⟨sb, 5, none⟩ cv') :=
    (((But.of_grown g1 fun k e => by cases e; exact .inl (.inl rfl)).trans2 (But.of_below hal)).trans2 (But.of_grown hap.grown fun k e => .inr e)).trans2 (But.of_grown g5 fun k e => by cases e; exact .inl (.inr rfl))
  have nS : ∀ b, ((b = am ∨ b = sb) ∨ cv.ownBlock = some b) → No5 w (some b) := fun b hb => by
    rcases hb with (rfl | rfl) | hb
    · exact nam
    · exact nsb
    · rw [← hb]; exact ncv
  have b1 : Blk w1 sb 84 _ := h1.grown g1 (fun e => sbam (by injection e))
  have b2 : Blk (W2.alloc o) sb 84 _ := b1.below hal b1.lt
  have b3 : Blk w3 sb 84 _ := b2.grown hap.grown (fun e => sbcv sb e.symm rfl)
  have r1 : w1.ownsRow 0 102 3 cv s.all.length (callCells s.all) := h5.kept g1 (by
    cases hv : cv.ownBlock with
    | none => exact .inl rfl
    | some g => exact .inr fun e => amcv (by rw [hv, e]))
  have fmS : ¬ ((fm = am ∨ fm = sb) ∨ cv.ownBlock = some fm) := fun h => by
    obtain ⟨D, k1, _⟩ := h2.out
    rcases h with (h | h) | h
    · exact h7.2.1 h
    · exact ownsMap_ne_blk k1 h1 h
    · exact ownsMap_ne_row k1 h5 h.symm
  have pmS : ¬ ((pm = am ∨ pm = sb) ∨ cv.ownBlock = some pm) := fun h => by
    obtain ⟨D, k1, _⟩ := h3
    rcases h with (h | h) | h
    · exact h7.2.2 h
    · exact ownsMap_ne_blk k1 h1 h
    · exact ownsMap_ne_row k1 h5 h.symm
  have pl : ∀ g, cv'.ownBlock = some g → cv.ownBlock = some g ∨ w.heap.size ≤ g := fun g hg => by
    rcases hap.place with h | ⟨h, _⟩
    · exact .inl (by rw [← h]; exact hg)
    · rw [h] at hg
      injection hg with hg
      have := g1.size
      have := hal.size
      exact .inr (by omega)
  have hA : AMap (w3.setCell ⟨sb, 5, none⟩ cv') am (s.all ++ [⟨c, n, e⟩]) := by
    obtain ⟨D, k1, k2⟩ := ha
    have q1 := ownsMap_keep k1 (ok := fun _ => True) (Keeps.below hal) trivial
    have q2 := ownsMap_keep q1 (ok := fun k => k = am) (fun k hk hlt => by cases hk; exact hap.grown.block _ hlt amcv) rfl
    exact ⟨D, ownsMap_keep q2 (ok := fun k => k = am) (fun k hk hlt => by cases hk; exact g5.block _ hlt (fun e => sbam (by injection e with e; exact e.symm))) rfl, k2⟩
  refine ⟨⟨fm, pm, am, cv', b3.setCell 5 cv', ((h2.but B fmS nS).mono fun k hk => .inl hk), h3.keep (fun k hk hlt => by cases hk; exact B.block _ hlt pmS), hA, ?_, ⟨.inl h6.1, .inl h6.2.1, .inl h6.2.2.1, .inl h6.2.2.2.1, fun g hg => (pl g hg).imp (h6.2.2.2.2 g) id⟩, h7⟩, B, fun okd v bs hd => hd.but B nS⟩
  show (w3.setCell ⟨sb, 5, none⟩ cv').ownsRow 0 102 3 cv' (s.all ++ [(⟨c, n, e⟩ : S102)]).length (callCells (s.all ++ [⟨c, n, e⟩]))
  rw [callCells_append, List.length_append]
  refine hr.kept g5 ?_
  cases hv : cv'.ownBlock with
  | none => exact .inl rfl
  | some g => exact .inr fun e => row_ne_blk hr b3 (by decide) hv (by injection e)

theorem FMap.below {w w' : World} {ok : Nat → Prop} {fm : Nat} {L : List S73} (h : FMap w ok fm L) (hb : Below w.heap.size w w') : FMap w' ok fm L := h.but (S := fun _ => False) (But.of_below hb) id (fun _ hb => hb.elim)
theorem missing.calls {w : World} {ok : Nat → Prop} {sb fm : Nat} {L : List S73} {rest : List Value} {n : ByteArray} (h1 : Blk w sb 84 (.map (some fm) :: rest)) (h2 : FMap w ok fm L) (hn : n.size ≤ maxLen) :
    Calls Try.prog 42 #[.pointer (some ⟨sb, 0, none⟩), .string n] w fun e w' => e = .returned (.int .i64 (if hasN L n then 0 else 11)) ∧ w' = w := by
  have c0 : w.cell? ⟨sb, 0, none⟩ = some (.map (some fm)) := h1.cell 0
  obtain ⟨ov, hlk, -, -⟩ := h2.look hn
  have hl := (hlk w (Keeps.refl _ _)).1
  clear hlk h1 h2
  cases hb : hasN L n
  · rw [hb] at hl
    clear hb
    go_enter Try.func42, Try.ntmps42
    go_wp2
    go_ret
    exact ⟨rfl, rfl⟩
  · rw [hb] at hl
    clear hb
    go_enter Try.func42, Try.ntmps42
    go_wp2
    go_ret
    exact ⟨rfl, rfl⟩
/-- Read's and Remove's look. -/
theorem readLook.calls {w : World} {ok : Nat → Prop} {sb fm b1 b2 : Nat} {L : List S73} {rest : List Value} {n : ByteArray} (h1 : Blk w sb 84 (.map (some fm) :: rest)) (h2 : FMap w ok fm L) (hn : n.size ≤ maxLen) (h3 : Blk w b1 27 [.pointer (some ⟨sb, 0, none⟩)]) (h4 : Blk w b2 9 [.string n]) :
    Looks 43 #[.pointer (some ⟨b1, 0, none⟩), .pointer (some ⟨b2, 0, none⟩)] w fm L (if hasN L n then 0 else 11) := by
  intro W hW hM
  have c3 : W.cell? ⟨b1, 0, none⟩ = some (.pointer (some ⟨sb, 0, none⟩)) := (hW _ _ _ h3).cell 0
  have c4 : W.cell? ⟨b2, 0, none⟩ = some (.string n) := (hW _ _ _ h4).cell 0
  have HB := Lib.hid (hW _ _ _ h1)
  have HM := Lib.hid (hM _ h2)
  clear hW hM h1 h2 h3 h4
  generalize hE : (if hasN L n then (0 : Int) else 11) = E
  have HE := Lib.hid hE; clear hE
  go_enter Try.func43, Try.ntmps43
  go_wp2_with (first
    | (go_at_call 42; refine (missing.calls HB.out HM.out hn).mono ?_; rintro e w' ⟨rfl, rfl⟩; rw [HE.out])
    | fail)
  go_ret
  exact ⟨rfl, Below.refl _ _⟩
theorem removeLook.calls {w : World} {ok : Nat → Prop} {sb fm b1 b2 : Nat} {L : List S73} {rest : List Value} {n : ByteArray} (h1 : Blk w sb 84 (.map (some fm) :: rest)) (h2 : FMap w ok fm L) (hn : n.size ≤ maxLen) (h3 : Blk w b1 27 [.pointer (some ⟨sb, 0, none⟩)]) (h4 : Blk w b2 9 [.string n]) :
    Looks 41 #[.pointer (some ⟨b1, 0, none⟩), .pointer (some ⟨b2, 0, none⟩)] w fm L (if hasN L n then 0 else 11) := by
  intro W hW hM
  have c3 : W.cell? ⟨b1, 0, none⟩ = some (.pointer (some ⟨sb, 0, none⟩)) := (hW _ _ _ h3).cell 0
  have c4 : W.cell? ⟨b2, 0, none⟩ = some (.string n) := (hW _ _ _ h4).cell 0
  have HB := Lib.hid (hW _ _ _ h1)
  have HM := Lib.hid (hM _ h2)
  clear hW hM h1 h2 h3 h4
  generalize hE : (if hasN L n then (0 : Int) else 11) = E
  have HE := Lib.hid hE; clear hE
  go_enter Try.func41, Try.ntmps41
  go_wp2_with (first
    | (go_at_call 42; refine (missing.calls HB.out HM.out hn).mono ?_; rintro e w' ⟨rfl, rfl⟩; rw [HE.out])
    | fail)
  go_ret
  exact ⟨rfl, Below.refl _ _⟩
theorem told.calls (e : Int) (w : World) : Calls Try.prog 40 #[.int .i64 e] w fun r w' => r = .returned (if e = 0 then .nilIface else .iface 42 (.int .i64 e)) ∧ w' = w := by
  by_cases h : e = 0
  · subst h
    go_enter Try.func40, Try.ntmps40
    go_wp2
    go_ret
    exact ⟨rfl, rfl⟩
  · rw [if_neg h]
    have h1 : (e == 0) = false := by simpa using h
    go_enter Try.func40, Try.ntmps40
    go_wp2
    go_ret
    exact ⟨rfl, rfl⟩

theorem run_enter {P : Program} {f : FuncId} {fn : Func} (hf : P.funcs[f]? = some fn) (hname : (fn.name == "runtime.NumGoroutine") = false) (hb : fn.body.isNone = false) (args : Array Value) (w : World) : (callFunc f args).run P w = .ok (.enter f args) w := by
  have h1 : fn.name ≠ "runtime.NumGoroutine" := by simpa using hname
  have h2 : fn.body ≠ none := fun e => by rw [e] at hb; cases hb
  simp [callFunc, hf, h1, h2]
theorem enter43 (caps : Array Value) (W : World) : (callFunc 43 caps).run Try.prog W = .ok (.enter 43 caps) W := run_enter Try.func43 (by kernel_rfl) (by kernel_rfl) caps W
theorem enter41 (caps : Array Value) (W : World) : (callFunc 41 caps).run Try.prog W = .ok (.enter 41 caps) W := run_enter Try.func41 (by kernel_rfl) (by kernel_rfl) caps W
theorem enter39 (caps : Array Value) (W : World) : (callFunc 39 caps).run Try.prog W = .ok (.enter 39 caps) W := run_enter Try.func39 (by kernel_rfl) (by kernel_rfl) caps W
/-- What ask leaves. -/
def AskPost (w : World) (ok : Nat → Prop) (sb : Nat) (s : Sh) (c : Int) (n : ByteArray) (lk : Int) (e : Ending) (w' : World) : Prop :=
  e = .returned (.int .i64 (askE s c n lk)) ∧ ShelfAt w' (fun k => ok k ∨ w.heap.size ≤ k) sb (s.note c n (askE s c n lk)) ∧ But ok w w' ∧ ∀ okd v bs, DataAt w okd v bs → DataAt w' okd v bs
set_option maxHeartbeats 4000000 in
theorem ask.calls {w : World} {ok : Nat → Prop} {sb : Nat} {s : Sh} (h : ShelfAt w ok sb s) (c : Int) (n : ByteArray) (f : FuncId) (caps : Array Value) (lk : Int) (hc : (Lit.int .i64 c).wf = true) (hall : s.all.length ≤ 1073741824) (hcf : ∀ W : World, (callFunc f caps).run Try.prog W = .ok (.enter f caps) W)
    (hlook : ∀ fm rest, Blk w sb 84 (.map (some fm) :: .int .i64 s.room :: .int .i64 (szL s.L) :: rest) → FMap w ok fm s.L → Looks f caps w fm s.L lk) :
    Calls Try.prog 38 #[.pointer (some ⟨sb, 0, none⟩), .int .i64 c, .string n, .func (.func f) #[] caps] w (AskPost w ok sb s c n lk) := by
  obtain ⟨fm, pm, am, cv, h1, h2, h3, h4, h5, h6, h7⟩ := h.out
  obtain ⟨Ac, cc, rfl⟩ := own_slice h5
  have HLK := Lib.hid (hlook fm _ h1 h2); clear hlook
  have hm : ∃ D : DataW Value, w.ownsMap Try.prog 3 (plainElem Try.prog 3) am (Maps.size D) D := by
    obtain ⟨D, k1, _⟩ := h4
    exact ⟨D, k1⟩
  have hcl := cntL_le s.all c
  obtain ⟨k, hk⟩ : ∃ k, cntL s.all c = k := ⟨_, rfl⟩
  have hla := h4.look hc w (Keeps.refl _ _)
  obtain ⟨E, hE⟩ : ∃ E, askE s c n lk = E := ⟨_, rfl⟩
  obtain ⟨w1, hrun, ha, ht⟩ := h4.store (x := ⟨c, n, E⟩) (by omega) hc
  have g1 := ht.grown
  have hla1 : ∀ q, (Instr.lookup 82 (.map (some am)) (.int .i64 c) false).run Try.prog (w1.drewN q) = .ok (.int .i64 (k + 1 : Nat)) (w1.drewN q) := fun q => by
    have := ha.look hc (w1.drewN q) (Keeps.below (drawn_drewN w1 q))
    rw [cntL_snoc, if_pos rfl, hk] at this
    exact this
  have am7 : ∀ {b : Nat} {t : TypeId} {cs : List Value}, Blk w b t cs → Blk w1 b t cs := fun hb => hb.grown g1 (fun e => by
    obtain ⟨D, k1⟩ := hm
    exact ownsMap_ne_blk k1 hb (by injection e with e; exact e.symm))
  have hp1 : PMap w1 pm s.plan := h3.keep (fun k hk hlt => by cases hk; exact g1.block _ hlt (fun e => h7.2.2 (by injection e)))
  obtain ⟨pf, hpf⟩ : ∃ pf, planF s.plan c ((k : Int) + 1) = pf := ⟨_, rfl⟩
  have hlp1 : ∀ q, (Instr.lookup 81 (.map (some pm)) (.agg #[.int .i64 c, .int .i64 ((k : Int) + 1)]) false).run Try.prog (w1.drewN q) = .ok (.int .i64 pf) (w1.drewN q) := fun q => by
    have := hp1.look hc (n := (k : Int) + 1) (WalkArith.wf_i64 (by omega)) (w1.drewN q) (Keeps.below (drawn_drewN w1 q))
    rw [hpf] at this
    exact this
  rw [hk] at hla hrun
  have hw1 : wrap64 ((k : Int) + 1) = (k : Int) + 1 := IntWalk.wrap64_in _ (by omega)
  have hask : E = if pf ≠ 0 then pf else if nmOK n then lk else 10 := by rw [← hE, askE, hk, hpf]
  have HFM1 : Hid (∀ ok', FMap w ok' fm s.L → FMap w1 ok' fm s.L) := fun ok' h => by
    obtain ⟨D, k1⟩ := hm
    exact h.but (mapTurned_but ht) h7.2.1 (fun b hb => by cases hb; exact No5.map k1)
  have c3 : w.cell? ⟨sb, 4, none⟩ = some (.map (some am)) := h1.cell 4
  have HS1 : Hid (Blk w1 sb 84 [.map (some fm), .int .i64 s.room, .int .i64 (szL s.L), .map (some pm), .map (some am), .slice Ac s.all.length cc]) := am7 h1
  have HR1 : Hid (w1.ownsRow 0 102 3 (.slice Ac s.all.length cc) s.all.length (callCells s.all)) := h5.kept g1 (by
    obtain ⟨D, k1⟩ := hm
    cases hv : (Value.slice Ac s.all.length cc).ownBlock with
    | none => exact .inl rfl
    | some g => exact .inr fun e => ownsMap_ne_row k1 h5 (by rw [hv, e]))
  have HEND : Hid (∀ (W2 w3 : World) (A4 : Option Addr) (c4 : Nat) (o : Obj), Below w1.heap.size w1 W2 → Appended (W2.alloc o) w3 102 3 (.slice Ac s.all.length cc) (.slice A4 (s.all.length + 1) c4) s.all.length → w3.ownsRow 0 102 3 (.slice A4 (s.all.length + 1) c4) (s.all.length + 1) (callCells s.all ++ [.int .i64 c, .string n, .int .i64 E]) →
      AskPost w ok sb s c n lk (.returned (.int .i64 E)) (w3.setCell ⟨sb, 5, none⟩ (.slice A4 (s.all.length + 1) c4))) := fun W2 w3 A4 c4 o hb hap hr => by
    have := ask_end h1 h2 h3 h5 h6 h7 ht ha hm hb hap hr rfl
    rw [← hE] at this ⊢
    exact ⟨rfl, this.1, this.2.1.imp fun k hk => by
      rcases hk with (rfl | rfl) | hk
      · exact h6.2.2.2.1
      · exact h6.1
      · exact h6.2.2.2.2 k hk, this.2.2⟩
  have HAM : Hid (∀ {b : Nat} {t : TypeId} {cs : List Value}, Blk w b t cs → Blk w1 b t cs) := am7
  have d3 : w1.cell? ⟨sb, 3, none⟩ = some (.map (some pm)) := HS1.out.cell 3
  have d4 : w1.cell? ⟨sb, 4, none⟩ = some (.map (some am)) := HS1.out.cell 4
  have HASK := Lib.hid hask
  have HALL := Lib.hid hall
  clear hask h h1 h2 h3 h4 h5 h6 h7 hm hcl hk ha ht g1 am7 hp1 hE hpf hall hc
  rcases Classical.em (pf = 0) with h0 | h0
  · subst h0
    cases hnm : nmOK n
    · have he10 : E = 10 := by have := HASK.out; rw [hnm] at this; simpa using this
      have HE := Lib.hid he10; clear he10
      have HNM := Lib.hid hnm; clear hnm
      go_enter Try.func38, Try.ntmps38
      go_wp2
      go_quiet (fail)
      have HB2 : Hid (Below w1.heap.size w1 (w1.drewN nq)) := drawn_drewN w1 nq
      clear hla1 hlp1 d3 d4 hla hrun c3 hw1
      generalize w1.drewN nq = W2 at *
      go_wp2_with (first
        | (go_at_call 36; refine (named.calls n W2).mono ?_; rintro e W3 ⟨rfl, hb3⟩; rw [HNM.out]
           have HB3 : Hid (Below w1.heap.size w1 W3) := HB2.out.trans (hb3.mono HB2.out.size)
           have HR2 : Hid (W3.ownsRow 0 102 3 (.slice Ac s.all.length cc) s.all.length (callCells s.all)) := ownsRow_keep (ok := fun _ => True) HR1.out (Keeps.below HB3.out) (fun _ _ => trivial)
           have HS2 : Hid (Blk W3 sb 84 [.map (some fm), .int .i64 s.room, .int .i64 (szL s.L), .map (some pm), .map (some am), .slice Ac s.all.length cc]) := HS1.out.below HB3.out HS1.out.lt
           have d5 : W3.cell? ⟨sb, 5, none⟩ = some (.slice Ac s.all.length cc) := HS2.out.cell 5
           clear hb3)
        | (at_builtin; refine append1 (w := W3) rfl (.tmp 45) (.tmp 50) 34 102 rfl 0 _ 3 32 u34 info102 rfl (.slice Ac s.all.length cc) s.all.length (callCells s.all) rfl HR2.out [.int .i64 c, .string n, .int .i64 10] rfl rfl (by simp [Value.oneCell']) (by have := HALL.out; simp only [maxLen]; omega) (by have := HALL.out; omega) (Nat.zero_le _) ?_
           intro v4 w4 ho4 ha4
           obtain ⟨A4, c4, rfl⟩ := own_slice ho4
           have HF4 : Hid (AskPost w ok sb s c n lk (.returned (.int .i64 E)) (w4.setCell ⟨sb, 5, none⟩ (.slice A4 (s.all.length + 1) c4))) := HEND.out W3 w4 A4 c4 _ HB3.out ha4 (by rw [HE.out]; exact ho4)
           have hsb : Blk w4 sb 84 _ := (HS2.out.below ((Below.refl _ W3).alloc (Nat.le_refl _) (.cells #[.int .i64 c, .string n, .int .i64 10] 102)) HS2.out.lt).grown ha4.grown (fun e => row_ne_blk HR2.out HS2.out (by decide) e.symm rfl)
           have z5 := hsb.cell 5
           have zf := hsb.frozen 5
           clear ho4 ha4 hsb)
        | fail)
      go_ret
      have hfin := HF4.out
      rw [HE.out] at hfin
      exact hfin
    · have helk : E = lk := by have := HASK.out; rw [hnm] at this; simpa using this
      have HE := Lib.hid helk; clear helk
      have HNM := Lib.hid hnm; clear hnm
      go_enter Try.func38, Try.ntmps38
      go_wp2
      go_quiet (fail)
      have HB2 : Hid (Below w1.heap.size w1 (w1.drewN nq)) := drawn_drewN w1 nq
      clear hla1 hlp1 d3 d4 hla hrun c3 hw1
      generalize w1.drewN nq = W2 at *
      go_wp2_with (first
        | (go_at_call 36; refine (named.calls n W2).mono ?_; rintro e W3 ⟨rfl, hb3⟩; rw [HNM.out]
           have HB3 : Hid (Below w1.heap.size w1 W3) := HB2.out.trans (hb3.mono HB2.out.size)
           have HL3 : Hid (Calls Try.prog f caps W3 fun e w' => e = .returned (.int .i64 lk) ∧ Below W3.heap.size W3 w') := HLK.out W3 (fun b t cs hb => (HAM.out hb).below HB3.out (HAM.out hb).lt) (fun ok' h => (HFM1.out ok' h).below HB3.out)
           clear hb3)
        | (refine HL3.out.mono ?_; rintro e W4 ⟨rfl, hb4⟩
           have HB4 : Hid (Below w1.heap.size w1 W4) := HB3.out.trans (hb4.mono HB3.out.size)
           have HR2 : Hid (W4.ownsRow 0 102 3 (.slice Ac s.all.length cc) s.all.length (callCells s.all)) := ownsRow_keep (ok := fun _ => True) HR1.out (Keeps.below HB4.out) (fun _ _ => trivial)
           have HS2 : Hid (Blk W4 sb 84 [.map (some fm), .int .i64 s.room, .int .i64 (szL s.L), .map (some pm), .map (some am), .slice Ac s.all.length cc]) := HS1.out.below HB4.out HS1.out.lt
           have d5 : W4.cell? ⟨sb, 5, none⟩ = some (.slice Ac s.all.length cc) := HS2.out.cell 5
           clear hb4)
        | (at_builtin; refine append1 (w := W4) rfl (.tmp 45) (.tmp 50) 34 102 rfl 0 _ 3 32 u34 info102 rfl (.slice Ac s.all.length cc) s.all.length (callCells s.all) rfl HR2.out [.int .i64 c, .string n, .int .i64 lk] rfl rfl (by simp [Value.oneCell']) (by have := HALL.out; simp only [maxLen]; omega) (by have := HALL.out; omega) (Nat.zero_le _) ?_
           intro v4 w4 ho4 ha4
           obtain ⟨A4, c4, rfl⟩ := own_slice ho4
           have HF4 : Hid (AskPost w ok sb s c n lk (.returned (.int .i64 E)) (w4.setCell ⟨sb, 5, none⟩ (.slice A4 (s.all.length + 1) c4))) := HEND.out W4 w4 A4 c4 _ HB4.out ha4 (by rw [HE.out]; exact ho4)
           have hsb : Blk w4 sb 84 _ := (HS2.out.below ((Below.refl _ W4).alloc (Nat.le_refl _) (.cells #[.int .i64 c, .string n, .int .i64 lk] 102)) HS2.out.lt).grown ha4.grown (fun e => row_ne_blk HR2.out HS2.out (by decide) e.symm rfl)
           have z5 := hsb.cell 5
           have zf := hsb.frozen 5
           clear ho4 ha4 hsb)
        | fail)
      go_ret
      have hfin := HF4.out
      rw [HE.out] at hfin
      exact hfin
  · have e1 : (pf == 0) = false := by simpa using h0
    have HE : Hid (E = pf) := by have := HASK.out; rw [if_pos h0] at this; exact this
    clear h0
    go_enter Try.func38, Try.ntmps38
    go_wp2
    go_quiet (fail)
    have HB2 : Hid (Below w1.heap.size w1 (w1.drewN nq)) := drawn_drewN w1 nq
    clear hla1 hlp1 d3 d4 hla hrun c3 hw1
    generalize w1.drewN nq = W2 at *
    have HR2 : Hid (W2.ownsRow 0 102 3 (.slice Ac s.all.length cc) s.all.length (callCells s.all)) := ownsRow_keep (ok := fun _ => True) HR1.out (Keeps.below HB2.out) (fun _ _ => trivial)
    have HS2 : Hid (Blk W2 sb 84 [.map (some fm), .int .i64 s.room, .int .i64 (szL s.L), .map (some pm), .map (some am), .slice Ac s.all.length cc]) := HS1.out.below HB2.out HS1.out.lt
    have d5 : W2.cell? ⟨sb, 5, none⟩ = some (.slice Ac s.all.length cc) := HS2.out.cell 5
    go_wp2_with (first
      | (at_builtin; refine append1 (w := W2) rfl (.tmp 45) (.tmp 50) 34 102 rfl 0 _ 3 32 u34 info102 rfl (.slice Ac s.all.length cc) s.all.length (callCells s.all) rfl HR2.out [.int .i64 c, .string n, .int .i64 pf] rfl rfl (by simp [Value.oneCell']) (by have := HALL.out; simp only [maxLen]; omega) (by have := HALL.out; omega) (Nat.zero_le _) ?_
         intro v4 w4 ho4 ha4
         obtain ⟨A4, c4, rfl⟩ := own_slice ho4
         have HF4 : Hid (AskPost w ok sb s c n lk (.returned (.int .i64 E)) (w4.setCell ⟨sb, 5, none⟩ (.slice A4 (s.all.length + 1) c4))) := HEND.out W2 w4 A4 c4 _ HB2.out ha4 (by rw [HE.out]; exact ho4)
         have hsb : Blk w4 sb 84 _ := (HS2.out.below ((Below.refl _ W2).alloc (Nat.le_refl _) (.cells #[.int .i64 c, .string n, .int .i64 pf] 102)) HS2.out.lt).grown ha4.grown (fun e => row_ne_blk HR2.out HS2.out (by decide) e.symm rfl)
         have z5 := hsb.cell 5
         have zf := hsb.frozen 5
         clear ho4 ha4 hsb)
      | fail)
    go_ret
    have hfin := HF4.out
    rw [HE.out] at hfin
    exact hfin

/-- What Write's look finds. -/
def lkW (s : Sh) (n : ByteArray) (d : List Int) : Int := if (hasN s.L n = false ∧ s.L.length = 64) ∨ s.room < szBut n s.L + d.length then 13 else 0
set_option maxHeartbeats 2000000 in
theorem writeLook.calls {w : World} {ok : Nat → Prop} {sb fm bi bs bd bo cd co : Nat} {Ad Ao : Option Addr} {s : Sh} {rest : List Value} {n : ByteArray} {d : List Int} (hg : Good s) (h1 : Blk w sb 84 (.map (some fm) :: .int .i64 s.room :: .int .i64 (szL s.L) :: rest)) (h2 : FMap w ok fm s.L)
    (h3 : Blk w bi 4 [.bool (hasN s.L n)]) (h4 : Blk w bs 27 [.pointer (some ⟨sb, 0, none⟩)]) (h5 : Blk w bd 39 [.slice Ad d.length cd]) (h6 : Blk w bo 39 [.slice Ao (lookL n s.L).length co]) (_hd : d.length ≤ 140737488355328) :
    Looks 39 #[.pointer (some ⟨bi, 0, none⟩), .pointer (some ⟨bs, 0, none⟩), .pointer (some ⟨bd, 0, none⟩), .pointer (some ⟨bo, 0, none⟩)] w fm s.L (lkW s n d) := by
  intro W hW hM
  have c3 : W.cell? ⟨bi, 0, none⟩ = some (.bool (hasN s.L n)) := (hW _ _ _ h3).cell 0
  have c4 : W.cell? ⟨bs, 0, none⟩ = some (.pointer (some ⟨sb, 0, none⟩)) := (hW _ _ _ h4).cell 0
  have c5 : W.cell? ⟨bd, 0, none⟩ = some (.slice Ad d.length cd) := (hW _ _ _ h5).cell 0
  have c6 : W.cell? ⟨bo, 0, none⟩ = some (.slice Ao (lookL n s.L).length co) := (hW _ _ _ h6).cell 0
  have hb := hW _ _ _ h1
  have d0 : W.cell? ⟨sb, 0, none⟩ = some (.map (some fm)) := hb.cell 0
  have d1 : W.cell? ⟨sb, 1, none⟩ = some (.int .i64 s.room) := hb.cell 1
  obtain ⟨u, hu⟩ : ∃ u, szL s.L = u := ⟨_, rfl⟩
  have d2 : W.cell? ⟨sb, 2, none⟩ = some (.int .i64 (u : Nat)) := hu ▸ hb.cell 2
  have hlen := fun q => (hM _ h2).len 3 (W.drewN q) (Keeps.below (drawn_drewN W q))
  obtain ⟨v, hv⟩ : ∃ v, szBut n s.L = v := ⟨_, rfl⟩
  obtain ⟨o, ho⟩ : ∃ o, (lookL n s.L).length = o := ⟨_, rfl⟩
  have hadd := szBut_add (n := n) hg.rises
  have hf := hg.fits
  have hr1 := hg.room1
  obtain ⟨l, hl⟩ : ∃ l, s.L.length = l := ⟨_, rfl⟩
  rw [hu, hv, ho] at hadd
  rw [hu] at hf
  rw [ho] at c6
  rw [hl] at hlen
  obtain ⟨r, hr⟩ : ∃ r, s.room = r := ⟨_, rfl⟩
  rw [hr] at d1 hf hr1
  have hw1 : IntKind.i64.wrap (r - (u : Int)) = r - (u : Int) := IntWalk.i64_in _ (by omega)
  have hw2 : IntKind.i64.wrap (r - (u : Int) + (o : Int)) = r - (u : Int) + (o : Int) := IntWalk.i64_in _ (by omega)
  obtain ⟨b, hb1⟩ : ∃ b, hasN s.L n = b := ⟨_, rfl⟩
  rw [hb1] at c3
  have hlk : lkW s n d = if (b = false ∧ l = 64) ∨ r < (v : Int) + d.length then 13 else 0 := by rw [lkW, hb1, hl, hr, hv]
  rw [hlk]
  clear hlk hb1 hr hl ho hv hb hu hM hW h1 h2 h3 h4 h5 h6
  cases b
  · by_cases h64 : l = 64
    · have h64b : ((l : Int) == 64) = true := by rw [h64]; rfl
      rw [if_pos (.inl ⟨rfl, h64⟩)]
      clear h64
      go_enter Try.func39, Try.ntmps39
      go_wp2
      go_quiet (fail)
      go_wp2
      go_ret
      exact ⟨rfl, drawn_drewN _ _⟩
    · have h64b : ((l : Int) == 64) = false := by simpa using fun h => h64 (by omega)
      by_cases hfit : r < (v : Int) + d.length
      · rw [if_pos (.inr hfit)]
        have hgt : r - (u : Int) + (o : Int) < (d.length : Int) := by omega
        clear h64
        go_enter Try.func39, Try.ntmps39
        go_wp2
        go_quiet (fail)
        go_wp2
        go_ret
        exact ⟨rfl, drawn_drewN _ _⟩
      · rw [if_neg (fun h => h.elim (fun h => h64 h.2) hfit)]
        have hgt : ¬ r - (u : Int) + (o : Int) < (d.length : Int) := by omega
        clear h64
        go_enter Try.func39, Try.ntmps39
        go_wp2
        go_quiet (fail)
        go_wp2
        go_ret
        exact ⟨rfl, drawn_drewN _ _⟩
  · by_cases hfit : r < (v : Int) + d.length
    · rw [if_pos (.inr hfit)]
      have hgt : r - (u : Int) + (o : Int) < (d.length : Int) := by omega
      go_enter Try.func39, Try.ntmps39
      go_wp2
      go_quiet (fail)
      go_wp2
      go_ret
      exact ⟨rfl, drawn_drewN _ _⟩
    · rw [if_neg (fun h => h.elim (fun h => by cases h.1) hfit)]
      have hgt : ¬ r - (u : Int) + (o : Int) < (d.length : Int) := by omega
      go_enter Try.func39, Try.ntmps39
      go_wp2
      go_quiet (fail)
      go_wp2
      go_ret
      exact ⟨rfl, drawn_drewN _ _⟩
end Go.Proofs.Ytplknppmaepinaa.S
/- slices.Sort at strings: the contract of the shelf, laid in plain words (by the kit's lay-plain). -/
namespace Go.Proofs
open Go.Shelf
def Try.lays190_ren : Go.Shelf.Ren := ⟨fun | 190 => 31 | 125 => 58 | 258 => 57 | 128 => 74 | 129 => 75 | 302 => 65 | 303 => 66 | 304 => 67 | 305 => 68 | 306 => 69 | 307 => 70 | 308 => 71 | 309 => 72 | 310 => 73 | 333 => 79 | 329 => 80 | 330 => 81 | 334 => 82 | 335 => 83 | 336 => 84 | 344 => 85 | n => n, fun | 31 => 79 | 9 => 9 | 3 => 3 | 46 => 114 | 0 => 0 | 51 => 128 | 53 => 130 | 4 => 4 | 183 => 121 | 182 => 120 | 131 => 54 | 5 => 5 | 218 => 136 | 222 => 140 | 228 => 153 | 229 => 154 | n => n, fun | n => n⟩
theorem Try.lays190 : Go.Proofs.Lays.n190 Try.prog Try.lays190_ren := {
  mixed := by kernel_rfl
  f125 := Try.func58.trans (congrArg some (by kernel_rfl))
  f128 := Try.func74.trans (congrArg some (by kernel_rfl))
  f129 := Try.func75.trans (congrArg some (by kernel_rfl))
  f190 := Try.func31.trans (congrArg some (by kernel_rfl))
  f258 := Try.func57.trans (congrArg some (by kernel_rfl))
  f302 := Try.func65.trans (congrArg some (by kernel_rfl))
  f303 := Try.func66.trans (congrArg some (by kernel_rfl))
  f304 := Try.func67.trans (congrArg some (by kernel_rfl))
  f305 := Try.func68.trans (congrArg some (by kernel_rfl))
  f306 := Try.func69.trans (congrArg some (by kernel_rfl))
  f307 := Try.func70.trans (congrArg some (by kernel_rfl))
  f308 := Try.func71.trans (congrArg some (by kernel_rfl))
  f309 := Try.func72.trans (congrArg some (by kernel_rfl))
  f310 := Try.func73.trans (congrArg some (by kernel_rfl))
  f329 := Try.func80.trans (congrArg some (by kernel_rfl))
  f330 := Try.func81.trans (congrArg some (by kernel_rfl))
  f333 := Try.func79.trans (congrArg some (by kernel_rfl))
  f334 := Try.func82.trans (congrArg some (by kernel_rfl))
  f335 := Try.func83.trans (congrArg some (by kernel_rfl))
  f336 := Try.func84.trans (congrArg some (by kernel_rfl))
  f344 := Try.func85.trans (congrArg some (by kernel_rfl))
  t0 := Try.underlying0
  a0 := Try.isAgg0
  z0 := Try.sizeOf0
  v0 := Try.zeroValue0
  t3 := Try.underlying3
  a3 := Try.isAgg3
  z3 := Try.sizeOf3
  v3 := Try.zeroValue3
  t4 := Try.underlying4
  a4 := Try.isAgg4
  z4 := Try.sizeOf4
  v4 := Try.zeroValue4
  t5 := Try.underlying5
  a5 := Try.isAgg5
  z5 := Try.sizeOf5
  v5 := Try.zeroValue5
  t9 := Try.underlying9
  a9 := Try.isAgg9
  z9 := Try.sizeOf9
  v9 := Try.zeroValue9
  t31 := Try.underlying79
  a31 := Try.isAgg79
  z31 := Try.sizeOf79
  v31 := Try.zeroValue79
  t46 := Try.underlying114
  a46 := Try.isAgg114
  z46 := Try.sizeOf114
  v46 := Try.zeroValue114
  t51 := Try.underlying128
  a51 := Try.isAgg128
  z51 := Try.sizeOf128
  v51 := Try.zeroValue128
  t53 := Try.underlying130
  a53 := Try.isAgg130
  z53 := Try.sizeOf130
  v53 := Try.zeroValue130
  t131 := Try.underlying54
  a131 := Try.isAgg54
  z131 := Try.sizeOf54
  v131 := Try.zeroValue54
  t182 := Try.underlying120
  a182 := Try.isAgg120
  z182 := Try.sizeOf120
  v182 := Try.zeroValue120
  t183 := Try.underlying121
  a183 := Try.isAgg121
  z183 := Try.sizeOf121
  v183 := Try.zeroValue121
  t218 := Try.underlying136
  a218 := Try.isAgg136
  z218 := Try.sizeOf136
  v218 := Try.zeroValue136
  t222 := Try.underlying140
  a222 := Try.isAgg140
  z222 := Try.sizeOf140
  v222 := Try.zeroValue140
  t228 := Try.underlying153
  a228 := Try.isAgg153
  z228 := Try.sizeOf153
  v228 := Try.zeroValue153
  t229 := Try.underlying154
  a229 := Try.isAgg154
  z229 := Try.sizeOf154
  v229 := Try.zeroValue154 }
open Go.Sort Go.RowKit in
theorem Try.slices_Sort_string (blk off cap : Nat) (ss : List (List UInt8)) (w : World) (hH : Holds encStr w blk off ss.toArray) (hblk : blk < w.heap.size) (hsz : ss.length < 4611686018427387904) :
    Calls Try.prog 31 #[.slice (some ⟨blk, off, none⟩) ss.length cap] w fun e w' =>
      e = .returned (.tuple #[]) ∧ ∃ n os, w' = grow (putRow encStr (Sort.ahead w n) blk off (ss.mergeSort fun x y => decide (x ≤ y)).toArray) os := Any.slices_Sort_string Try.lays190 blk off cap ss w hH hblk hsz
open Go.RowKit Go.Sort in
/-- .. and plain. (LAID: no walk: one application.) -/
theorem Try.slices_Sort_string_none (p : Option Addr) (cap : Nat) (w : World) :
    Calls Try.prog 31 #[.slice p 0 cap] w fun e w' => e = .returned (.tuple #[]) ∧ w' = w := Any.slices_Sort_string_none Try.lays190 p cap w
end Go.Proofs
/- The program's Files: the names collected off the map, sorted; each file's bytes copied. -/
namespace Go.Proofs.Ytplknppmaepinaa.S
open Go Go.RowKit Go.X Go.Maps Go.Sort Go.Proofs.YtplknppmaepinaaW.PrintWords Go.Proofs.Ytplknppmaepinaa.F
set_option maxRecDepth 100000

theorem info9 : (Try.prog.info? 9).map (fun i => (i.zero, i.size, i.bytes)) = some (some (.string ⟨#[]⟩), 1, 16) := by kernel_rfl
theorem encStr_ky (n : ByteArray) : Go.Proofs.encStr (ky n) = .string n := by simp [Go.Proofs.encStr, ky]
def nameCells (L : List S73) : List Value := L.map fun f => .string f.f0
/-- The keys, sorted, are the names in the list's own order. -/
theorem keys_sorted {D : DataW Value} {left : Lit → Bool} {ss : List (List UInt8)} {L : List S73} (h : Collected D left ss) (hl : ∀ kl, left kl = false) (hh : ∀ n : ByteArray, Maps.has D (.string (ky n)) = hasN L n) (hr : Rises L) :
    ss.length = L.length ∧ (ss.mergeSort fun x y => decide (x ≤ y)).map Go.Proofs.encStr = nameCells L := by
  have hm : ∀ x, x ∈ ss ↔ x ∈ L.map fun f => ky f.f0 := fun x => by
    have e : x = ky ⟨x.toArray⟩ := by simp [ky]
    rw [h.2 x, hl]
    rw [e, hh, hasN_iff, List.mem_map]
    simp
  have hnd : (L.map fun f => ky f.f0).Nodup := List.pairwise_map.2 (hr.imp fun hlt => ne_of_lt' hlt)
  have hp : ss.Perm (L.map fun f => ky f.f0) := (List.perm_ext_iff_of_nodup h.1 hnd).2 hm
  refine ⟨by simpa using hp.length_eq, ?_⟩
  have h1 := mergeSort_of_perm hp
  have h2 : (L.map fun f => ky f.f0).mergeSort leB = L.map fun f => ky f.f0 := by
    refine List.mergeSort_of_pairwise (List.pairwise_map.2 (hr.imp fun {a b} hlt => ?_))
    simp only [leB, decide_eq_true_eq]
    exact List.le_of_lt hlt
  have h3 : (ss.mergeSort fun x y => decide (x ≤ y)) = L.map fun f => ky f.f0 := h1.trans h2
  rw [h3, List.map_map, nameCells]
  exact List.map_congr_left fun f _ => encStr_ky f.f0
/-- slices.Sort of a row of the call's own. -/
theorem sort.calls {w : World} {base : Nat} {v : Value} {ss : List (List UInt8)} (h : w.ownsRow base 9 1 v ss.length (ss.map Go.Proofs.encStr)) (hb : base ≤ w.heap.size) (hl : ss.length < 4611686018427387904) :
    Calls Try.prog 31 #[v] w fun e w' => e = .returned (.tuple #[]) ∧ w'.ownsRow base 9 1 v ss.length ((ss.mergeSort fun x y => decide (x ≤ y)).map Go.Proofs.encStr) ∧ Below base w w' := by
  rcases h.2 with ⟨rfl, h0⟩ | ⟨g, cap, cur, rfl, h1, h2, h3, h4, h5, h6⟩
  · obtain rfl := List.eq_nil_of_length_eq_zero h0
    refine (Try.slices_Sort_string_none none 0 w).mono ?_
    rintro e w' ⟨rfl, rfl⟩
    exact ⟨rfl, by simpa using h, Below.refl _ _⟩
  · have hgl : g < w.heap.size := (Array.getElem?_eq_some_iff.1 h2).1
    refine (Try.slices_Sort_string g 0 cap ss w (holds_of_block h2 (by simpa using h6)) hgl hl).mono ?_
    rintro e w' ⟨rfl, n, os, rfl⟩
    exact ⟨rfl, ownsRow_sorted (by simp) h1 h2 h3 h4 h5, (Below.refl _ _).grown (grownBy_sorted _) hb (fun j hj => by cases hj; exact h1)⟩

/-- The first loop's head. -/
structure Names (w wr : World) (N fm : Nat) (D : DataW Value) (v : Value) (q : Nat) (left : Lit → Bool) (ss : List (List UInt8)) : Prop where
  rng : wr.ranges Try.prog 9 RH fm N (Maps.size D) D left q
  few : ss.length + q ≤ Maps.size D
  row : wr.ownsRow N 9 1 v ss.length (ss.map Go.Proofs.encStr)
  col : Collected D left ss
  bel : Below N w wr
theorem Names.next {w wr w2 w4 : World} {N fm : Nat} {D : DataW Value} {v v4 : Value} {q q2 : Nat} {left : Lit → Bool} {ss : List (List UInt8)} {x : List UInt8} {y : DataW Value} (h : Names w wr N fm D v q left ss) (hlk : left (.string x) = true) (hat : ∀ zd, D.atKey (.string x) zd = y)
    (hrg : w2.ranges Try.prog 9 RH fm N (Maps.size D) D (fun z => left z && !z.sameKey (.string x)) q2) (hlt : q2 < q) (hg : wr.grownBy w2 (some N)) (o : Obj) (ho : w4.ownsRow N 9 1 v4 (ss.length + 1) (ss.map Go.Proofs.encStr ++ [Go.Proofs.encStr x]))
    (ha : Appended (w2.alloc o) w4 9 1 v v4 ss.length) (hfm : fm < N) (hN : N ≤ w.heap.size) : Names w w4 N fm D v4 q2 (fun z => left z && !z.sameKey (.string x)) (ss ++ [x]) := by
  have row2 : w2.ownsRow N 9 1 v ss.length (ss.map Go.Proofs.encStr) := h.row.kept hg (Or.inr (row_ne_iter h.row h.rng).symm)
  refine ⟨(hrg.alloc o).kept ha.grown (row_ne_low row2 hfm) (row_ne_iter row2 hrg), ?_, by simpa using ho, h.col.step hlk hat, ?_⟩
  · have := h.few
    simp; omega
  · have b2 : Below N w w2 := h.bel.grown hg (Nat.le_trans hN h.bel.size) (fun j hj => by cases hj; exact Nat.le_refl _)
    exact (b2.alloc (Nat.le_trans hN b2.size) o).grown ha.grown (by have := b2.size; simp; omega) (fun j hj => (row2.lt j hj).1)
theorem name_at {w : World} {base : Nat} {L : List S73} {A : Option Addr} {n c : Nat} (h : w.ownsRow base 9 1 (.slice A n c) n (nameCells L)) {i : Nat} {f : S73} (hf : L[i]? = some f) : ∃ ad, A = some ad ∧ w.cell? (ad.add i) = some (.string f.f0) := by
  obtain ⟨ad, e, hc⟩ := own_news h (by
    intro h0
    have hl := (List.getElem?_eq_some_iff.1 hf).1
    have h1 := congrArg List.length h0
    simp [nameCells] at h1
    simp [h1] at hl)
  exact ⟨ad, e, hc i _ (by simp [nameCells, hf])⟩
theorem own_type9 {w : World} {base base' : Nat} {n m : Nat} {v u : Value} {xs ys : List Value} (h : w.ownsRow base 9 1 v n xs) (h' : w.ownsRow base' 73 2 u m ys) : v.ownBlock = none ∨ v.ownBlock ≠ u.ownBlock := own_type_ne h h' (by decide)
/-- The second loop's head. -/
structure Told (w wr : World) (N : Nat) (v u : Value) (L : List S73) (i : Nat) : Prop where
  files : FilesAt wr (fun k => N ≤ k) u (L.take i)
  names : wr.ownsRow N 9 1 v L.length (nameCells L)
  bel : Below N w wr
theorem Told.next {w wr w3 w4 : World} {N : Nat} {v u u4 x : Value} {L : List S73} {f : S73} {i : Nat} {cs : List Value} (h : Told w wr N v u L i) (hf : L[i]? = some f) (hok : ∀ g, u.ownBlock = some g → N ≤ g) (hfc : FileCells wr (fun k => N ≤ k) (L.take i) cs) (how : wr.ownsRow 0 73 2 u i cs)
    (hb : Below wr.heap.size wr w3) (hN : N ≤ w.heap.size) (hd : DataAt w3 (fun k => N ≤ k) x f.f1) (ho : w4.ownsRow 0 73 2 u4 (i + 1) (cs ++ [.string f.f0, x])) (ha : Appended (w3.alloc (.cells #[.string f.f0, x] 73)) w4 73 2 u u4 i) : Told w w4 N v u4 L (i + 1) := by
  have hil := (List.getElem?_eq_some_iff.1 hf).1
  have hal : Below w3.heap.size w3 (w3.alloc (.cells #[.string f.f0, x] 73)) := (Below.refl _ w3).alloc (Nat.le_refl _) _
  have hb' := hb.trans (hal.mono hb.size)
  have hle := Nat.le_trans hN h.bel.size
  have k := files_next (by rw [List.length_take]; omega) hok hfc how hb' hle (hd.keep (Keeps.below hal)) ho ha
  have r1 : (w3.alloc (.cells #[.string f.f0, x] 73)).ownsRow N 9 1 v L.length (nameCells L) := ownsRow_keep (ok := fun _ => True) h.names (Keeps.below hb') (fun _ _ => trivial)
  have r2 : (w3.alloc (.cells #[.string f.f0, x] 73)).ownsRow 0 73 2 u i cs := ownsRow_keep (ok := fun _ => True) how (Keeps.below hb') (fun _ _ => trivial)
  exact ⟨by rw [take_next hf]; exact k.1, ha.keeps _ _ _ _ _ _ r1 ((own_type9 r1 r2).imp id fun q => .inl q), h.bel.trans k.2⟩
set_option maxHeartbeats 8000000 in
theorem files.calls {w : World} {ok : Nat → Prop} {sb : Nat} {s : Sh} (h : ShelfAt w ok sb s) (hg : Good s) :
    Calls Try.prog 11 #[.pointer (some ⟨sb, 0, none⟩)] w fun e w' => ∃ v, e = .returned v ∧ FilesAt w' (fun k => w.heap.size ≤ k) v s.L ∧ Below w.heap.size w w' := by
  obtain ⟨i0, hi, hz0, hz1, hz2⟩ := info_parts info9
  obtain ⟨j0, hj, hy0, hy1, hy2⟩ := info_parts info73
  obtain ⟨fm, pm, am, cv, h1, h2, -⟩ := h.out
  obtain ⟨D, h3, h4, h5, h6⟩ := h2.out
  have hfl := h2.lt
  have hn : s.L.length ≤ 64 := hg.few
  have c0 : w.cell? ⟨sb, 0, none⟩ = some (.map (some fm)) := h1.cell 0
  have HC0 := Lib.hid c0
  have HOW := Lib.hid h3; clear h3
  have HF := Lib.hid h2; clear h2 h6 h1 h
  have HSZ := Lib.hid h4
  have HHAS := Lib.hid h5; clear h5
  have HR : Hid (Rises s.L) := hg.rises
  have HNM : Hid (∀ f ∈ s.L, f.f0.size ≤ maxLen ∧ f.f1.length ≤ 16777216) := fun f hf => by
    have := len_sz hf
    have := hg.fits
    have := hg.room1
    have hk := hg.names f hf
    simp only [nmOK, Bool.and_eq_true, decide_eq_true_eq] at hk
    exact ⟨by simp only [maxLen]; omega, by omega⟩
  clear hg
  have HI := Lib.hid hi; clear hi
  have HZ0 := Lib.hid hz0; clear hz0
  have HZ1 := Lib.hid hz1; clear hz1
  have HZ2 := Lib.hid hz2; clear hz2
  have HJ := Lib.hid hj; clear hj
  have HY0 := Lib.hid hy0; clear hy0
  have HY1 := Lib.hid hy1; clear hy1
  have HY2 := Lib.hid hy2; clear hy2
  go_enter Try.func11, Try.ntmps11
  go_wp2_with (first
    | (at_range; refine wpList_range_own _ rfl _ 80 rfl 9 39 lawS Try.underlying80 RH fm (Maps.size D) D rfl HOW.out ?_; intro w0 hrg0 hg0 hs0)
    | fail)
  go_frame
  have HFM : Hid (fm < w.heap.size) := Lib.hid hfl
  have H0 : Hid (Names w w0 w.heap.size fm D (.slice none 0 0) (Maps.size D) (Maps.has D) []) :=
    ⟨hrg0, by simp, own_nil _ _ _ _, Collected.start D, (Below.refl _ _).grown hg0 (Nat.le_refl _) (fun j hj => by cases hj)⟩
  clear hrg0 hg0 hs0 hfl c0 h4
  obtain ⟨N, hN⟩ : ∃ N, w.heap.size = N := ⟨_, rfl⟩
  have HN := Lib.hid hN
  rw [hN] at H0 HFM ⊢
  clear hN
  go_loopg [3] (Maps.size D) (fun q v wr => ∃ cnt left ss, q = cnt ∧ Hid (Names w wr N fm D v cnt left ss))
  case atStart => exact ⟨_, _, [], rfl, H0.out⟩
  case round =>
    clear H0
    obtain ⟨cnt, left, ss, hq, H⟩ := hrel
    go_wp2_with (first
      | (at_next; refine wpList_next_ranges _ rfl _ rfl 9 lawS RH Go.Proofs.encStr (fun v : Value => v) (fun key kl hk => by obtain ⟨x, hx, _⟩ := Maps.keyOf_str Try.underlying9 hk; exact ⟨x, hx⟩) (fun v y hv => ⟨v, rfl⟩) fm N (Maps.size D) D left cnt rfl H.out.rng ?_ ?_)
      | fail)
    · intro hc0 hl0
      obtain ⟨hlen, hsort⟩ := keys_sorted H.out.col hl0 HHAS.out HR.out
      have HL := Lib.hid hl0; clear hl0 hc0 hq
      obtain ⟨A3, c3, rfl⟩ := own_slice H.out.row
      have HROW : Hid (wr.ownsRow N 9 1 (.slice A3 s.L.length c3) ss.length (ss.map Go.Proofs.encStr)) := by
        have := H.out.row
        rw [hlen] at this ⊢
        exact this
      have HBEL : Hid (Below N w wr) := H.out.bel
      have HLEN := Lib.hid hlen
      have HSORT := Lib.hid hsort; clear hsort
      rw [hlen]
      clear hlen H
      go_wp2_with (first
        | (go_at_call 31; refine (sort.calls HROW.out (Nat.le_trans (HN.out ▸ Nat.le_refl _) HBEL.out.size) (by have := HLEN.out; omega)).mono ?_; rintro e w1 ⟨rfl, hrow1, hb1⟩
           have HR1 : Hid (w1.ownsRow N 9 1 (.slice A3 s.L.length c3) s.L.length (nameCells s.L)) := by rw [HSORT.out, HLEN.out] at hrow1; exact hrow1
           have HB1 : Hid (Below N w w1) := HBEL.out.trans hb1
           clear hrow1 hb1)
        | (at_make; refine wpList_make_own _ rfl _ _ 22 rfl N 73 j0 _ 2 Try.underlying22 HJ.out HY0.out HY1.out .i64 .i64 _ s.L.length rfl rfl rfl (by rw [HY2.out]; omega) (by simp only [maxLen]; omega) (Nat.le_trans (HN.out ▸ Nat.le_refl _) HB1.out.size) ?_; intro w2 ho2 hg2
           have H2 : Hid (Told w w2 N (.slice A3 s.L.length c3) (.slice (some ⟨w1.heap.size, 0, none⟩) 0 s.L.length) s.L 0) :=
             ⟨⟨fun g hg => own_ge ho2 g hg, [], .nil, own_low ho2 (Nat.zero_le _)⟩, HR1.out.kept hg2 (by cases (Value.slice A3 s.L.length c3).ownBlock <;> simp), HB1.out.grown hg2 (Nat.le_trans (HN.out ▸ Nat.le_refl _) HB1.out.size) (fun j hj => by cases hj)⟩
           clear ho2 hg2)
        | fail)
      go_loopg [5, 28] s.L.length (fun q u v wr => ∃ i : Nat, q + i = s.L.length ∧ v = .int .i64 (i : Nat) ∧ Hid (Told w wr N (.slice A3 s.L.length c3) u s.L i))
      case atStart => exact ⟨0, by simp, rfl, H2.out⟩
      case round =>
        clear H2
        rename World => wr2
        obtain ⟨i, hi, rfl, H⟩ := hrel
        by_cases hlt : i < s.L.length
        · obtain ⟨f, hf⟩ : ∃ f, s.L[i]? = some f := ⟨_, List.getElem?_eq_getElem hlt⟩
          obtain ⟨ad, rfl, e0⟩ := name_at H.out.names hf
          have hmem := List.mem_of_getElem? hf
          have hsize := (HNM.out f hmem).1
          have HFL : Hid (f.f1.length ≤ 16777216) := (HNM.out f hmem).2
          have HBW : Hid (Below w.heap.size w wr2) := by have := H.out.bel; rw [← HN.out] at this; exact this
          have hbw : ∀ {ok : Nat → Prop}, Keeps ok w wr2 := Keeps.below HBW.out
          obtain ⟨ov, hlk, -, hdat⟩ := HF.out.look hsize
          have hlk0 := (hlk wr2 hbw).2
          obtain ⟨A1, c1, rfl, _, hc1⟩ := (hdat f hmem rfl).slice
          have HC1 : Hid (Kd.C (Kd.int .u8) wr2 A1 f.f1.length f.f1) := Kd.C_below hc1 HBW.out
          have c0 : wr2.cell? ⟨sb, 0, none⟩ = some (.map (some fm)) := Below.cellS HBW.out HC0.out
          have HFF := Lib.hid hf
          clear hlk hdat hc1 hmem hsize hf hbw
          have hi0 : (0 : Int) ≤ (i : Int) := Int.natCast_nonneg _
          have hi1 : (i : Int) < (s.L.length : Int) := Int.ofNat_lt.2 hlt
          obtain ⟨cs, HX⟩ : ∃ cs, Hid (FileCells wr2 (fun k => N ≤ k) (s.L.take i) cs ∧ wr2.ownsRow 0 73 2 u5 i cs ∧ (∀ g, u5.ownBlock = some g → N ≤ g)) := by
            obtain ⟨k1, cs, k2, k3⟩ := H.out.files
            have hl : (s.L.take i).length = i := by rw [List.length_take]; omega
            rw [hl] at k3
            exact ⟨cs, k2, k3, k1⟩
          have HIL : Hid (i < 64) := by show _ < _; omega
          go_wp2_with (first
            | (go_at_call 32; refine (fresh.calls A1 c1 f.f1 wr2 HC1.out (by have := HFL.out; omega)).mono ?_; rintro e w3 ⟨v3, rfl, hdat, hbl⟩
               have HB3 : Hid (Below wr2.heap.size wr2 w3) := hbl
               have HD3 : Hid (DataAt w3 (fun k => N ≤ k) v3 f.f1) := hdat.mono fun k hk => Nat.le_trans (Nat.le_trans (HN.out ▸ Nat.le_refl _) H.out.bel.size) hk
               have HO3 : Hid (w3.ownsRow 0 73 2 u5 i cs) := ownsRow_keep (ok := fun _ => True) HX.out.2.1 (Keeps.below hbl) (fun _ _ => trivial)
               obtain ⟨A6, c6, rfl, _, _⟩ := hdat.slice
               clear hdat hbl)
            | (at_builtin; refine append1 (w := w3) rfl (.tmp 32) (.tmp 42) 22 73 rfl 0 _ 2 40 Try.underlying22 info73 rfl u5 i cs rfl HO3.out [.string f.f0, .slice A6 f.f1.length c6] rfl rfl (by simp [Value.oneCell']) (by have := HIL.out; simp only [maxLen]; omega) (by have := HIL.out; omega) (Nat.zero_le _) ?_)
            | fail)
          intro v4 w4 ho4 ha4
          obtain ⟨A4, c4, rfl⟩ := own_slice ho4
          have HNX : Hid (Told w w4 N (.slice (some ad) s.L.length c3) (.slice A4 (i + 1) c4) s.L (i + 1)) := H.out.next HFF.out HX.out.2.2 HX.out.1 HX.out.2.1 HB3.out (HN.out ▸ Nat.le_refl _) HD3.out ho4 ha4
          have hiw : wrap64 ((i : Int) + 1) = ((i + 1 : Nat) : Int) := by have := HIL.out; rw [IntWalk.wrap64_in _ (by omega)]; rfl
          clear ho4 ha4 hlk0 c0 e0 hi0 hi1 HX H
          go_wp2
          go_roundg (s.L.length - (i + 1))
          case measure => clear hiw; omega
          case rel => exact ⟨i + 1, by clear hiw; omega, by first | rfl | rw [hiw], HNX.out⟩
        · obtain rfl : i = s.L.length := by omega
          have HT : Hid (FilesAt wr2 (fun k => N ≤ k) u5 s.L ∧ Below N w wr2) := by have := H.out.files; rw [List.take_length] at this; exact ⟨this, H.out.bel⟩
          clear H
          go_wp2
          go_ret
          exact ⟨u5, rfl, by rw [HN.out]; exact HT.out.1, by rw [HN.out]; exact HT.out.2⟩
    · intro x c kl yd yp w2 cnt2 hkey hlk hv hat hrg2 hlt hg2 hs2 hen
      obtain ⟨x', ex, rfl, hxl⟩ := Maps.keyOf_str Try.underlying9 hkey
      obtain rfl : x = x' := encStr_inj ex
      have HX : Hid ((left (.string x) = true) ∧ (∀ zd, D.atKey (.string x) zd = yd) ∧ w2.ranges Try.prog 9 RH fm N (Maps.size D) D (fun z => left z && !z.sameKey (.string x)) cnt2 ∧ wr.grownBy w2 (some N)) := ⟨hlk, hat, hrg2, hg2⟩
      clear hs2 hkey hlk hat hrg2 hg2 hv ex hxl
      have HROW : Hid (w2.ownsRow N 9 1 u3 ss.length (ss.map Go.Proofs.encStr)) := H.out.row.kept HX.out.2.2.2 (Or.inr (row_ne_iter H.out.row H.out.rng).symm)
      have HSS : Hid (ss.length ≤ 64) := by have := H.out.few; have := HSZ.out; show _ ≤ _; omega
      go_wp2_with (first
        | (at_builtin; refine append1 (w := w2) rfl (.tmp 17) (.tmp 19) 79 9 rfl N _ 1 16 Try.underlying79 info9 rfl u3 ss.length (ss.map Go.Proofs.encStr) rfl HROW.out [Go.Proofs.encStr x] rfl rfl (by simp [Value.oneCell', Go.Proofs.encStr]) (by have := HSS.out; simp only [maxLen]; omega) (by have := HSS.out; omega) (Nat.le_trans (HN.out ▸ Nat.le_refl _) (Nat.le_trans H.out.bel.size HX.out.2.2.2.size)) ?_)
        | fail)
      intro v4 w4 ho4 ha4
      obtain ⟨A4, c4, rfl⟩ := own_slice ho4
      have HNX : Hid (Names w w4 N fm D (.slice A4 (ss.length + 1) c4) cnt2 (fun z => left z && !z.sameKey (.string x)) (ss ++ [x])) :=
        H.out.next HX.out.1 HX.out.2.1 HX.out.2.2.1 hlt HX.out.2.2.2 _ ho4 ha4 HFM.out (HN.out ▸ Nat.le_refl _)
      clear ho4 ha4 hen
      go_wp2
      go_roundg cnt2
      case measure => omega
      case rel => exact ⟨cnt2, _, _, rfl, HNX.out⟩
end Go.Proofs.Ytplknppmaepinaa.S
/- The law's begin: both shelves made; what was handed in, held against its copy and written over. -/
namespace Go.Proofs.Ytplknppmaepinaa.S
open Go Go.RowKit Go.X Go.Maps Go.Proofs.YtplknppmaepinaaW.PrintWords Go.Proofs.Ytplknppmaepinaa.F
set_option maxRecDepth 100000

theorem ShelfAt.bound {w : World} {ok : Nat → Prop} {sb : Nat} {s : Sh} (h : ShelfAt w ok sb s) : ShelfAt w (fun k => ok k ∧ k < w.heap.size) sb s := by
  obtain ⟨fm, pm, am, cv, h1, h2, h3, h4, h5, h6, h7⟩ := h.out
  obtain ⟨D, k1, k2, k3, k4⟩ := h2.out
  exact ⟨fm, pm, am, cv, h1, ⟨D, k1, k2, k3, fun f hf => by obtain ⟨v, e, hd⟩ := k4 f hf; exact ⟨v, e, hd.bound⟩⟩, h3, h4, h5, ⟨⟨h6.1, h1.lt⟩, ⟨h6.2.1, h2.lt⟩, ⟨h6.2.2.1, h3.lt⟩, ⟨h6.2.2.2.1, h4.lt⟩, fun g hg => ⟨h6.2.2.2.2 g hg, own_lt h5 g hg⟩⟩, h7⟩
/-- What the program's New leaves, told at once. -/
theorem NewPost.told {w w' : World} {fs : List S73} {room : Int} {ps : List S76} {e : Ending} (h : NewPost w fs room ps e w') : Below w.heap.size w w' ∧ ∃ sp : Option Addr, e = .returned (.tuple #[.pointer sp, .int .i64 (newE fs room ps)]) ∧ (sp = none ↔ newE fs room ps ≠ 0) ∧ (newE fs room ps = 0 → ∃ sb, sp = some ⟨sb, 0, none⟩ ∧ ShelfAt w' (fun k => w.heap.size ≤ k) sb (newS fs room ps)) := by
  obtain ⟨hb, h | h⟩ := h
  · exact ⟨hb, none, h.2, by simp [h.1], fun e => absurd e h.1⟩
  · obtain ⟨h0, sb, rfl, hs⟩ := h
    exact ⟨hb, some ⟨sb, 0, none⟩, by rw [h0], by simp [h0], fun _ => ⟨sb, rfl, hs⟩⟩
end Go.Proofs.Ytplknppmaepinaa.S
/- The program's Read, Remove, Write. -/
namespace Go.X
open Go Go.RowKit
section
variable {P : Program} {ops : Array Oper} {o : Oper} {a : Act} {w : World} {K : Act → World → Prop} {Q : Exit → Act → World → Prop} {E : Prop}
/-- 'delete(m, k)', inside a region that draws its order. -/
theorem step_delete (hgd : o.guard = none) (m x : Operand) (t k : TypeId) (ho : o.op = .call { callee := .builtin .delete, args := #[m, x], argTypes := #[t, k] }) (mv kv : Value) (hm : a.eval m = mv) (hx : a.eval x = kv) (w' : World)
    (hrun : (Builtin.delete_ #[t, k] o.type #[mv, kv]).run P w = .ok (.tuple #[]) w') (h : K (a.put o.dst (.tuple #[])) w') :
    if Region.wanted o (yielded ops a.tmps) = true then Oper.wp P o a w K Q else E := by
  have hw : Region.wanted o (yielded ops a.tmps) = true := by simp [Region.wanted, hgd]
  rw [if_pos hw]
  unfold Oper.wp
  simp [execOp, ho, resolve, invoke, builtin, hm, hx, hrun, Result.andThen]
  exact h
end
end Go.X
namespace Go.Proofs.Ytplknppmaepinaa.S
open Go Go.RowKit Go.X Go.Maps Go.Proofs.YtplknppmaepinaaW.PrintWords Go.Proofs.Ytplknppmaepinaa.F
set_option maxRecDepth 100000

def lkE (s : Sh) (n : ByteArray) : Int := if hasN s.L n then 0 else 11
/-- The error of a number. -/
def errV (e : Int) : Value := if e = 0 then .nilIface else .iface 42 (.int .i64 e)
theorem askE_ok {s : Sh} {c : Int} {n : ByteArray} {lk : Int} (h : askE s c n lk = 0) : nmOK n = true ∧ lk = 0 := by
  unfold askE at h
  split at h
  · rename_i h0; exact absurd h h0
  · split at h
    · rename_i h1; exact ⟨h1, h⟩
    · cases h
theorem lkE_ok {s : Sh} {n : ByteArray} (h : lkE s n = 0) : hasN s.L n = true := by
  unfold lkE at h
  split at h
  · assumption
  · cases h
/-- What Read leaves. -/
def ReadPost (w : World) (ok : Nat → Prop) (sb : Nat) (s : Sh) (n : ByteArray) (e : Ending) (w' : World) : Prop :=
  ∃ v, e = .returned (.tuple #[v, errV (askE s 1 n (lkE s n))]) ∧ DataAt w' (fun k => w.heap.size ≤ k) v (if askE s 1 n (lkE s n) = 0 then lookL n s.L else []) ∧ ShelfAt w' (fun k => ok k ∨ w.heap.size ≤ k) sb (s.note 1 n (askE s 1 n (lkE s n))) ∧ But ok w w' ∧ ∀ okd v bs, DataAt w okd v bs → DataAt w' okd v bs
set_option maxHeartbeats 4000000 in
theorem read.calls {w : World} {ok : Nat → Prop} {sb : Nat} {s : Sh} (h : ShelfAt w ok sb s) (hg : Good s) (n : ByteArray) (hn : n.size ≤ maxLen) (hall : s.all.length ≤ 1073741824) :
    Calls Try.prog 20 #[.pointer (some ⟨sb, 0, none⟩), .string n] w (ReadPost w ok sb s n) := by
  obtain ⟨E, hE⟩ : ∃ E, askE s 1 n (lkE s n) = E := ⟨_, rfl⟩
  have HE := Lib.hid hE
  have hs0 : ((w.alloc (.cells #[.pointer (some ⟨sb, 0, none⟩)] 27)).alloc (.cells #[.string n] 9)).heap.size = w.heap.size + 2 := by simp
  have HB0 : Hid (Below w.heap.size w ((w.alloc (.cells #[.pointer (some ⟨sb, 0, none⟩)] 27)).alloc (.cells #[.string n] 9)) ∧ Blk ((w.alloc (.cells #[.pointer (some ⟨sb, 0, none⟩)] 27)).alloc (.cells #[.string n] 9)) w.heap.size 27 [.pointer (some ⟨sb, 0, none⟩)] ∧ Blk ((w.alloc (.cells #[.pointer (some ⟨sb, 0, none⟩)] 27)).alloc (.cells #[.string n] 9)) (w.heap.size + 1) 9 [.string n]) := by
    have a1 := Blk.alloc w #[.pointer (some ⟨sb, 0, none⟩)] 27
    have s1 : (w.alloc (.cells #[.pointer (some ⟨sb, 0, none⟩)] 27)).heap.size = w.heap.size + 1 := by simp
    have b2 := (Below.refl _ (w.alloc (.cells #[.pointer (some ⟨sb, 0, none⟩)] 27))).alloc (Nat.le_refl _) (.cells #[.string n] 9)
    have a2 := Blk.alloc (w.alloc (.cells #[.pointer (some ⟨sb, 0, none⟩)] 27)) #[.string n] 9
    rw [s1] at a2
    exact ⟨((Below.refl _ w).alloc (Nat.le_refl _) _).alloc (by simp) _, a1.below b2 a1.lt, a2⟩
  have HS0 : Hid (ShelfAt ((w.alloc (.cells #[.pointer (some ⟨sb, 0, none⟩)] 27)).alloc (.cells #[.string n] 9)) (fun k => ok k ∧ k < w.heap.size) sb s) := h.bound.keep (Keeps.below HB0.out.1)
  have HSZ := Lib.hid hs0; clear hs0
  have HALL := Lib.hid hall; clear hall
  have HG := Lib.hid hg; clear hg h hE
  have hmf : ∀ (fn : Fn) (first cap : Array Value) (w : World), (Instr.makeFunc fn first cap).run Try.prog w = .ok (.func fn first cap) w := fun _ _ _ _ => rfl
  by_cases h0 : E = 0
  · have HEN := Lib.hid h0
    subst h0
    go_enter Try.func20, Try.ntmps20
    go_wp2_with (first
      | (go_at_call 38; refine (ask.calls HS0.out 1 n 43 #[.pointer (some ⟨w.heap.size, 0, none⟩), .pointer (some ⟨w.heap.size + 1, 0, none⟩)] (lkE s n) (by decide) HALL.out (enter43 _) (fun fm rest hb hf => readLook.calls hb hf hn HB0.out.2.1 HB0.out.2.2)).mono ?_; rintro e w1 ⟨rfl, hs1, hb1, hdt1⟩; rw [HE.out] at hs1 ⊢
         have HS1 := Lib.hid hs1
         have HBT := Lib.hid hb1
         have HDT := Lib.hid hdt1
         clear hs1 hb1 hdt1)
      | fail)
    have HX1 : Hid (Blk w1 w.heap.size 27 [.pointer (some ⟨sb, 0, none⟩)] ∧ Blk w1 (w.heap.size + 1) 9 [.string n]) := ⟨HB0.out.2.1.but HBT.out (fun h => by have := h.2; omega), HB0.out.2.2.but HBT.out (fun h => by have := h.2; omega)⟩
    have HSW : Hid (Below w1.heap.size w1 w1.drew) := (Below.refl _ w1).drew
    have HSG : Hid (w.heap.size ≤ w1.heap.size) := Nat.le_trans HB0.out.1.size HBT.out.size
    have hin : hasN s.L n = true := lkE_ok (askE_ok HE.out).2
    obtain ⟨fm, pm, am, cv, k1, k2, -⟩ := HS1.out.out
    obtain ⟨ov, hlk, -, hdat⟩ := k2.look hn
    have hd := hdat _ (lookL_mem hin) rfl
    obtain ⟨A1, c1, rfl, _, hc1⟩ := hd.slice
    have hlk1 := (hlk w1.drew (Keeps.below HSW.out)).2
    have c0 : w1.cell? ⟨sb, 0, none⟩ = some (.map (some fm)) := k1.cell 0
    have c3 : w1.cell? ⟨w.heap.size, 0, none⟩ = some (.pointer (some ⟨sb, 0, none⟩)) := HX1.out.1.cell 0
    have c4 : w1.cell? ⟨w.heap.size + 1, 0, none⟩ = some (.string n) := HX1.out.2.cell 0
    have HC1 : Hid (Kd.C (Kd.int .u8) w1 A1 (lookL n s.L).length (lookL n s.L)) := hc1
    have HLN : Hid ((lookL n s.L).length ≤ 16777216) := by
      have q1 : (lookL n s.L).length ≤ szL s.L := len_sz (f := ⟨n, lookL n s.L⟩) (lookL_mem hin)
      have q2 := HG.out.fits
      have q3 := HG.out.room1
      show _ ≤ _
      omega
    have hlk2 : (Instr.lookup 80 (.map (some fm)) (.string n) false).run Try.prog w1.drew = .ok (.slice A1 (lookL n s.L).length c1) w1.drew := hlk1
    clear hlk hdat hd hc1 k1 k2 hlk1
    go_region_law (first
      | (go_simp; go_at_call 32; refine (fresh.calls A1 c1 (lookL n s.L) w1.drew (Kd.C_below HC1.out HSW.out) (by have := HLN.out; omega)).mono ?_; rintro e w3 ⟨v3, rfl, hdat, hbl⟩
         have HB3 : Hid (Below w1.heap.size w1 w3) := HSW.out.trans hbl
         have HD3 : Hid (DataAt w3 (fun k => w.heap.size ≤ k) v3 (lookL n s.L)) := hdat.mono fun k hk => Nat.le_trans HSG.out hk
         clear hdat hbl)
      | fail)
    all_goals
      go_wp2
      go_ret2
      exact ⟨v3, by rw [HE.out]; rfl, by rw [HE.out, if_pos rfl]; exact HD3.out, by rw [HE.out]; exact (HS1.out.keep (Keeps.below HB3.out)).mono fun k hk => hk.imp (fun h => h.1) fun h => by have := HSZ.out; omega,
        ((But.of_below HB0.out.1).trans2 (HBT.out.imp fun k hk => hk.1)).trans2 (But.of_below HB3.out), fun okd v bs h => (HDT.out okd v bs (h.keep (Keeps.below HB0.out.1))).keep (Keeps.below HB3.out)⟩
  · have e1 : (E == 0) = false := by simpa using h0
    have HNE := Lib.hid h0; clear h0
    go_enter Try.func20, Try.ntmps20
    go_wp2_with (first
      | (go_at_call 38; refine (ask.calls HS0.out 1 n 43 #[.pointer (some ⟨w.heap.size, 0, none⟩), .pointer (some ⟨w.heap.size + 1, 0, none⟩)] (lkE s n) (by decide) HALL.out (enter43 _) (fun fm rest hb hf => readLook.calls hb hf hn HB0.out.2.1 HB0.out.2.2)).mono ?_; rintro e w1 ⟨rfl, hs1, hb1, hdt1⟩; rw [HE.out] at hs1 ⊢
         have HS1 := Lib.hid hs1
         have HBT := Lib.hid hb1
         have HDT := Lib.hid hdt1
         clear hs1 hb1 hdt1)
      | fail)
    go_ret2
    exact ⟨_, by rw [HE.out, errV, if_neg HNE.out]; rfl, by rw [HE.out, if_neg HNE.out]; exact .inl ⟨rfl, _, _, rfl⟩, by rw [HE.out]; exact HS1.out.mono fun k hk => hk.imp (fun h => h.1) fun h => by have := HSZ.out; omega,
      (But.of_below HB0.out.1).trans2 (HBT.out.imp fun k hk => hk.1), fun okd v bs h => HDT.out okd v bs (h.keep (Keeps.below HB0.out.1))⟩

/-- The shelf behind a Remove. -/
def Sh.rem (s : Sh) (n : ByteArray) : Sh := { s.note 3 n (askE s 3 n (lkE s n)) with L := if askE s 3 n (lkE s n) = 0 then delL n s.L else s.L }
def RemPost (w : World) (ok : Nat → Prop) (sb : Nat) (s : Sh) (n : ByteArray) (e : Ending) (w' : World) : Prop :=
  e = .returned (errV (askE s 3 n (lkE s n))) ∧ ShelfAt w' (fun k => ok k ∨ w.heap.size ≤ k) sb (s.rem n) ∧ But ok w w' ∧ ∀ okd v bs, DataAt w okd v bs → DataAt w' okd v bs
/-- The sum told anew, a file gone. -/
theorem remove_end {w1 w2 w3 : World} {ok : Nat → Prop} {sb fm pm am : Nat} {cv : Value} {s : Sh} (k1 : Blk w1 sb 84 [.map (some fm), .int .i64 s.room, .int .i64 (szL s.L), .map (some pm), .map (some am), cv]) (k2 : FMap w1 ok fm s.L) (k3 : PMap w1 pm s.plan) (k4 : AMap w1 am s.all)
    (k5 : w1.ownsRow 0 102 3 cv s.all.length (callCells s.all)) (k6 : ok sb ∧ ok fm ∧ ok pm ∧ ok am ∧ ∀ g, cv.ownBlock = some g → ok g) (k7 : fm ≠ pm ∧ fm ≠ am ∧ pm ≠ am) {L' : List S73} (e2 : w2 = (w1.setCell ⟨sb, 2, none⟩ (.int .i64 (szL L' : Nat))).drew.drew) (hf : FMap w3 ok fm L') (ht : w2.mapTurned w3 fm) :
    ShelfAt w3 ok sb { s with L := L' } ∧ But (fun k => k = sb ∨ k = fm) w1 w3 := by
  have g2 : But (fun k => k = sb ∨ k = fm) w1 w2 := by
    subst e2
    exact ((But.of_grown (grown_setCell w1 ⟨sb, 2, none⟩ (.int .i64 (szL L' : Nat))) fun k e => by cases e; exact .inl rfl).trans2 (But.of_below (Below.refl _ _).drew)).trans2 (But.of_below (Below.refl _ _).drew)
  have g3 : But (fun k => k = sb ∨ k = fm) w1 w3 := g2.trans2 (But.of_grown ht.grown fun k e => by cases e; exact .inr rfl)
  have nfm := k2.ne k1
  have b2 : Blk w2 sb 84 [.map (some fm), .int .i64 s.room, .int .i64 (szL L' : Nat), .map (some pm), .map (some am), cv] := by
    subst e2
    exact k1.setCell 2 (.int .i64 (szL L' : Nat))
  have ncv : ∀ g, cv.ownBlock = some g → ¬ (g = sb ∨ g = fm) := fun g hg h => by
    obtain ⟨D, q1, _⟩ := k2.out
    rcases h with rfl | rfl
    · exact row_ne_blk k5 k1 (by decide) hg rfl
    · exact ownsMap_ne_row q1 k5 hg.symm
  refine ⟨⟨fm, pm, am, cv, b2.grown ht.grown (fun e => nfm (by injection e with e; exact e.symm)), hf, k3.keep (fun k hk hlt => by cases hk; exact g3.block _ hlt fun h => h.elim (k3.ne k1) fun h => k7.1 h.symm), k4.keep (fun k hk hlt => by cases hk; exact g3.block _ hlt fun h => h.elim (k4.ne k1) fun h => k7.2.1 h.symm), row_but k5 g3 fun b hb e => ncv b e hb, k6, k7⟩, g3⟩

theorem But.old {S : Nat → Prop} {w w' : World} (h : But (fun k => S k ∨ w.heap.size ≤ k) w w') : But S w w' :=
  ⟨h.os, h.tape, h.output, h.size, fun k hk hs => h.block k hk fun e => e.elim hs fun e => by omega⟩
theorem boxes {w : World} {sb : Nat} {n : ByteArray} : Below w.heap.size w ((w.alloc (.cells #[.pointer (some ⟨sb, 0, none⟩)] 27)).alloc (.cells #[.string n] 9)) ∧ Blk ((w.alloc (.cells #[.pointer (some ⟨sb, 0, none⟩)] 27)).alloc (.cells #[.string n] 9)) w.heap.size 27 [.pointer (some ⟨sb, 0, none⟩)] ∧ Blk ((w.alloc (.cells #[.pointer (some ⟨sb, 0, none⟩)] 27)).alloc (.cells #[.string n] 9)) (w.heap.size + 1) 9 [.string n] := by
  have a1 := Blk.alloc w #[.pointer (some ⟨sb, 0, none⟩)] 27
  have s1 : (w.alloc (.cells #[.pointer (some ⟨sb, 0, none⟩)] 27)).heap.size = w.heap.size + 1 := by simp
  have b2 := (Below.refl _ (w.alloc (.cells #[.pointer (some ⟨sb, 0, none⟩)] 27))).alloc (Nat.le_refl _) (.cells #[.string n] 9)
  have a2 := Blk.alloc (w.alloc (.cells #[.pointer (some ⟨sb, 0, none⟩)] 27)) #[.string n] 9
  rw [s1] at a2
  exact ⟨((Below.refl _ w).alloc (Nat.le_refl _) _).alloc (by simp) _, a1.below b2 a1.lt, a2⟩
set_option maxHeartbeats 4000000 in
theorem remove.calls {w : World} {ok : Nat → Prop} {sb : Nat} {s : Sh} (h : ShelfAt w ok sb s) (hg : Good s) (n : ByteArray) (hn : n.size ≤ maxLen) (hall : s.all.length ≤ 1073741824) :
    Calls Try.prog 19 #[.pointer (some ⟨sb, 0, none⟩), .string n] w (RemPost w ok sb s n) := by
  obtain ⟨E, hE⟩ : ∃ E, askE s 3 n (lkE s n) = E := ⟨_, rfl⟩
  have HE := Lib.hid hE
  have hs0 : ((w.alloc (.cells #[.pointer (some ⟨sb, 0, none⟩)] 27)).alloc (.cells #[.string n] 9)).heap.size = w.heap.size + 2 := by simp
  have HB0 : Hid _ := Lib.hid (boxes (w := w) (sb := sb) (n := n))
  have HS0 : Hid (ShelfAt ((w.alloc (.cells #[.pointer (some ⟨sb, 0, none⟩)] 27)).alloc (.cells #[.string n] 9)) (fun k => ok k ∧ k < w.heap.size) sb s) := h.bound.keep (Keeps.below HB0.out.1)
  have HSZ := Lib.hid hs0; clear hs0
  have HALL := Lib.hid hall; clear hall
  have HG := Lib.hid hg; clear hg h hE
  have hmf : ∀ (fn : Fn) (first cap : Array Value) (w : World), (Instr.makeFunc fn first cap).run Try.prog w = .ok (.func fn first cap) w := fun _ _ _ _ => rfl
  by_cases h0 : E = 0
  · subst h0
    go_enter Try.func19, Try.ntmps19
    go_wp2_with (first
      | (go_at_call 38; refine (ask.calls HS0.out 3 n 41 #[.pointer (some ⟨w.heap.size, 0, none⟩), .pointer (some ⟨w.heap.size + 1, 0, none⟩)] (lkE s n) (by decide) HALL.out (enter41 _) (fun fm rest hb hf => removeLook.calls hb hf hn HB0.out.2.1 HB0.out.2.2)).mono ?_; rintro e w1 ⟨rfl, hs1, hb1, hdt1⟩; rw [HE.out] at hs1 ⊢
         have HS1 := Lib.hid hs1
         have HBT := Lib.hid hb1
         have HDT := Lib.hid hdt1
         clear hs1 hb1 hdt1)
      | fail)
    have HX1 : Hid (Blk w1 w.heap.size 27 [.pointer (some ⟨sb, 0, none⟩)] ∧ Blk w1 (w.heap.size + 1) 9 [.string n]) := ⟨HB0.out.2.1.but HBT.out (fun h => by have := h.2; omega), HB0.out.2.2.but HBT.out (fun h => by have := h.2; omega)⟩
    have hin : hasN s.L n = true := lkE_ok (askE_ok HE.out).2
    obtain ⟨fm, pm, am, cv, hbk, hfm, hpm, ham, hrow, hoks, hne⟩ := HS1.out.out
    have hfm' : FMap w1 _ fm s.L := hfm
    obtain ⟨ov, hlk, -, hdat⟩ := hfm'.look hn
    have hd := hdat _ (lookL_mem hin) rfl
    obtain ⟨A1, c1, rfl, _, _⟩ := hd.slice
    have hlk2 : (Instr.lookup 80 (.map (some fm)) (.string n) false).run Try.prog w1.drew = .ok (.slice A1 (lookL n s.L).length c1) w1.drew := (hlk w1.drew (Keeps.below (Below.refl _ w1).drew)).2
    have c0 : w1.cell? ⟨sb, 0, none⟩ = some (.map (some fm)) := hbk.cell 0
    obtain ⟨u, hu⟩ : ∃ u, szL s.L = u := ⟨_, rfl⟩
    have c2 : w1.cell? ⟨sb, 2, none⟩ = some (.int .i64 (u : Nat)) := hu ▸ hbk.cell 2
    have cf : w1.frozen? ⟨sb, 2, none⟩ = false := hbk.frozen 2
    have c3 : w1.cell? ⟨w.heap.size, 0, none⟩ = some (.pointer (some ⟨sb, 0, none⟩)) := HX1.out.1.cell 0
    have c4 : w1.cell? ⟨w.heap.size + 1, 0, none⟩ = some (.string n) := HX1.out.2.cell 0
    obtain ⟨t, ht⟩ : ∃ t, szL (delL n s.L) = t := ⟨_, rfl⟩
    have hadd := szL_delL (n := n) (L := s.L)
    rw [ht, hu] at hadd
    have hub : u ≤ 16777216 := by have := HG.out.fits; have := HG.out.room1; omega
    have hw : IntKind.i64.wrap ((u : Int) - ((lookL n s.L).length : Int)) = (t : Int) := by rw [IntWalk.i64_in _ (by omega)]; omega
    have HHT := Lib.hid ht
    have nsb : No5 w1 (some sb) := No5.blk hbk (by decide)
    have fsb : fm ≠ sb := hfm.ne hbk
    have hfm2 : FMap (w1.setCell ⟨sb, 2, none⟩ (.int .i64 (t : Nat))).drew.drew _ fm s.L := (((hfm'.but (S := fun k => k = sb) (But.of_grown (grown_setCell w1 _ _) fun k e => by cases e; rfl) fsb (fun b hb => by cases hb; exact nsb)).below (Below.refl _ _).drew).below (Below.refl _ _).drew)
    obtain ⟨w3, hrun, hf3, ht3⟩ := hfm2.drop HG.out.rises hn hin 0
    have HEND : Hid (ShelfAt w3 (fun k => (ok k ∧ k < w.heap.size) ∨ ((w.alloc (.cells #[.pointer (some ⟨sb, 0, none⟩)] 27)).alloc (.cells #[.string n] 9)).heap.size ≤ k) sb { s.note 3 n 0 with L := delL n s.L } ∧ But (fun k => k = sb ∨ k = fm) w1 w3) :=
      remove_end (s := s.note 3 n 0) (L' := delL n s.L) hbk hfm hpm ham hrow hoks hne (w2 := (w1.setCell ⟨sb, 2, none⟩ (.int .i64 (t : Nat))).drew.drew) (by rw [ht]) hf3 ht3
    have HOK : Hid (∀ k, (k = sb ∨ k = fm) → ok k ∨ w.heap.size ≤ k) := fun k hk => by
      have q : ∀ k, ((ok k ∧ k < w.heap.size) ∨ ((w.alloc (.cells #[.pointer (some ⟨sb, 0, none⟩)] 27)).alloc (.cells #[.string n] 9)).heap.size ≤ k) → ok k ∨ w.heap.size ≤ k := fun k h => h.imp (fun h => h.1) fun h => by have := HSZ.out; omega
      rcases hk with rfl | rfl
      · exact q _ hoks.1
      · exact q _ hoks.2.1
    have HN5 : Hid (∀ b, (b = sb ∨ b = fm) → No5 w1 (some b)) := fun b hb => by
      rcases hb with rfl | rfl
      · exact nsb
      · exact hfm.no5
    have HRUN := Lib.hid hrun
    have HD : Hid ((w1.setCell ⟨sb, 2, none⟩ (.int .i64 (t : Nat))).drew.cell? ⟨sb, 0, none⟩ = some (.map (some fm)) ∧ (w1.setCell ⟨sb, 2, none⟩ (.int .i64 (t : Nat))).drew.cell? ⟨w.heap.size, 0, none⟩ = some (.pointer (some ⟨sb, 0, none⟩)) ∧ (w1.setCell ⟨sb, 2, none⟩ (.int .i64 (t : Nat))).drew.cell? ⟨w.heap.size + 1, 0, none⟩ = some (.string n)) :=
      ⟨(hbk.setCell 2 _).cell 0, (HX1.out.1.grown (grown_setCell w1 _ _) (fun e => HX1.out.1.ne hbk (by decide) (by injection e))).cell 0, (HX1.out.2.grown (grown_setCell w1 _ _) (fun e => HX1.out.2.ne hbk (by decide) (by injection e))).cell 0⟩
    clear hbk hfm hfm' hpm ham hrow hoks hne hlk hdat hd hfm2 hf3 ht3 nsb fsb hrun hub hadd ht
    go_region
    clear c0 c2 c3 c4 cf hlk2 hw
    generalize (w1.setCell ⟨sb, 2, none⟩ (.int .i64 (t : Nat))).drew = w2 at *
    have c0 := HD.out.1
    have c3 := HD.out.2.1
    have c4 := HD.out.2.2
    have hrun := HRUN.out
    go_wp2
    go_region_law (first
      | (refine step_delete rfl (.tmp 29) (.tmp 30) 80 9 rfl (.map (some fm)) (.string n) rfl rfl w3 hrun ?_)
      | fail)
    all_goals
      clear c0 c3 c4 hrun
      have ht := told.calls 0 w3
      go_wp2_with (first
        | (go_at_call 40; refine ht.mono ?_; rintro e w4 ⟨rfl, rfl⟩)
        | fail)
      go_ret
      refine ⟨by rw [HE.out]; rfl, ?_, But.old (((But.of_below HB0.out.1).trans2 (HBT.out.imp fun k hk => .inl hk.1)).trans2 (HEND.out.2.imp HOK.out)), fun okd v bs h => (HDT.out okd v bs (h.keep (Keeps.below HB0.out.1))).but HEND.out.2 HN5.out⟩
      have hrem : s.rem n = { s.note 3 n 0 with L := delL n s.L } := by rw [Sh.rem, HE.out, if_pos rfl]
      rw [hrem]
      exact HEND.out.1.mono fun k hk => hk.imp (fun h => h.1) fun h => by have := HSZ.out; omega
  · have e1 : (E == 0) = false := by simpa using h0
    have HNE := Lib.hid h0; clear h0
    go_enter Try.func19, Try.ntmps19
    go_wp2_with (first
      | (go_at_call 38; refine (ask.calls HS0.out 3 n 41 #[.pointer (some ⟨w.heap.size, 0, none⟩), .pointer (some ⟨w.heap.size + 1, 0, none⟩)] (lkE s n) (by decide) HALL.out (enter41 _) (fun fm rest hb hf => removeLook.calls hb hf hn HB0.out.2.1 HB0.out.2.2)).mono ?_; rintro e w1 ⟨rfl, hs1, hb1, hdt1⟩; rw [HE.out] at hs1 ⊢
         have HS1 := Lib.hid hs1
         have HBT := Lib.hid hb1
         have HT := Lib.hid (told.calls E w1)
         have HDT := Lib.hid hdt1
         clear hs1 hb1 hdt1)
      | (go_at_call 40; refine HT.out.mono ?_; rintro e w4 ⟨rfl, rfl⟩; rw [if_neg HNE.out])
      | fail)
    go_ret
    refine ⟨by rw [HE.out, errV, if_neg HNE.out]; rfl, ?_, (But.of_below HB0.out.1).trans2 (HBT.out.imp fun k hk => hk.1), fun okd v bs h => HDT.out okd v bs (h.keep (Keeps.below HB0.out.1))⟩
    have hrem : s.rem n = s.note 3 n E := by rw [Sh.rem, HE.out, if_neg HNE.out]; rfl
    rw [hrem]
    exact HS1.out.mono fun k hk => hk.imp (fun h => h.1) fun h => by have := HSZ.out; omega
end Go.Proofs.Ytplknppmaepinaa.S
/- The program's Write. -/
namespace Go.Proofs.Ytplknppmaepinaa.S
open Go Go.RowKit Go.X Go.Maps Go.Proofs.YtplknppmaepinaaW.PrintWords Go.Proofs.Ytplknppmaepinaa.F
set_option maxRecDepth 100000

theorem boxes4 (w : World) (a0 a1 a2 a3 : Value) : Below w.heap.size w ((((w.alloc (.cells #[a0] 27)).alloc (.cells #[a1] 39)).alloc (.cells #[a2] 39)).alloc (.cells #[a3] 4)) ∧ Blk ((((w.alloc (.cells #[a0] 27)).alloc (.cells #[a1] 39)).alloc (.cells #[a2] 39)).alloc (.cells #[a3] 4)) w.heap.size 27 [a0] ∧ Blk ((((w.alloc (.cells #[a0] 27)).alloc (.cells #[a1] 39)).alloc (.cells #[a2] 39)).alloc (.cells #[a3] 4)) (w.heap.size + 1) 39 [a1] ∧
    Blk ((((w.alloc (.cells #[a0] 27)).alloc (.cells #[a1] 39)).alloc (.cells #[a2] 39)).alloc (.cells #[a3] 4)) (w.heap.size + 1 + 1) 39 [a2] ∧ Blk ((((w.alloc (.cells #[a0] 27)).alloc (.cells #[a1] 39)).alloc (.cells #[a2] 39)).alloc (.cells #[a3] 4)) (w.heap.size + 1 + 1 + 1) 4 [a3] ∧ ((((w.alloc (.cells #[a0] 27)).alloc (.cells #[a1] 39)).alloc (.cells #[a2] 39)).alloc (.cells #[a3] 4)).heap.size = w.heap.size + 4 := by
  have e1 : (w.alloc (.cells #[a0] 27)).heap.size = w.heap.size + 1 := by simp
  have e2 : ((w.alloc (.cells #[a0] 27)).alloc (.cells #[a1] 39)).heap.size = w.heap.size + 1 + 1 := by simp
  have e3 : (((w.alloc (.cells #[a0] 27)).alloc (.cells #[a1] 39)).alloc (.cells #[a2] 39)).heap.size = w.heap.size + 1 + 1 + 1 := by simp
  have k0 := Blk.alloc w #[a0] 27
  have k1 := Blk.alloc (w.alloc (.cells #[a0] 27)) #[a1] 39
  have k2 := Blk.alloc ((w.alloc (.cells #[a0] 27)).alloc (.cells #[a1] 39)) #[a2] 39
  have k3 := Blk.alloc (((w.alloc (.cells #[a0] 27)).alloc (.cells #[a1] 39)).alloc (.cells #[a2] 39)) #[a3] 4
  rw [e1] at k1
  rw [e2] at k2
  rw [e3] at k3
  have b1 := (Below.refl _ (w.alloc (.cells #[a0] 27))).alloc (Nat.le_refl _) (.cells #[a1] 39)
  have b2 := (Below.refl _ ((w.alloc (.cells #[a0] 27)).alloc (.cells #[a1] 39))).alloc (Nat.le_refl _) (.cells #[a2] 39)
  have b3 := (Below.refl _ (((w.alloc (.cells #[a0] 27)).alloc (.cells #[a1] 39)).alloc (.cells #[a2] 39))).alloc (Nat.le_refl _) (.cells #[a3] 4)
  have j0 := k0.below b1 k0.lt
  have j0' := j0.below b2 j0.lt
  have j1 := k1.below b2 k1.lt
  exact ⟨((((Below.refl _ w).alloc (Nat.le_refl _) _).alloc (by simp) _).alloc (by simp; omega) _).alloc (by simp; omega) _, j0'.below b3 j0'.lt, j1.below b3 j1.lt, k2.below b3 k2.lt, k3, by simp⟩
theorem store_end {w1 w2 w3 : World} {ok : Nat → Prop} {sb fm pm am : Nat} {cv : Value} {s : Sh} (k1 : Blk w1 sb 84 [.map (some fm), .int .i64 s.room, .int .i64 (szL s.L), .map (some pm), .map (some am), cv]) (k2 : FMap w1 ok fm s.L) (k3 : PMap w1 pm s.plan) (k4 : AMap w1 am s.all)
    (k5 : w1.ownsRow 0 102 3 cv s.all.length (callCells s.all)) (k6 : ok sb ∧ ok fm ∧ ok pm ∧ ok am ∧ ∀ g, cv.ownBlock = some g → ok g) (k7 : fm ≠ pm ∧ fm ≠ am ∧ pm ≠ am) {L' : List S73} (g2 : But (fun k => k = sb) w1 w2) (b2 : Blk w2 sb 84 [.map (some fm), .int .i64 s.room, .int .i64 (szL L' : Nat), .map (some pm), .map (some am), cv]) (hf : FMap w3 ok fm L') (ht : w2.mapTurned w3 fm) :
    ShelfAt w3 ok sb { s with L := L' } ∧ But (fun k => k = sb ∨ k = fm) w1 w3 := by
  have g3 : But (fun k => k = sb ∨ k = fm) w1 w3 := (g2.imp fun k h => .inl h).trans2 (But.of_grown ht.grown fun k e => by cases e; exact .inr rfl)
  have nfm := k2.ne k1
  have ncv : ∀ g, cv.ownBlock = some g → ¬ (g = sb ∨ g = fm) := fun g hg h => by
    obtain ⟨D, q1, _⟩ := k2.out
    rcases h with rfl | rfl
    · exact row_ne_blk k5 k1 (by decide) hg rfl
    · exact ownsMap_ne_row q1 k5 hg.symm
  exact ⟨⟨fm, pm, am, cv, b2.grown ht.grown (fun e => nfm (by injection e with e; exact e.symm)), hf, k3.keep (fun k hk hlt => by cases hk; exact g3.block _ hlt fun h => h.elim (k3.ne k1) fun h => k7.1 h.symm), k4.keep (fun k hk hlt => by cases hk; exact g3.block _ hlt fun h => h.elim (k4.ne k1) fun h => k7.2.1 h.symm), row_but k5 g3 fun b hb e => ncv b e hb, k6, k7⟩, g3⟩
theorem lkW_ok {s : Sh} {n : ByteArray} {d : List Int} (h : lkW s n d = 0) : ¬ s.room < szBut n s.L + d.length := by
  unfold lkW at h
  split at h
  · cases h
  · rename_i h0
    exact fun h => h0 (.inr h)
/-- The shelf behind a Write. -/
def Sh.wr (s : Sh) (n : ByteArray) (d : List Int) : Sh := { s.note 2 n (askE s 2 n (lkW s n d)) with L := if askE s 2 n (lkW s n d) = 0 then putL n d s.L else s.L }
def WrPost (w : World) (ok : Nat → Prop) (sb : Nat) (s : Sh) (n : ByteArray) (d : List Int) (e : Ending) (w' : World) : Prop :=
  e = .returned (errV (askE s 2 n (lkW s n d))) ∧ ShelfAt w' (fun k => ok k ∨ w.heap.size ≤ k) sb (s.wr n d) ∧ But ok w w' ∧ ∀ okd v bs, DataAt w okd v bs → DataAt w' okd v bs
set_option maxHeartbeats 4000000 in
theorem write.calls {w : World} {ok : Nat → Prop} {sb : Nat} {s : Sh} (h : ShelfAt w ok sb s) (hg : Good s) (n : ByteArray) (hn : n.size ≤ maxLen) (hall : s.all.length ≤ 1073741824) (Ad : Option Addr) (cd : Nat) (d : List Int) (hD : ∀ W, But ok w W → (∀ okd v bs, DataAt w okd v bs → DataAt W okd v bs) → Kd.C (Kd.int .u8) W Ad d.length d) (hd : d.length ≤ 140737488355328) :
    Calls Try.prog 18 #[.pointer (some ⟨sb, 0, none⟩), .string n, .slice Ad d.length cd] w (WrPost w ok sb s n d) := by
  obtain ⟨E, hE⟩ : ∃ E, askE s 2 n (lkW s n d) = E := ⟨_, rfl⟩
  have HE := Lib.hid hE; clear hE
  have HSB := Lib.hid h.bound
  have HD := Lib.hid hD; clear hD
  have HALL := Lib.hid hall; clear hall
  have HG := Lib.hid hg; clear hg h
  have hB2 : Below w.heap.size w ((w.alloc (.cells #[.pointer (some ⟨sb, 0, none⟩)] 27)).alloc (.cells #[.slice Ad d.length cd] 39)) := ((Below.refl _ w).alloc (Nat.le_refl _) _).alloc (by simp) _
  obtain ⟨fm, pm, am, cv, k1, k2, -⟩ := HSB.out.out
  obtain ⟨ov, hlk, hnil, hdat⟩ := k2.look hn
  obtain ⟨Ao, co, hov, hoc⟩ : ∃ Ao co, ov = .slice Ao (lookL n s.L).length co ∧ True := by
    cases hh : hasN s.L n
    · rw [hnil hh, lookL_none hh]
      exact ⟨none, 0, rfl, trivial⟩
    · obtain ⟨A, c, e, _, _⟩ := (hdat _ (lookL_mem hh) rfl).slice
      exact ⟨A, c, e, trivial⟩
  subst hov
  have c0 : ((w.alloc (.cells #[.pointer (some ⟨sb, 0, none⟩)] 27)).alloc (.cells #[.slice Ad d.length cd] 39)).cell? ⟨sb, 0, none⟩ = some (.map (some fm)) := Below.cellS hB2 (k1.cell 0)
  have hlk0 := (hlk _ (Keeps.below hB2)).1
  obtain ⟨b, hb⟩ : ∃ b, hasN s.L n = b := ⟨_, rfl⟩
  have HBB := Lib.hid hb
  rw [hb] at hlk0
  have HB4 := Lib.hid (boxes4 w (.pointer (some ⟨sb, 0, none⟩)) (.slice Ad d.length cd) (.slice Ao (lookL n s.L).length co) (.bool b))
  have HS4 : Hid (ShelfAt ((((w.alloc (.cells #[.pointer (some ⟨sb, 0, none⟩)] 27)).alloc (.cells #[.slice Ad d.length cd] 39)).alloc (.cells #[.slice Ao (lookL n s.L).length co] 39)).alloc (.cells #[.bool b] 4)) (fun k => ok k ∧ k < w.heap.size) sb s) := HSB.out.keep (Keeps.below HB4.out.1)
  clear hlk hnil hdat hoc k1 k2 hb hB2
  have hmf : ∀ (fn : Fn) (first cap : Array Value) (w : World), (Instr.makeFunc fn first cap).run Try.prog w = .ok (.func fn first cap) w := fun _ _ _ _ => rfl
  by_cases h0 : E = 0
  · subst h0
    go_enter Try.func18, Try.ntmps18
    go_wp2_with (first
      | (go_at_call 38; refine (ask.calls HS4.out 2 n 39 #[.pointer (some ⟨w.heap.size + 1 + 1 + 1, 0, none⟩), .pointer (some ⟨w.heap.size, 0, none⟩), .pointer (some ⟨w.heap.size + 1, 0, none⟩), .pointer (some ⟨w.heap.size + 1 + 1, 0, none⟩)] (lkW s n d) (by decide) HALL.out (enter39 _) (fun fm rest hb hf => writeLook.calls HG.out hb hf (HBB.out ▸ HB4.out.2.2.2.2.1) HB4.out.2.1 HB4.out.2.2.1 HB4.out.2.2.2.1 hd)).mono ?_; rintro e w1 ⟨rfl, hs1, hb1, hdt1⟩; rw [HE.out] at hs1 ⊢
         have HS1 := Lib.hid hs1
         have HBT := Lib.hid hb1
         have HD1 : Hid (∀ okd v bs, DataAt w okd v bs → DataAt w1 okd v bs) := fun okd v bs h => hdt1 _ _ _ (h.keep (Keeps.below HB4.out.1))
         clear hs1 hb1 hdt1 c0 hlk0)
      | fail)
    have HX1 : Hid (Blk w1 w.heap.size 27 [.pointer (some ⟨sb, 0, none⟩)] ∧ Blk w1 (w.heap.size + 1) 39 [.slice Ad d.length cd] ∧ Blk w1 (w.heap.size + 1 + 1) 39 [.slice Ao (lookL n s.L).length co]) :=
      ⟨HB4.out.2.1.but HBT.out (fun h => by have := h.2; omega), HB4.out.2.2.1.but HBT.out (fun h => by have := h.2; omega), HB4.out.2.2.2.1.but HBT.out (fun h => by have := h.2; omega)⟩
    have HSG : Hid (w.heap.size ≤ w1.heap.size ∧ w.heap.size + 4 ≤ w1.heap.size) := by
      have := HBT.out.size
      have := HB4.out.2.2.2.2.2
      exact ⟨by omega, by omega⟩
    obtain ⟨fm1, pm1, am1, cv1, hbk, hfm, hpm, ham, hrow, hoks, hne⟩ := HS1.out.out
    have hfm' : FMap w1 _ fm1 s.L := hfm
    have c0 : w1.cell? ⟨sb, 0, none⟩ = some (.map (some fm1)) := hbk.cell 0
    obtain ⟨u, hu⟩ : ∃ u, szL s.L = u := ⟨_, rfl⟩
    have c2 : w1.cell? ⟨sb, 2, none⟩ = some (.int .i64 (u : Nat)) := hu ▸ hbk.cell 2
    have cf : w1.frozen? ⟨sb, 2, none⟩ = false := hbk.frozen 2
    have c3 : w1.cell? ⟨w.heap.size, 0, none⟩ = some (.pointer (some ⟨sb, 0, none⟩)) := HX1.out.1.cell 0
    have c4 : w1.cell? ⟨w.heap.size + 1, 0, none⟩ = some (.slice Ad d.length cd) := HX1.out.2.1.cell 0
    have c5 : w1.cell? ⟨w.heap.size + 1 + 1, 0, none⟩ = some (.slice Ao (lookL n s.L).length co) := HX1.out.2.2.cell 0
    have hfit := lkW_ok (askE_ok HE.out).2
    have hadd := szBut_add (n := n) HG.out.rises
    have hput := szL_putL (n := n) (d := d) HG.out.rises
    obtain ⟨t, ht⟩ : ∃ t, szL (putL n d s.L) = t := ⟨_, rfl⟩
    rw [hu] at hadd
    rw [ht] at hput
    have hr1 := HG.out.room1
    have hfi := HG.out.fits
    rw [hu] at hfi
    have hw1 : IntKind.i64.wrap ((d.length : Int) - ((lookL n s.L).length : Int)) = (d.length : Int) - ((lookL n s.L).length : Int) := IntWalk.i64_in _ (by omega)
    have hw2 : IntKind.i64.wrap ((u : Int) + ((d.length : Int) - ((lookL n s.L).length : Int))) = (t : Int) := by rw [IntWalk.i64_in _ (by omega)]; omega
    have HDL : Hid (d.length ≤ 16777216) := by show _ ≤ _; omega
    have HTT := Lib.hid ht
    have nsb : No5 w1 (some sb) := No5.blk hbk (by decide)
    have fsb : fm1 ≠ sb := hfm.ne hbk
    have HK : Hid (But (fun k => k = sb) w1 (w1.setCell ⟨sb, 2, none⟩ (.int .i64 (t : Nat))).drew) := (But.of_grown (grown_setCell w1 _ _) fun k e => by cases e; rfl).trans2 (But.of_below (Below.refl _ _).drew)
    have HM2 : Hid (FMap (w1.setCell ⟨sb, 2, none⟩ (.int .i64 (t : Nat))).drew (fun k => (ok k ∧ k < w.heap.size) ∨ ((((w.alloc (.cells #[.pointer (some ⟨sb, 0, none⟩)] 27)).alloc (.cells #[.slice Ad d.length cd] 39)).alloc (.cells #[.slice Ao (lookL n s.L).length co] 39)).alloc (.cells #[.bool b] 4)).heap.size ≤ k) fm1 s.L) := hfm'.but HK.out fsb (fun b hb => by cases hb; exact nsb)
    have HB2 : Hid (Blk (w1.setCell ⟨sb, 2, none⟩ (.int .i64 (t : Nat))).drew sb 84 [.map (some fm1), .int .i64 s.room, .int .i64 (t : Nat), .map (some pm1), .map (some am1), cv1]) := hbk.setCell 2 _
    have HX2 : Hid (Blk (w1.setCell ⟨sb, 2, none⟩ (.int .i64 (t : Nat))).drew w.heap.size 27 [.pointer (some ⟨sb, 0, none⟩)] ∧ Blk (w1.setCell ⟨sb, 2, none⟩ (.int .i64 (t : Nat))).drew (w.heap.size + 1) 39 [.slice Ad d.length cd]) := ⟨HX1.out.1.but HK.out (HX1.out.1.ne hbk (by decide)), HX1.out.2.1.but HK.out (HX1.out.2.1.ne hbk (by decide))⟩
    have hsbok : ok sb ∨ w.heap.size ≤ sb := hoks.1.imp (fun h => h.1) fun h => by have := HB4.out.2.2.2.2.2; omega
    have HC2 : Hid (Kd.C (Kd.int .u8) (w1.setCell ⟨sb, 2, none⟩ (.int .i64 (t : Nat))).drew Ad d.length d) :=
      HD.out _ (But.old (((But.of_below HB4.out.1).trans2 (HBT.out.imp fun k hk => .inl hk.1)).trans2 (HK.out.imp fun k hk => by cases hk; exact hsbok))) fun okd v bs h => (HD1.out okd v bs h).but HK.out fun b hb => by cases hb; exact nsb
    have HEND : Hid (∀ w5 w6, Below (w1.setCell ⟨sb, 2, none⟩ (.int .i64 (t : Nat))).drew.heap.size (w1.setCell ⟨sb, 2, none⟩ (.int .i64 (t : Nat))).drew w5 → FMap w6 (fun k => (ok k ∧ k < w.heap.size) ∨ ((((w.alloc (.cells #[.pointer (some ⟨sb, 0, none⟩)] 27)).alloc (.cells #[.slice Ad d.length cd] 39)).alloc (.cells #[.slice Ao (lookL n s.L).length co] 39)).alloc (.cells #[.bool b] 4)).heap.size ≤ k) fm1 (putL n d s.L) → w5.mapTurned w6 fm1 →
        ShelfAt w6 (fun k => (ok k ∧ k < w.heap.size) ∨ ((((w.alloc (.cells #[.pointer (some ⟨sb, 0, none⟩)] 27)).alloc (.cells #[.slice Ad d.length cd] 39)).alloc (.cells #[.slice Ao (lookL n s.L).length co] 39)).alloc (.cells #[.bool b] 4)).heap.size ≤ k) sb { s.note 2 n 0 with L := putL n d s.L } ∧ But (fun k => k = sb ∨ k = fm1) w1 w6) := fun w5 w6 hb hf6 ht6 =>
      store_end (s := s.note 2 n 0) (L' := putL n d s.L) hbk hfm hpm ham hrow hoks hne (w2 := w5) (HK.out.trans2 (But.of_below hb)) (by rw [ht]; exact HB2.out.below hb HB2.out.lt) hf6 ht6
    have HOK : Hid (∀ k, (k = sb ∨ k = fm1) → ok k ∨ w.heap.size ≤ k) := fun k hk => by
      have hsz := HB4.out.2.2.2.2.2
      have q : ∀ k, ((ok k ∧ k < w.heap.size) ∨ ((((w.alloc (.cells #[.pointer (some ⟨sb, 0, none⟩)] 27)).alloc (.cells #[.slice Ad d.length cd] 39)).alloc (.cells #[.slice Ao (lookL n s.L).length co] 39)).alloc (.cells #[.bool b] 4)).heap.size ≤ k) → ok k ∨ w.heap.size ≤ k := fun k h => h.imp (fun h => h.1) fun h => by omega
      rcases hk with rfl | rfl
      · exact q _ hoks.1
      · exact q _ hoks.2.1
    have HN5 : Hid (∀ b, (b = sb ∨ b = fm1) → No5 w1 (some b)) := fun b hb => by
      rcases hb with rfl | rfl
      · exact nsb
      · exact hfm.no5
    have HRI : Hid (Rises s.L ∧ s.L.length < maxLen) := ⟨HG.out.rises, by have := HG.out.few; simp only [maxLen]; omega⟩
    clear hsbok hbk hfm hfm' hpm ham hrow hoks hne nsb fsb hfit hadd hput hr1 hfi ht
    go_region
    clear c0 c2 c3 c4 c5 cf hw1 hw2
    generalize (w1.setCell ⟨sb, 2, none⟩ (.int .i64 (t : Nat))).drew = w2 at *
    have c0 : w2.cell? ⟨sb, 0, none⟩ = some (.map (some fm1)) := HB2.out.cell 0
    have c3 : w2.cell? ⟨w.heap.size, 0, none⟩ = some (.pointer (some ⟨sb, 0, none⟩)) := HX2.out.1.cell 0
    have c4 : w2.cell? ⟨w.heap.size + 1, 0, none⟩ = some (.slice Ad d.length cd) := HX2.out.2.cell 0
    go_wp2
    go_region_held3 (fun w' => w'.cell? ⟨sb, 0, none⟩ = some (.map (some fm1)) ∧ w'.cell? ⟨w.heap.size, 0, none⟩ = some (.pointer (some ⟨sb, 0, none⟩)) ∧ w'.cell? ⟨w.heap.size + 1, 0, none⟩ = some (.slice Ad d.length cd))
      (first
        | with_reducible exact ⟨q0, q1, q2⟩
        | with_reducible exact ⟨p0, p1, p2⟩
        | go_keep)
      (first
        | (go_at_call 32; refine (fresh.calls Ad cd d _ (Kd.C_below HC2.out (Below.refl _ w2).drew) (by have := HDL.out; omega)).mono ?_; rintro e w5 ⟨v5, rfl, hdat, hbl⟩
           have HB5 : Hid (Below w2.heap.size w2 w5) := (Below.refl _ w2).drew.trans hbl
           have p0 := Below.cellS HB5.out c0
           have p1 := Below.cellS HB5.out c3
           have p2 := Below.cellS HB5.out c4
           have HM5 : Hid (FMap w5 (fun k => (ok k ∧ k < w.heap.size) ∨ ((((w.alloc (.cells #[.pointer (some ⟨sb, 0, none⟩)] 27)).alloc (.cells #[.slice Ad d.length cd] 39)).alloc (.cells #[.slice Ao (lookL n s.L).length co] 39)).alloc (.cells #[.bool b] 4)).heap.size ≤ k) fm1 s.L) := HM2.out.below HB5.out
           obtain ⟨Av, cw, rfl, _, _⟩ := hdat.slice
           obtain ⟨w6, hrun6, hfm6, htu6⟩ := HM5.out.store HRI.out.1 HRI.out.2 hn (hdat.mono fun k hk => .inr (by
             have z1 := HB4.out.2.2.2.2.2
             have z2 := HSG.out.2
             have z3 := HK.out.size
             have z4 : w2.heap.size ≤ k := hk
             omega))
           have hne1 : ¬ sb = fm1 := fun e => HM5.out.ne (HB2.out.below HB5.out HB2.out.lt) e.symm
           have hne2 : ¬ w.heap.size = fm1 := fun e => HM5.out.ne (HX2.out.1.below HB5.out HX2.out.1.lt) e.symm
           have hne3 : ¬ w.heap.size + 1 = fm1 := fun e => HM5.out.ne (HX2.out.2.below HB5.out HX2.out.2.lt) e.symm
           have q0 := but_cell (mapTurned_but htu6) p0 hne1
           have q1 := but_cell (mapTurned_but htu6) p1 hne2
           have q2 := but_cell (mapTurned_but htu6) p2 hne3
           have HF6 := Lib.hid (HEND.out w5 w6 HB5.out hfm6 htu6)
           clear hdat hbl hfm6 htu6 hne1 hne2 hne3))
    rename _ ∧ _ ∧ _ => hHeld
    clear hHeld c0 c3 c4 p0 p1 p2 q0 q1 q2 hrun6
    have ht := told.calls 0 w6
    go_wp2_with (first
      | (go_at_call 40; refine ht.mono ?_; rintro e w7 ⟨rfl, rfl⟩)
      | fail)
    go_ret
    refine ⟨by rw [HE.out]; rfl, ?_, But.old (((But.of_below HB4.out.1).trans2 (HBT.out.imp fun k hk => .inl hk.1)).trans2 (HF6.out.2.imp HOK.out)), fun okd v bs h => (HD1.out okd v bs h).but HF6.out.2 HN5.out⟩
    have hrem : s.wr n d = { s.note 2 n 0 with L := putL n d s.L } := by rw [Sh.wr, HE.out, if_pos rfl]
    rw [hrem]
    exact HF6.out.1.mono fun k hk => hk.imp (fun h => h.1) fun h => by have := HB4.out.2.2.2.2.2; omega
  · have e1 : (E == 0) = false := by simpa using h0
    have HNE := Lib.hid h0; clear h0
    go_enter Try.func18, Try.ntmps18
    go_wp2_with (first
      | (go_at_call 38; refine (ask.calls HS4.out 2 n 39 #[.pointer (some ⟨w.heap.size + 1 + 1 + 1, 0, none⟩), .pointer (some ⟨w.heap.size, 0, none⟩), .pointer (some ⟨w.heap.size + 1, 0, none⟩), .pointer (some ⟨w.heap.size + 1 + 1, 0, none⟩)] (lkW s n d) (by decide) HALL.out (enter39 _) (fun fm rest hb hf => writeLook.calls HG.out hb hf (HBB.out ▸ HB4.out.2.2.2.2.1) HB4.out.2.1 HB4.out.2.2.1 HB4.out.2.2.2.1 hd)).mono ?_; rintro e w1 ⟨rfl, hs1, hb1, hdt1⟩; rw [HE.out] at hs1 ⊢
         have HS1 := Lib.hid hs1
         have HBT := Lib.hid hb1
         have HT := Lib.hid (told.calls E w1)
         have HDT := Lib.hid hdt1
         clear hs1 hb1 hdt1 c0 hlk0)
      | (go_at_call 40; refine HT.out.mono ?_; rintro e w4 ⟨rfl, rfl⟩; rw [if_neg HNE.out])
      | fail)
    go_ret
    refine ⟨by rw [HE.out, errV, if_neg HNE.out]; rfl, ?_, (But.of_below HB4.out.1).trans2 (HBT.out.imp fun k hk => hk.1), fun okd v bs h => HDT.out okd v bs (h.keep (Keeps.below HB4.out.1))⟩
    have hrem : s.wr n d = s.note 2 n E := by rw [Sh.wr, HE.out, if_neg HNE.out]; rfl
    rw [hrem]
    exact HS1.out.mono fun k hk => hk.imp (fun h => h.1) fun h => by have := HB4.out.2.2.2.2.2; omega
end Go.Proofs.Ytplknppmaepinaa.S
/- The book's Number: the number of an error. -/
namespace Go.Proofs.Ytplknppmaepinaa.S
open Go Go.RowKit Go.X Go.Proofs.YtplknppmaepinaaW.PrintWords Go.Proofs.Ytplknppmaepinaa.F
set_option maxRecDepth 100000 in
set_option maxHeartbeats 2000000 in
theorem number.calls (e : Int) (h : 0 ≤ e ∧ e < 400) (w : World) : Calls Try.prog 35 #[errV e] w fun r w' => r = .returned (.int .i64 e) ∧ w' = w := by
  by_cases h0 : e = 0
  · subst h0
    have hu46 := Try.underlying46
    have hn : ∀ W : World, (binOp .eql 46 .nilIface .nilIface).run Try.prog W = .ok (.bool true) W := fun W => by kernel_rfl
    show Calls Try.prog 35 #[.nilIface] w _
    go_enter Try.func35, Try.ntmps35
    go_wp2
    go_ret
    exact ⟨rfl, rfl⟩
  · have hv : errV e = .iface 42 (.int .i64 e) := if_neg h0
    rw [hv]
    have hn : ∀ W : World, (binOp .eql 46 (.iface 42 (.int .i64 e)) .nilIface).run Try.prog W = .ok (.bool false) W := fun W => by kernel_rfl
    have HE : Hid (1 ≤ e ∧ e < 400) := ⟨by omega, h.2⟩
    clear hv h h0
    go_enter Try.func35, Try.ntmps35
    go_wp2
    go_loopg [3, 4] 399 (fun q f v wr => ∃ k : Nat, q + k = 399 ∧ v = .int .i64 ((k : Int) + 1) ∧ f = .int .i64 (if e ≤ k then e else -1) ∧ wr = w)
    case atStart => exact ⟨0, by omega, rfl, by have := HE.out.1; rw [if_neg (by simp; omega)], rfl⟩
    case round =>
      obtain ⟨k, hk, rfl, rfl, rfl⟩ := hrel
      by_cases hlt : k < 399
      · have hk0 : (k : Int) + 1 < 400 := by omega
        have hkw : wrap64 ((k : Int) + 1 + 1) = ((k + 1 : Nat) : Int) + 1 := by rw [IntWalk.wrap64_in _ (by omega)]; omega
        have hc := errIs.calls e ((k : Int) + 1) wr
        by_cases he : e = (k : Int) + 1
        · have hb : (e == (k : Int) + 1) = true := by simpa using he
          rw [hb] at hc
          rw [if_neg (by omega)]
          have HH := Lib.hid he
          have HC := Lib.hid hc
          clear he hb hc
          go_wp2_with (first
            | (go_at_call 59; refine HC.out.mono ?_; rintro r w' ⟨rfl, rfl⟩)
            | fail)
          go_roundg (399 - (k + 1))
          case measure => clear hkw; omega
          case rel => exact ⟨k + 1, by clear hkw; omega, by first | rfl | rw [hkw], by have := HH.out; rw [if_pos (by omega), this], rfl⟩
        · have hb : (e == (k : Int) + 1) = false := by simpa using he
          rw [hb] at hc
          have hf : (if e ≤ ((k + 1 : Nat) : Int) then e else -1) = if e ≤ (k : Int) then e else -1 := by
            by_cases h1 : e ≤ (k : Int)
            · rw [if_pos h1, if_pos (by omega)]
            · rw [if_neg h1, if_neg (by omega)]
          obtain ⟨y, hy⟩ : ∃ y, (if e ≤ (k : Int) then e else -1) = y := ⟨_, rfl⟩
          rw [hy] at hf ⊢
          have HF := Lib.hid hf
          have HC := Lib.hid hc
          clear he hb hc hf hy
          go_wp2_with (first
            | (go_at_call 59; refine HC.out.mono ?_; rintro r w' ⟨rfl, rfl⟩)
            | fail)
          go_roundg (399 - (k + 1))
          case measure => clear hkw; omega
          case rel => exact ⟨k + 1, by clear hkw; omega, by first | rfl | rw [hkw], by rw [HF.out], rfl⟩
      · obtain rfl : k = 399 := by omega
        rw [if_pos (by have := HE.out.2; omega)]
        go_wp2
        go_ret
        exact ⟨rfl, rfl⟩
end Go.Proofs.Ytplknppmaepinaa.S
/- What a shelf keeps: names rise and are names, few files, all within the room. -/
namespace Go.Proofs.Ytplknppmaepinaa.S
open Go Go.RowKit Go.X Go.Proofs.YtplknppmaepinaaW.PrintWords Go.Proofs.Ytplknppmaepinaa.F

theorem Good.note {s : Sh} (h : Good s) (c : Int) (n : ByteArray) (e : Int) : Good (s.note c n e) := ⟨h.rises, h.names, h.few, h.fits, h.room0, h.room1⟩
theorem Good.rem {s : Sh} (h : Good s) (n : ByteArray) : Good (s.rem n) := by
  unfold Sh.rem
  by_cases h0 : askE s 3 n (lkE s n) = 0
  · rw [if_pos h0]
    have hin := lkE_ok (askE_ok h0).2
    have h1 := length_delL hin
    have h2 := szL_delL (n := n) (L := s.L)
    have h3 := h.few
    have h4 := h.fits
    exact ⟨h.rises.del, fun f hf => h.names f (mem_delL hf), by show (delL n s.L).length ≤ 64; omega, by show (szL (delL n s.L) : Int) ≤ s.room; omega, h.room0, h.room1⟩
  · rw [if_neg h0]
    exact h.note 3 n _
theorem lkW_few {s : Sh} {n : ByteArray} {d : List Int} (h : lkW s n d = 0) : ¬ (hasN s.L n = false ∧ s.L.length = 64) := by
  unfold lkW at h
  split at h
  · cases h
  · rename_i h0
    exact fun h => h0 (.inl h)
theorem Good.wr {s : Sh} (h : Good s) (n : ByteArray) (d : List Int) : Good (s.wr n d) := by
  unfold Sh.wr
  by_cases h0 : askE s 2 n (lkW s n d) = 0
  · rw [if_pos h0]
    obtain ⟨hn, hl⟩ := askE_ok h0
    have h1 := length_putL (n := n) (d := d) h.rises
    have h2 := szL_putL (n := n) (d := d) h.rises
    have h3 := h.few
    have h4 := lkW_ok hl
    have h5 := lkW_few hl
    refine ⟨h.rises.put, fun f hf => ?_, ?_, ?_, h.room0, h.room1⟩
    · rcases mem_putL hf with e | hf
      · rw [e]; exact hn
      · exact h.names f hf
    · show (putL n d s.L).length ≤ 64
      cases hh : hasN s.L n
      · rw [hh] at h1 h5
        simp at h1 h5
        omega
      · rw [hh] at h1
        simp at h1
        omega
    · show (szL (putL n d s.L) : Int) ≤ s.room
      omega
  · rw [if_neg h0]
    exact h.note 2 n _
end Go.Proofs.Ytplknppmaepinaa.S
/- The law's total: the bytes of files whose names rise. -/
namespace Go.Proofs.Ytplknppmaepinaa.S
open Go Go.RowKit Go.X Go.Proofs.YtplknppmaepinaaW.PrintWords Go.Proofs.Ytplknppmaepinaa.F

end Go.Proofs.Ytplknppmaepinaa.S
/- A step of a script, in plain Lean: what it leaves, what it answers. -/
namespace Go.Proofs.Ytplknppmaepinaa.S
open Go Go.RowKit Go.X Go.Proofs.YtplknppmaepinaaW.PrintWords Go.Proofs.Ytplknppmaepinaa.F

/-- The answer's number. -/
def opE (s : Sh) (o : S41) : Int := if o.f0 = 1 then askE s 1 o.f1 (lkE s o.f1) else if o.f0 = 2 then askE s 2 o.f1 (lkW s o.f1 o.f2) else if o.f0 = 3 then askE s 3 o.f1 (lkE s o.f1) else 0
/-- The shelf behind it. -/
def opS (s : Sh) (o : S41) : Sh := if o.f0 = 1 then s.note 1 o.f1 (askE s 1 o.f1 (lkE s o.f1)) else if o.f0 = 2 then s.wr o.f1 o.f2 else if o.f0 = 3 then s.rem o.f1 else s
/-- How many calls it is. -/
def opN (o : S41) : Nat := if o.f0 = 1 ∨ o.f0 = 2 ∨ o.f0 = 3 then 1 else 0
theorem opS_good {s : Sh} (h : Good s) (o : S41) : Good (opS s o) := by
  unfold opS
  split
  · exact h.note _ _ _
  · split
    · exact h.wr _ _
    · split
      · exact h.rem _
      · exact h
theorem opS_room (s : Sh) (o : S41) : (opS s o).room = s.room := by
  unfold opS
  split
  · rfl
  · split
    · rfl
    · split <;> rfl
theorem opS_all (s : Sh) (o : S41) : (opS s o).all.length = s.all.length + opN o := by
  unfold opS opN
  by_cases h1 : o.f0 = 1
  · rw [if_pos h1, if_pos (.inl h1)]
    simp [Sh.note]
  · rw [if_neg h1]
    by_cases h2 : o.f0 = 2
    · rw [if_pos h2, if_pos (.inr (.inl h2))]
      simp [Sh.wr, Sh.note]
    · rw [if_neg h2]
      by_cases h3 : o.f0 = 3
      · rw [if_pos h3, if_pos (.inr (.inr h3))]
        simp [Sh.rem, Sh.note]
      · rw [if_neg h3, if_neg (fun h => h.elim h1 fun h => h.elim h2 h3)]
        simp
theorem opS_same {s : Sh} {o : S41} (h : o.f0 = 1 ∨ opE s o ≠ 0) : (opS s o).L = s.L := by
  unfold opS
  by_cases h1 : o.f0 = 1
  · rw [if_pos h1]
    rfl
  · rw [if_neg h1]
    have h := h.resolve_left h1
    unfold opE at h
    rw [if_neg h1] at h
    by_cases h2 : o.f0 = 2
    · rw [if_pos h2] at h ⊢
      show (if askE s 2 o.f1 (lkW s o.f1 o.f2) = 0 then putL o.f1 o.f2 s.L else s.L) = _
      rw [if_neg h]
    · rw [if_neg h2] at h ⊢
      by_cases h3 : o.f0 = 3
      · rw [if_pos h3] at h ⊢
        show (if askE s 3 o.f1 (lkE s o.f1) = 0 then delL o.f1 s.L else s.L) = _
        rw [if_neg h]
      · rw [if_neg h3]
theorem opA_2 {s : Sh} {o : S41} (h : o.f0 = 2) : opE s o = askE s 2 o.f1 (lkW s o.f1 o.f2) ∧ opS s o = s.wr o.f1 o.f2 ∧ opN o = 1 := by
  have h1 : ¬ o.f0 = 1 := by omega
  exact ⟨by rw [opE, if_neg h1, if_pos h], by rw [opS, if_neg h1, if_pos h], if_pos (.inr (.inl h))⟩
theorem opA_3 {s : Sh} {o : S41} (h : o.f0 = 3) : opE s o = askE s 3 o.f1 (lkE s o.f1) ∧ opS s o = s.rem o.f1 ∧ opN o = 1 := by
  have h1 : ¬ o.f0 = 1 := by omega
  have h2 : ¬ o.f0 = 2 := by omega
  exact ⟨by rw [opE, if_neg h1, if_neg h2, if_pos h], by rw [opS, if_neg h1, if_neg h2, if_pos h], if_pos (.inr (.inr h))⟩
end Go.Proofs.Ytplknppmaepinaa.S
