/- Texts joined and shortened (wip/tools/shrink.py): ShRead, ShWrite, ShNum, ShGood, ShTotal, ShStep, ShBin, ShReg, ShTurn, ShRange, ShMakes, ShLF, ShReg7, ShWorks. -/
import Derived.Test.YtplknppmaepinaaQe4
import Derived.Test.YtplknppmaepinaaQe2
import Derived.Test.YtplknppmaepinaaQe1
import Derived.Test.YtplknppmaepinaaQe3
import Derived.Lib.SlBytesConst
/- The program's Read, Remove, Write. -/
namespace Go.X
open Go Go.RowKit
section
variable {P : Program} {ops : Array Oper} {o : Oper} {a : Act} {w : World} {K : Act → World → Prop} {Q : Exit → Act → World → Prop} {E : Prop}
/-- 'delete(m, k)', inside a region that draws its order. -/
theorem step_delete (hgd : o.guard = none) (m x : Operand) (t k : TypeId) (ho : o.op = .call { callee := .builtin .delete, args := #[m, x], argTypes := #[t, k] }) (mv kv : Value) (hm : a.eval m = mv) (hx : a.eval x = kv) (w' : World)
    (hrun : (Builtin.delete_ #[t, k] o.type #[mv, kv]).run P w = .ok (.tuple #[]) w') (h : K (a.put o.dst (.tuple #[])) w') :
    if Region.wanted o (yielded ops a.tmps) = true then Oper.wp P o a w K Q else E := by
  have hw : Region.wanted o (yielded ops a.tmps) = true := by simp [Region.wanted, hgd]
  rw [if_pos hw]
  unfold Oper.wp
  simp [execOp, ho, resolve, invoke, builtin, hm, hx, hrun, Result.andThen]
  exact h
end
end Go.X
namespace Go.Proofs.Ytplknppmaepinaa.S
open Go Go.RowKit Go.X Go.Maps Go.Proofs.YtplknppmaepinaaW.PrintWords Go.Proofs.Ytplknppmaepinaa.F
set_option maxRecDepth 100000

def lkE (s : Sh) (n : ByteArray) : Int := if hasN s.L n then 0 else 11
/-- The error of a number. -/
def errV (e : Int) : Value := if e = 0 then .nilIface else .iface 42 (.int .i64 e)
theorem askE_ok {s : Sh} {c : Int} {n : ByteArray} {lk : Int} (h : askE s c n lk = 0) : nmOK n = true ∧ lk = 0 := by
  unfold askE at h
  split at h
  · rename_i h0; exact absurd h h0
  · split at h
    · rename_i h1; exact ⟨h1, h⟩
    · cases h
theorem lkE_ok {s : Sh} {n : ByteArray} (h : lkE s n = 0) : hasN s.L n = true := by
  unfold lkE at h
  split at h
  · assumption
  · cases h
/-- What Read leaves. -/
def ReadPost (w : World) (ok : Nat → Prop) (sb : Nat) (s : Sh) (n : ByteArray) (e : Ending) (w' : World) : Prop :=
  ∃ v, e = .returned (.tuple #[v, errV (askE s 1 n (lkE s n))]) ∧ DataAt w' (fun k => w.heap.size ≤ k) v (if askE s 1 n (lkE s n) = 0 then lookL n s.L else []) ∧ ShelfAt w' (fun k => ok k ∨ w.heap.size ≤ k) sb (s.note 1 n (askE s 1 n (lkE s n))) ∧ But ok w w' ∧ ∀ okd v bs, DataAt w okd v bs → DataAt w' okd v bs
set_option maxHeartbeats 4000000 in
theorem read.calls {w : World} {ok : Nat → Prop} {sb : Nat} {s : Sh} (h : ShelfAt w ok sb s) (hg : Good s) (n : ByteArray) (hn : n.size ≤ maxLen) (hall : s.all.length ≤ 1073741824) :
    Calls Try.prog 20 #[.pointer (some ⟨sb, 0, none⟩), .string n] w (ReadPost w ok sb s n) := by
  obtain ⟨E, hE⟩ : ∃ E, askE s 1 n (lkE s n) = E := ⟨_, rfl⟩
  have HE := Lib.hid hE
  have hs0 : ((w.alloc (.cells #[.pointer (some ⟨sb, 0, none⟩)] 27)).alloc (.cells #[.string n] 9)).heap.size = w.heap.size + 2 := by simp
  have HB0 : Hid (Below w.heap.size w ((w.alloc (.cells #[.pointer (some ⟨sb, 0, none⟩)] 27)).alloc (.cells #[.string n] 9)) ∧ Blk ((w.alloc (.cells #[.pointer (some ⟨sb, 0, none⟩)] 27)).alloc (.cells #[.string n] 9)) w.heap.size 27 [.pointer (some ⟨sb, 0, none⟩)] ∧ Blk ((w.alloc (.cells #[.pointer (some ⟨sb, 0, none⟩)] 27)).alloc (.cells #[.string n] 9)) (w.heap.size + 1) 9 [.string n]) := by
    have a1 := Blk.alloc w #[.pointer (some ⟨sb, 0, none⟩)] 27
    have s1 : (w.alloc (.cells #[.pointer (some ⟨sb, 0, none⟩)] 27)).heap.size = w.heap.size + 1 := by simp
    have b2 := (Below.refl _ (w.alloc (.cells #[.pointer (some ⟨sb, 0, none⟩)] 27))).alloc (Nat.le_refl _) (.cells #[.string n] 9)
    have a2 := Blk.alloc (w.alloc (.cells #[.pointer (some ⟨sb, 0, none⟩)] 27)) #[.string n] 9
    rw [s1] at a2
    exact ⟨((Below.refl _ w).alloc (Nat.le_refl _) _).alloc (by simp) _, a1.below b2 a1.lt, a2⟩
  have HS0 : Hid (ShelfAt ((w.alloc (.cells #[.pointer (some ⟨sb, 0, none⟩)] 27)).alloc (.cells #[.string n] 9)) (fun k => ok k ∧ k < w.heap.size) sb s) := h.bound.keep (Keeps.below HB0.out.1)
  have HSZ := Lib.hid hs0; clear hs0
  have HALL := Lib.hid hall; clear hall
  have HG := Lib.hid hg; clear hg h hE
  have hmf : ∀ (fn : Fn) (first cap : Array Value) (w : World), (Instr.makeFunc fn first cap).run Try.prog w = .ok (.func fn first cap) w := fun _ _ _ _ => rfl
  by_cases h0 : E = 0
  · have HEN := Lib.hid h0
    subst h0
    go_enter Try.func20, Try.ntmps20
    go_wp2_with (first
      | (go_at_call 38; refine (ask.calls HS0.out 1 n 43 #[.pointer (some ⟨w.heap.size, 0, none⟩), .pointer (some ⟨w.heap.size + 1, 0, none⟩)] (lkE s n) (by decide) HALL.out (enter43 _) (fun fm rest hb hf => readLook.calls hb hf hn HB0.out.2.1 HB0.out.2.2)).mono ?_; rintro e w1 ⟨rfl, hs1, hb1, hdt1⟩; rw [HE.out] at hs1 ⊢
         have HS1 := Lib.hid hs1
         have HBT := Lib.hid hb1
         have HDT := Lib.hid hdt1
         clear hs1 hb1 hdt1)
      | fail)
    have HX1 : Hid (Blk w1 w.heap.size 27 [.pointer (some ⟨sb, 0, none⟩)] ∧ Blk w1 (w.heap.size + 1) 9 [.string n]) := ⟨HB0.out.2.1.but HBT.out (fun h => by have := h.2; omega), HB0.out.2.2.but HBT.out (fun h => by have := h.2; omega)⟩
    have HSW : Hid (Below w1.heap.size w1 w1.drew) := (Below.refl _ w1).drew
    have HSG : Hid (w.heap.size ≤ w1.heap.size) := Nat.le_trans HB0.out.1.size HBT.out.size
    have hin : hasN s.L n = true := lkE_ok (askE_ok HE.out).2
    obtain ⟨fm, pm, am, cv, k1, k2, -⟩ := HS1.out.out
    obtain ⟨ov, hlk, -, hdat⟩ := k2.look hn
    have hd := hdat _ (lookL_mem hin) rfl
    obtain ⟨A1, c1, rfl, _, hc1⟩ := hd.slice
    have hlk1 := (hlk w1.drew (Keeps.below HSW.out)).2
    have c0 : w1.cell? ⟨sb, 0, none⟩ = some (.map (some fm)) := k1.cell 0
    have c3 : w1.cell? ⟨w.heap.size, 0, none⟩ = some (.pointer (some ⟨sb, 0, none⟩)) := HX1.out.1.cell 0
    have c4 : w1.cell? ⟨w.heap.size + 1, 0, none⟩ = some (.string n) := HX1.out.2.cell 0
    have HC1 : Hid (Kd.C (Kd.int .u8) w1 A1 (lookL n s.L).length (lookL n s.L)) := hc1
    have HLN : Hid ((lookL n s.L).length ≤ 16777216) := by
      have q1 : (lookL n s.L).length ≤ szL s.L := len_sz (f := ⟨n, lookL n s.L⟩) (lookL_mem hin)
      have q2 := HG.out.fits
      have q3 := HG.out.room1
      show _ ≤ _
      omega
    have hlk2 : (Instr.lookup 80 (.map (some fm)) (.string n) false).run Try.prog w1.drew = .ok (.slice A1 (lookL n s.L).length c1) w1.drew := hlk1
    clear hlk hdat hd hc1 k1 k2 hlk1
    go_region_law (first
      | (go_simp; go_at_call 32; refine (fresh.calls A1 c1 (lookL n s.L) w1.drew (Kd.C_below HC1.out HSW.out) (by have := HLN.out; omega)).mono ?_; rintro e w3 ⟨v3, rfl, hdat, hbl⟩
         have HB3 : Hid (Below w1.heap.size w1 w3) := HSW.out.trans hbl
         have HD3 : Hid (DataAt w3 (fun k => w.heap.size ≤ k) v3 (lookL n s.L)) := hdat.mono fun k hk => Nat.le_trans HSG.out hk
         clear hdat hbl)
      | fail)
    all_goals
      go_wp2
      go_ret2
      exact ⟨v3, by rw [HE.out]; rfl, by rw [HE.out, if_pos rfl]; exact HD3.out, by rw [HE.out]; exact (HS1.out.keep (Keeps.below HB3.out)).mono fun k hk => hk.imp (fun h => h.1) fun h => by have := HSZ.out; omega,
        ((But.of_below HB0.out.1).trans2 (HBT.out.imp fun k hk => hk.1)).trans2 (But.of_below HB3.out), fun okd v bs h => (HDT.out okd v bs (h.keep (Keeps.below HB0.out.1))).keep (Keeps.below HB3.out)⟩
  · have e1 : (E == 0) = false := by simpa using h0
    have HNE := Lib.hid h0; clear h0
    go_enter Try.func20, Try.ntmps20
    go_wp2_with (first
      | (go_at_call 38; refine (ask.calls HS0.out 1 n 43 #[.pointer (some ⟨w.heap.size, 0, none⟩), .pointer (some ⟨w.heap.size + 1, 0, none⟩)] (lkE s n) (by decide) HALL.out (enter43 _) (fun fm rest hb hf => readLook.calls hb hf hn HB0.out.2.1 HB0.out.2.2)).mono ?_; rintro e w1 ⟨rfl, hs1, hb1, hdt1⟩; rw [HE.out] at hs1 ⊢
         have HS1 := Lib.hid hs1
         have HBT := Lib.hid hb1
         have HDT := Lib.hid hdt1
         clear hs1 hb1 hdt1)
      | fail)
    go_ret2
    exact ⟨_, by rw [HE.out, errV, if_neg HNE.out]; rfl, by rw [HE.out, if_neg HNE.out]; exact .inl ⟨rfl, _, _, rfl⟩, by rw [HE.out]; exact HS1.out.mono fun k hk => hk.imp (fun h => h.1) fun h => by have := HSZ.out; omega,
      (But.of_below HB0.out.1).trans2 (HBT.out.imp fun k hk => hk.1), fun okd v bs h => HDT.out okd v bs (h.keep (Keeps.below HB0.out.1))⟩

/-- The shelf behind a Remove. -/
def Sh.rem (s : Sh) (n : ByteArray) : Sh := { s.note 3 n (askE s 3 n (lkE s n)) with L := if askE s 3 n (lkE s n) = 0 then delL n s.L else s.L }
def RemPost (w : World) (ok : Nat → Prop) (sb : Nat) (s : Sh) (n : ByteArray) (e : Ending) (w' : World) : Prop :=
  e = .returned (errV (askE s 3 n (lkE s n))) ∧ ShelfAt w' (fun k => ok k ∨ w.heap.size ≤ k) sb (s.rem n) ∧ But ok w w' ∧ ∀ okd v bs, DataAt w okd v bs → DataAt w' okd v bs
/-- The sum told anew, a file gone. -/
theorem remove_end {w1 w2 w3 : World} {ok : Nat → Prop} {sb fm pm am : Nat} {cv : Value} {s : Sh} (k1 : Blk w1 sb 84 [.map (some fm), .int .i64 s.room, .int .i64 (szL s.L), .map (some pm), .map (some am), cv]) (k2 : FMap w1 ok fm s.L) (k3 : PMap w1 pm s.plan) (k4 : AMap w1 am s.all)
    (k5 : w1.ownsRow 0 102 3 cv s.all.length (callCells s.all)) (k6 : ok sb ∧ ok fm ∧ ok pm ∧ ok am ∧ ∀ g, cv.ownBlock = some g → ok g) (k7 : fm ≠ pm ∧ fm ≠ am ∧ pm ≠ am) {L' : List S73} (e2 : w2 = (w1.setCell ⟨sb, 2, none⟩ (.int .i64 (szL L' : Nat))).drew.drew) (hf : FMap w3 ok fm L') (ht : w2.mapTurned w3 fm) :
    ShelfAt w3 ok sb { s with L := L' } ∧ But (fun k => k = sb ∨ k = fm) w1 w3 := by
  have g2 : But (fun k => k = sb ∨ k = fm) w1 w2 := by
    subst e2
    exact ((But.of_grown (grown_setCell w1 ⟨sb, 2, none⟩ (.int .i64 (szL L' : Nat))) fun k e => by cases e; exact .inl rfl).trans2 (But.of_below (Below.refl _ _).drew)).trans2 (But.of_below (Below.refl _ _).drew)
  have g3 : But (fun k => k = sb ∨ k = fm) w1 w3 := g2.trans2 (But.of_grown ht.grown fun k e => by cases e; exact .inr rfl)
  have nfm := k2.ne k1
  have b2 : Blk w2 sb 84 [.map (some fm), .int .i64 s.room, .int .i64 (szL L' : Nat), .map (some pm), .map (some am), cv] := by
    subst e2
    exact k1.setCell 2 (.int .i64 (szL L' : Nat))
  have ncv : ∀ g, cv.ownBlock = some g → ¬ (g = sb ∨ g = fm) := fun g hg h => by
    obtain ⟨D, q1, _⟩ := k2.out
    rcases h with rfl | rfl
    · exact row_ne_blk k5 k1 (by decide) hg rfl
    · exact ownsMap_ne_row q1 k5 hg.symm
  refine ⟨⟨fm, pm, am, cv, b2.grown ht.grown (fun e => nfm (by injection e with e; exact e.symm)), hf, k3.keep (fun k hk hlt => by cases hk; exact g3.block _ hlt fun h => h.elim (k3.ne k1) fun h => k7.1 h.symm), k4.keep (fun k hk hlt => by cases hk; exact g3.block _ hlt fun h => h.elim (k4.ne k1) fun h => k7.2.1 h.symm), row_but k5 g3 fun b hb e => ncv b e hb, k6, k7⟩, g3⟩

theorem But.old {S : Nat → Prop} {w w' : World} (h : But (fun k => S k ∨ w.heap.size ≤ k) w w') : But S w w' :=
  ⟨h.os, h.tape, h.output, h.size, fun k hk hs => h.block k hk fun e => e.elim hs fun e => by omega⟩
theorem boxes {w : World} {sb : Nat} {n : ByteArray} : Below w.heap.size w ((w.alloc (.cells #[.pointer (some ⟨sb, 0, none⟩)] 27)).alloc (.cells #[.string n] 9)) ∧ Blk ((w.alloc (.cells #[.pointer (some ⟨sb, 0, none⟩)] 27)).alloc (.cells #[.string n] 9)) w.heap.size 27 [.pointer (some ⟨sb, 0, none⟩)] ∧ Blk ((w.alloc (.cells #[.pointer (some ⟨sb, 0, none⟩)] 27)).alloc (.cells #[.string n] 9)) (w.heap.size + 1) 9 [.string n] := by
  have a1 := Blk.alloc w #[.pointer (some ⟨sb, 0, none⟩)] 27
  have s1 : (w.alloc (.cells #[.pointer (some ⟨sb, 0, none⟩)] 27)).heap.size = w.heap.size + 1 := by simp
  have b2 := (Below.refl _ (w.alloc (.cells #[.pointer (some ⟨sb, 0, none⟩)] 27))).alloc (Nat.le_refl _) (.cells #[.string n] 9)
  have a2 := Blk.alloc (w.alloc (.cells #[.pointer (some ⟨sb, 0, none⟩)] 27)) #[.string n] 9
  rw [s1] at a2
  exact ⟨((Below.refl _ w).alloc (Nat.le_refl _) _).alloc (by simp) _, a1.below b2 a1.lt, a2⟩
set_option maxHeartbeats 4000000 in
theorem remove.calls {w : World} {ok : Nat → Prop} {sb : Nat} {s : Sh} (h : ShelfAt w ok sb s) (hg : Good s) (n : ByteArray) (hn : n.size ≤ maxLen) (hall : s.all.length ≤ 1073741824) :
    Calls Try.prog 19 #[.pointer (some ⟨sb, 0, none⟩), .string n] w (RemPost w ok sb s n) := by
  obtain ⟨E, hE⟩ : ∃ E, askE s 3 n (lkE s n) = E := ⟨_, rfl⟩
  have HE := Lib.hid hE
  have hs0 : ((w.alloc (.cells #[.pointer (some ⟨sb, 0, none⟩)] 27)).alloc (.cells #[.string n] 9)).heap.size = w.heap.size + 2 := by simp
  have HB0 : Hid _ := Lib.hid (boxes (w := w) (sb := sb) (n := n))
  have HS0 : Hid (ShelfAt ((w.alloc (.cells #[.pointer (some ⟨sb, 0, none⟩)] 27)).alloc (.cells #[.string n] 9)) (fun k => ok k ∧ k < w.heap.size) sb s) := h.bound.keep (Keeps.below HB0.out.1)
  have HSZ := Lib.hid hs0; clear hs0
  have HALL := Lib.hid hall; clear hall
  have HG := Lib.hid hg; clear hg h hE
  have hmf : ∀ (fn : Fn) (first cap : Array Value) (w : World), (Instr.makeFunc fn first cap).run Try.prog w = .ok (.func fn first cap) w := fun _ _ _ _ => rfl
  by_cases h0 : E = 0
  · subst h0
    go_enter Try.func19, Try.ntmps19
    go_wp2_with (first
      | (go_at_call 38; refine (ask.calls HS0.out 3 n 41 #[.pointer (some ⟨w.heap.size, 0, none⟩), .pointer (some ⟨w.heap.size + 1, 0, none⟩)] (lkE s n) (by decide) HALL.out (enter41 _) (fun fm rest hb hf => removeLook.calls hb hf hn HB0.out.2.1 HB0.out.2.2)).mono ?_; rintro e w1 ⟨rfl, hs1, hb1, hdt1⟩; rw [HE.out] at hs1 ⊢
         have HS1 := Lib.hid hs1
         have HBT := Lib.hid hb1
         have HDT := Lib.hid hdt1
         clear hs1 hb1 hdt1)
      | fail)
    have HX1 : Hid (Blk w1 w.heap.size 27 [.pointer (some ⟨sb, 0, none⟩)] ∧ Blk w1 (w.heap.size + 1) 9 [.string n]) := ⟨HB0.out.2.1.but HBT.out (fun h => by have := h.2; omega), HB0.out.2.2.but HBT.out (fun h => by have := h.2; omega)⟩
    have hin : hasN s.L n = true := lkE_ok (askE_ok HE.out).2
    obtain ⟨fm, pm, am, cv, hbk, hfm, hpm, ham, hrow, hoks, hne⟩ := HS1.out.out
    have hfm' : FMap w1 _ fm s.L := hfm
    obtain ⟨ov, hlk, -, hdat⟩ := hfm'.look hn
    have hd := hdat _ (lookL_mem hin) rfl
    obtain ⟨A1, c1, rfl, _, _⟩ := hd.slice
    have hlk2 : (Instr.lookup 80 (.map (some fm)) (.string n) false).run Try.prog w1.drew = .ok (.slice A1 (lookL n s.L).length c1) w1.drew := (hlk w1.drew (Keeps.below (Below.refl _ w1).drew)).2
    have c0 : w1.cell? ⟨sb, 0, none⟩ = some (.map (some fm)) := hbk.cell 0
    obtain ⟨u, hu⟩ : ∃ u, szL s.L = u := ⟨_, rfl⟩
    have c2 : w1.cell? ⟨sb, 2, none⟩ = some (.int .i64 (u : Nat)) := hu ▸ hbk.cell 2
    have cf : w1.frozen? ⟨sb, 2, none⟩ = false := hbk.frozen 2
    have c3 : w1.cell? ⟨w.heap.size, 0, none⟩ = some (.pointer (some ⟨sb, 0, none⟩)) := HX1.out.1.cell 0
    have c4 : w1.cell? ⟨w.heap.size + 1, 0, none⟩ = some (.string n) := HX1.out.2.cell 0
    obtain ⟨t, ht⟩ : ∃ t, szL (delL n s.L) = t := ⟨_, rfl⟩
    have hadd := szL_delL (n := n) (L := s.L)
    rw [ht, hu] at hadd
    have hub : u ≤ 16777216 := by have := HG.out.fits; have := HG.out.room1; omega
    have hw : IntKind.i64.wrap ((u : Int) - ((lookL n s.L).length : Int)) = (t : Int) := by rw [IntWalk.i64_in _ (by omega)]; omega
    have HHT := Lib.hid ht
    have nsb : No5 w1 (some sb) := No5.blk hbk (by decide)
    have fsb : fm ≠ sb := hfm.ne hbk
    have hfm2 : FMap (w1.setCell ⟨sb, 2, none⟩ (.int .i64 (t : Nat))).drew.drew _ fm s.L := (((hfm'.but (S := fun k => k = sb) (But.of_grown (grown_setCell w1 _ _) fun k e => by cases e; rfl) fsb (fun b hb => by cases hb; exact nsb)).below (Below.refl _ _).drew).below (Below.refl _ _).drew)
    obtain ⟨w3, hrun, hf3, ht3⟩ := hfm2.drop HG.out.rises hn hin 0
    have HEND : Hid (ShelfAt w3 (fun k => (ok k ∧ k < w.heap.size) ∨ ((w.alloc (.cells #[.pointer (some ⟨sb, 0, none⟩)] 27)).alloc (.cells #[.string n] 9)).heap.size ≤ k) sb { s.note 3 n 0 with L := delL n s.L } ∧ But (fun k => k = sb ∨ k = fm) w1 w3) :=
      remove_end (s := s.note 3 n 0) (L' := delL n s.L) hbk hfm hpm ham hrow hoks hne (w2 := (w1.setCell ⟨sb, 2, none⟩ (.int .i64 (t : Nat))).drew.drew) (by rw [ht]) hf3 ht3
    have HOK : Hid (∀ k, (k = sb ∨ k = fm) → ok k ∨ w.heap.size ≤ k) := fun k hk => by
      have q : ∀ k, ((ok k ∧ k < w.heap.size) ∨ ((w.alloc (.cells #[.pointer (some ⟨sb, 0, none⟩)] 27)).alloc (.cells #[.string n] 9)).heap.size ≤ k) → ok k ∨ w.heap.size ≤ k := fun k h => h.imp (fun h => h.1) fun h => by have := HSZ.out; omega
      rcases hk with rfl | rfl
      · exact q _ hoks.1
      · exact q _ hoks.2.1
    have HN5 : Hid (∀ b, (b = sb ∨ b = fm) → No5 w1 (some b)) := fun b hb => by
      rcases hb with rfl | rfl
      · exact nsb
      · exact hfm.no5
    have HRUN := Lib.hid hrun
    have HD : Hid ((w1.setCell ⟨sb, 2, none⟩ (.int .i64 (t : Nat))).drew.cell? ⟨sb, 0, none⟩ = some (.map (some fm)) ∧ (w1.setCell ⟨sb, 2, none⟩ (.int .i64 (t : Nat))).drew.cell? ⟨w.heap.size, 0, none⟩ = some (.pointer (some ⟨sb, 0, none⟩)) ∧ (w1.setCell ⟨sb, 2, none⟩ (.int .i64 (t : Nat))).drew.cell? ⟨w.heap.size + 1, 0, none⟩ = some (.string n)) :=
      ⟨(hbk.setCell 2 _).cell 0, (HX1.out.1.grown (grown_setCell w1 _ _) (fun e => HX1.out.1.ne hbk (by decide) (by injection e))).cell 0, (HX1.out.2.grown (grown_setCell w1 _ _) (fun e => HX1.out.2.ne hbk (by decide) (by injection e))).cell 0⟩
    clear hbk hfm hfm' hpm ham hrow hoks hne hlk hdat hd hfm2 hf3 ht3 nsb fsb hrun hub hadd ht
    go_region
    clear c0 c2 c3 c4 cf hlk2 hw
    generalize (w1.setCell ⟨sb, 2, none⟩ (.int .i64 (t : Nat))).drew = w2 at *
    have c0 := HD.out.1
    have c3 := HD.out.2.1
    have c4 := HD.out.2.2
    have hrun := HRUN.out
    go_wp2
    go_region_law (first
      | (refine step_delete rfl (.tmp 29) (.tmp 30) 80 9 rfl (.map (some fm)) (.string n) rfl rfl w3 hrun ?_)
      | fail)
    all_goals
      clear c0 c3 c4 hrun
      have ht := told.calls 0 w3
      go_wp2_with (first
        | (go_at_call 40; refine ht.mono ?_; rintro e w4 ⟨rfl, rfl⟩)
        | fail)
      go_ret
      refine ⟨by rw [HE.out]; rfl, ?_, But.old (((But.of_below HB0.out.1).trans2 (HBT.out.imp fun k hk => .inl hk.1)).trans2 (HEND.out.2.imp HOK.out)), fun okd v bs h => (HDT.out okd v bs (h.keep (Keeps.below HB0.out.1))).but HEND.out.2 HN5.out⟩
      have hrem : s.rem n = { s.note 3 n 0 with L := delL n s.L } := by rw [Sh.rem, HE.out, if_pos rfl]
      rw [hrem]
      exact HEND.out.1.mono fun k hk => hk.imp (fun h => h.1) fun h => by have := HSZ.out; omega
  · have e1 : (E == 0) = false := by simpa using h0
    have HNE := Lib.hid h0; clear h0
    go_enter Try.func19, Try.ntmps19
    go_wp2_with (first
      | (go_at_call 38; refine (ask.calls HS0.out 3 n 41 #[.pointer (some ⟨w.heap.size, 0, none⟩), .pointer (some ⟨w.heap.size + 1, 0, none⟩)] (lkE s n) (by decide) HALL.out (enter41 _) (fun fm rest hb hf => removeLook.calls hb hf hn HB0.out.2.1 HB0.out.2.2)).mono ?_; rintro e w1 ⟨rfl, hs1, hb1, hdt1⟩; rw [HE.out] at hs1 ⊢
         have HS1 := Lib.hid hs1
         have HBT := Lib.hid hb1
         have HT := Lib.hid (told.calls E w1)
         have HDT := Lib.hid hdt1
         clear hs1 hb1 hdt1)
      | (go_at_call 40; refine HT.out.mono ?_; rintro e w4 ⟨rfl, rfl⟩; rw [if_neg HNE.out])
      | fail)
    go_ret
    refine ⟨by rw [HE.out, errV, if_neg HNE.out]; rfl, ?_, (But.of_below HB0.out.1).trans2 (HBT.out.imp fun k hk => hk.1), fun okd v bs h => HDT.out okd v bs (h.keep (Keeps.below HB0.out.1))⟩
    have hrem : s.rem n = s.note 3 n E := by rw [Sh.rem, HE.out, if_neg HNE.out]; rfl
    rw [hrem]
    exact HS1.out.mono fun k hk => hk.imp (fun h => h.1) fun h => by have := HSZ.out; omega
end Go.Proofs.Ytplknppmaepinaa.S
/- The program's Write. -/
namespace Go.Proofs.Ytplknppmaepinaa.S
open Go Go.RowKit Go.X Go.Maps Go.Proofs.YtplknppmaepinaaW.PrintWords Go.Proofs.Ytplknppmaepinaa.F
set_option maxRecDepth 100000

theorem boxes4 (w : World) (a0 a1 a2 a3 : Value) : Below w.heap.size w ((((w.alloc (.cells #[a0] 27)).alloc (.cells #[a1] 39)).alloc (.cells #[a2] 39)).alloc (.cells #[a3] 4)) ∧ Blk ((((w.alloc (.cells #[a0] 27)).alloc (.cells #[a1] 39)).alloc (.cells #[a2] 39)).alloc (.cells #[a3] 4)) w.heap.size 27 [a0] ∧ Blk ((((w.alloc (.cells #[a0] 27)).alloc (.cells #[a1] 39)).alloc (.cells #[a2] 39)).alloc (.cells #[a3] 4)) (w.heap.size + 1) 39 [a1] ∧
    Blk ((((w.alloc (.cells #[a0] 27)).alloc (.cells #[a1] 39)).alloc (.cells #[a2] 39)).alloc (.cells #[a3] 4)) (w.heap.size + 1 + 1) 39 [a2] ∧ Blk ((((w.alloc (.cells #[a0] 27)).alloc (.cells #[a1] 39)).alloc (.cells #[a2] 39)).alloc (.cells #[a3] 4)) (w.heap.size + 1 + 1 + 1) 4 [a3] ∧ ((((w.alloc (.cells #[a0] 27)).alloc (.cells #[a1] 39)).alloc (.cells #[a2] 39)).alloc (.cells #[a3] 4)).heap.size = w.heap.size + 4 := by
  have e1 : (w.alloc (.cells #[a0] 27)).heap.size = w.heap.size + 1 := by simp
  have e2 : ((w.alloc (.cells #[a0] 27)).alloc (.cells #[a1] 39)).heap.size = w.heap.size + 1 + 1 := by simp
  have e3 : (((w.alloc (.cells #[a0] 27)).alloc (.cells #[a1] 39)).alloc (.cells #[a2] 39)).heap.size = w.heap.size + 1 + 1 + 1 := by simp
  have k0 := Blk.alloc w #[a0] 27
  have k1 := Blk.alloc (w.alloc (.cells #[a0] 27)) #[a1] 39
  have k2 := Blk.alloc ((w.alloc (.cells #[a0] 27)).alloc (.cells #[a1] 39)) #[a2] 39
  have k3 := Blk.alloc (((w.alloc (.cells #[a0] 27)).alloc (.cells #[a1] 39)).alloc (.cells #[a2] 39)) #[a3] 4
  rw [e1] at k1
  rw [e2] at k2
  rw [e3] at k3
  have b1 := (Below.refl _ (w.alloc (.cells #[a0] 27))).alloc (Nat.le_refl _) (.cells #[a1] 39)
  have b2 := (Below.refl _ ((w.alloc (.cells #[a0] 27)).alloc (.cells #[a1] 39))).alloc (Nat.le_refl _) (.cells #[a2] 39)
  have b3 := (Below.refl _ (((w.alloc (.cells #[a0] 27)).alloc (.cells #[a1] 39)).alloc (.cells #[a2] 39))).alloc (Nat.le_refl _) (.cells #[a3] 4)
  have j0 := k0.below b1 k0.lt
  have j0' := j0.below b2 j0.lt
  have j1 := k1.below b2 k1.lt
  exact ⟨((((Below.refl _ w).alloc (Nat.le_refl _) _).alloc (by simp) _).alloc (by simp; omega) _).alloc (by simp; omega) _, j0'.below b3 j0'.lt, j1.below b3 j1.lt, k2.below b3 k2.lt, k3, by simp⟩
theorem store_end {w1 w2 w3 : World} {ok : Nat → Prop} {sb fm pm am : Nat} {cv : Value} {s : Sh} (k1 : Blk w1 sb 84 [.map (some fm), .int .i64 s.room, .int .i64 (szL s.L), .map (some pm), .map (some am), cv]) (k2 : FMap w1 ok fm s.L) (k3 : PMap w1 pm s.plan) (k4 : AMap w1 am s.all)
    (k5 : w1.ownsRow 0 102 3 cv s.all.length (callCells s.all)) (k6 : ok sb ∧ ok fm ∧ ok pm ∧ ok am ∧ ∀ g, cv.ownBlock = some g → ok g) (k7 : fm ≠ pm ∧ fm ≠ am ∧ pm ≠ am) {L' : List S73} (g2 : But (fun k => k = sb) w1 w2) (b2 : Blk w2 sb 84 [.map (some fm), .int .i64 s.room, .int .i64 (szL L' : Nat), .map (some pm), .map (some am), cv]) (hf : FMap w3 ok fm L') (ht : w2.mapTurned w3 fm) :
    ShelfAt w3 ok sb { s with L := L' } ∧ But (fun k => k = sb ∨ k = fm) w1 w3 := by
  have g3 : But (fun k => k = sb ∨ k = fm) w1 w3 := (g2.imp fun k h => .inl h).trans2 (But.of_grown ht.grown fun k e => by cases e; exact .inr rfl)
  have nfm := k2.ne k1
  have ncv : ∀ g, cv.ownBlock = some g → ¬ (g = sb ∨ g = fm) := fun g hg h => by
    obtain ⟨D, q1, _⟩ := k2.out
    rcases h with rfl | rfl
    · exact row_ne_blk k5 k1 (by decide) hg rfl
    · exact ownsMap_ne_row q1 k5 hg.symm
  exact ⟨⟨fm, pm, am, cv, b2.grown ht.grown (fun e => nfm (by injection e with e; exact e.symm)), hf, k3.keep (fun k hk hlt => by cases hk; exact g3.block _ hlt fun h => h.elim (k3.ne k1) fun h => k7.1 h.symm), k4.keep (fun k hk hlt => by cases hk; exact g3.block _ hlt fun h => h.elim (k4.ne k1) fun h => k7.2.1 h.symm), row_but k5 g3 fun b hb e => ncv b e hb, k6, k7⟩, g3⟩
theorem lkW_ok {s : Sh} {n : ByteArray} {d : List Int} (h : lkW s n d = 0) : ¬ s.room < szBut n s.L + d.length := by
  unfold lkW at h
  split at h
  · cases h
  · rename_i h0
    exact fun h => h0 (.inr h)
/-- The shelf behind a Write. -/
def Sh.wr (s : Sh) (n : ByteArray) (d : List Int) : Sh := { s.note 2 n (askE s 2 n (lkW s n d)) with L := if askE s 2 n (lkW s n d) = 0 then putL n d s.L else s.L }
def WrPost (w : World) (ok : Nat → Prop) (sb : Nat) (s : Sh) (n : ByteArray) (d : List Int) (e : Ending) (w' : World) : Prop :=
  e = .returned (errV (askE s 2 n (lkW s n d))) ∧ ShelfAt w' (fun k => ok k ∨ w.heap.size ≤ k) sb (s.wr n d) ∧ But ok w w' ∧ ∀ okd v bs, DataAt w okd v bs → DataAt w' okd v bs
set_option maxHeartbeats 4000000 in
theorem write.calls {w : World} {ok : Nat → Prop} {sb : Nat} {s : Sh} (h : ShelfAt w ok sb s) (hg : Good s) (n : ByteArray) (hn : n.size ≤ maxLen) (hall : s.all.length ≤ 1073741824) (Ad : Option Addr) (cd : Nat) (d : List Int) (hD : ∀ W, But ok w W → (∀ okd v bs, DataAt w okd v bs → DataAt W okd v bs) → Kd.C (Kd.int .u8) W Ad d.length d) (hd : d.length ≤ 140737488355328) :
    Calls Try.prog 18 #[.pointer (some ⟨sb, 0, none⟩), .string n, .slice Ad d.length cd] w (WrPost w ok sb s n d) := by
  obtain ⟨E, hE⟩ : ∃ E, askE s 2 n (lkW s n d) = E := ⟨_, rfl⟩
  have HE := Lib.hid hE; clear hE
  have HSB := Lib.hid h.bound
  have HD := Lib.hid hD; clear hD
  have HALL := Lib.hid hall; clear hall
  have HG := Lib.hid hg; clear hg h
  have hB2 : Below w.heap.size w ((w.alloc (.cells #[.pointer (some ⟨sb, 0, none⟩)] 27)).alloc (.cells #[.slice Ad d.length cd] 39)) := ((Below.refl _ w).alloc (Nat.le_refl _) _).alloc (by simp) _
  obtain ⟨fm, pm, am, cv, k1, k2, -⟩ := HSB.out.out
  obtain ⟨ov, hlk, hnil, hdat⟩ := k2.look hn
  obtain ⟨Ao, co, hov, hoc⟩ : ∃ Ao co, ov = .slice Ao (lookL n s.L).length co ∧ True := by
    cases hh : hasN s.L n
    · rw [hnil hh, lookL_none hh]
      exact ⟨none, 0, rfl, trivial⟩
    · obtain ⟨A, c, e, _, _⟩ := (hdat _ (lookL_mem hh) rfl).slice
      exact ⟨A, c, e, trivial⟩
  subst hov
  have c0 : ((w.alloc (.cells #[.pointer (some ⟨sb, 0, none⟩)] 27)).alloc (.cells #[.slice Ad d.length cd] 39)).cell? ⟨sb, 0, none⟩ = some (.map (some fm)) := Below.cellS hB2 (k1.cell 0)
  have hlk0 := (hlk _ (Keeps.below hB2)).1
  obtain ⟨b, hb⟩ : ∃ b, hasN s.L n = b := ⟨_, rfl⟩
  have HBB := Lib.hid hb
  rw [hb] at hlk0
  have HB4 := Lib.hid (boxes4 w (.pointer (some ⟨sb, 0, none⟩)) (.slice Ad d.length cd) (.slice Ao (lookL n s.L).length co) (.bool b))
  have HS4 : Hid (ShelfAt ((((w.alloc (.cells #[.pointer (some ⟨sb, 0, none⟩)] 27)).alloc (.cells #[.slice Ad d.length cd] 39)).alloc (.cells #[.slice Ao (lookL n s.L).length co] 39)).alloc (.cells #[.bool b] 4)) (fun k => ok k ∧ k < w.heap.size) sb s) := HSB.out.keep (Keeps.below HB4.out.1)
  clear hlk hnil hdat hoc k1 k2 hb hB2
  have hmf : ∀ (fn : Fn) (first cap : Array Value) (w : World), (Instr.makeFunc fn first cap).run Try.prog w = .ok (.func fn first cap) w := fun _ _ _ _ => rfl
  by_cases h0 : E = 0
  · subst h0
    go_enter Try.func18, Try.ntmps18
    go_wp2_with (first
      | (go_at_call 38; refine (ask.calls HS4.out 2 n 39 #[.pointer (some ⟨w.heap.size + 1 + 1 + 1, 0, none⟩), .pointer (some ⟨w.heap.size, 0, none⟩), .pointer (some ⟨w.heap.size + 1, 0, none⟩), .pointer (some ⟨w.heap.size + 1 + 1, 0, none⟩)] (lkW s n d) (by decide) HALL.out (enter39 _) (fun fm rest hb hf => writeLook.calls HG.out hb hf (HBB.out ▸ HB4.out.2.2.2.2.1) HB4.out.2.1 HB4.out.2.2.1 HB4.out.2.2.2.1 hd)).mono ?_; rintro e w1 ⟨rfl, hs1, hb1, hdt1⟩; rw [HE.out] at hs1 ⊢
         have HS1 := Lib.hid hs1
         have HBT := Lib.hid hb1
         have HD1 : Hid (∀ okd v bs, DataAt w okd v bs → DataAt w1 okd v bs) := fun okd v bs h => hdt1 _ _ _ (h.keep (Keeps.below HB4.out.1))
         clear hs1 hb1 hdt1 c0 hlk0)
      | fail)
    have HX1 : Hid (Blk w1 w.heap.size 27 [.pointer (some ⟨sb, 0, none⟩)] ∧ Blk w1 (w.heap.size + 1) 39 [.slice Ad d.length cd] ∧ Blk w1 (w.heap.size + 1 + 1) 39 [.slice Ao (lookL n s.L).length co]) :=
      ⟨HB4.out.2.1.but HBT.out (fun h => by have := h.2; omega), HB4.out.2.2.1.but HBT.out (fun h => by have := h.2; omega), HB4.out.2.2.2.1.but HBT.out (fun h => by have := h.2; omega)⟩
    have HSG : Hid (w.heap.size ≤ w1.heap.size ∧ w.heap.size + 4 ≤ w1.heap.size) := by
      have := HBT.out.size
      have := HB4.out.2.2.2.2.2
      exact ⟨by omega, by omega⟩
    obtain ⟨fm1, pm1, am1, cv1, hbk, hfm, hpm, ham, hrow, hoks, hne⟩ := HS1.out.out
    have hfm' : FMap w1 _ fm1 s.L := hfm
    have c0 : w1.cell? ⟨sb, 0, none⟩ = some (.map (some fm1)) := hbk.cell 0
    obtain ⟨u, hu⟩ : ∃ u, szL s.L = u := ⟨_, rfl⟩
    have c2 : w1.cell? ⟨sb, 2, none⟩ = some (.int .i64 (u : Nat)) := hu ▸ hbk.cell 2
    have cf : w1.frozen? ⟨sb, 2, none⟩ = false := hbk.frozen 2
    have c3 : w1.cell? ⟨w.heap.size, 0, none⟩ = some (.pointer (some ⟨sb, 0, none⟩)) := HX1.out.1.cell 0
    have c4 : w1.cell? ⟨w.heap.size + 1, 0, none⟩ = some (.slice Ad d.length cd) := HX1.out.2.1.cell 0
    have c5 : w1.cell? ⟨w.heap.size + 1 + 1, 0, none⟩ = some (.slice Ao (lookL n s.L).length co) := HX1.out.2.2.cell 0
    have hfit := lkW_ok (askE_ok HE.out).2
    have hadd := szBut_add (n := n) HG.out.rises
    have hput := szL_putL (n := n) (d := d) HG.out.rises
    obtain ⟨t, ht⟩ : ∃ t, szL (putL n d s.L) = t := ⟨_, rfl⟩
    rw [hu] at hadd
    rw [ht] at hput
    have hr1 := HG.out.room1
    have hfi := HG.out.fits
    rw [hu] at hfi
    have hw1 : IntKind.i64.wrap ((d.length : Int) - ((lookL n s.L).length : Int)) = (d.length : Int) - ((lookL n s.L).length : Int) := IntWalk.i64_in _ (by omega)
    have hw2 : IntKind.i64.wrap ((u : Int) + ((d.length : Int) - ((lookL n s.L).length : Int))) = (t : Int) := by rw [IntWalk.i64_in _ (by omega)]; omega
    have HDL : Hid (d.length ≤ 16777216) := by show _ ≤ _; omega
    have HTT := Lib.hid ht
    have nsb : No5 w1 (some sb) := No5.blk hbk (by decide)
    have fsb : fm1 ≠ sb := hfm.ne hbk
    have HK : Hid (But (fun k => k = sb) w1 (w1.setCell ⟨sb, 2, none⟩ (.int .i64 (t : Nat))).drew) := (But.of_grown (grown_setCell w1 _ _) fun k e => by cases e; rfl).trans2 (But.of_below (Below.refl _ _).drew)
    have HM2 : Hid (FMap (w1.setCell ⟨sb, 2, none⟩ (.int .i64 (t : Nat))).drew (fun k => (ok k ∧ k < w.heap.size) ∨ ((((w.alloc (.cells #[.pointer (some ⟨sb, 0, none⟩)] 27)).alloc (.cells #[.slice Ad d.length cd] 39)).alloc (.cells #[.slice Ao (lookL n s.L).length co] 39)).alloc (.cells #[.bool b] 4)).heap.size ≤ k) fm1 s.L) := hfm'.but HK.out fsb (fun b hb => by cases hb; exact nsb)
    have HB2 : Hid (Blk (w1.setCell ⟨sb, 2, none⟩ (.int .i64 (t : Nat))).drew sb 84 [.map (some fm1), .int .i64 s.room, .int .i64 (t : Nat), .map (some pm1), .map (some am1), cv1]) := hbk.setCell 2 _
    have HX2 : Hid (Blk (w1.setCell ⟨sb, 2, none⟩ (.int .i64 (t : Nat))).drew w.heap.size 27 [.pointer (some ⟨sb, 0, none⟩)] ∧ Blk (w1.setCell ⟨sb, 2, none⟩ (.int .i64 (t : Nat))).drew (w.heap.size + 1) 39 [.slice Ad d.length cd]) := ⟨HX1.out.1.but HK.out (HX1.out.1.ne hbk (by decide)), HX1.out.2.1.but HK.out (HX1.out.2.1.ne hbk (by decide))⟩
    have hsbok : ok sb ∨ w.heap.size ≤ sb := hoks.1.imp (fun h => h.1) fun h => by have := HB4.out.2.2.2.2.2; omega
    have HC2 : Hid (Kd.C (Kd.int .u8) (w1.setCell ⟨sb, 2, none⟩ (.int .i64 (t : Nat))).drew Ad d.length d) :=
      HD.out _ (But.old (((But.of_below HB4.out.1).trans2 (HBT.out.imp fun k hk => .inl hk.1)).trans2 (HK.out.imp fun k hk => by cases hk; exact hsbok))) fun okd v bs h => (HD1.out okd v bs h).but HK.out fun b hb => by cases hb; exact nsb
    have HEND : Hid (∀ w5 w6, Below (w1.setCell ⟨sb, 2, none⟩ (.int .i64 (t : Nat))).drew.heap.size (w1.setCell ⟨sb, 2, none⟩ (.int .i64 (t : Nat))).drew w5 → FMap w6 (fun k => (ok k ∧ k < w.heap.size) ∨ ((((w.alloc (.cells #[.pointer (some ⟨sb, 0, none⟩)] 27)).alloc (.cells #[.slice Ad d.length cd] 39)).alloc (.cells #[.slice Ao (lookL n s.L).length co] 39)).alloc (.cells #[.bool b] 4)).heap.size ≤ k) fm1 (putL n d s.L) → w5.mapTurned w6 fm1 →
        ShelfAt w6 (fun k => (ok k ∧ k < w.heap.size) ∨ ((((w.alloc (.cells #[.pointer (some ⟨sb, 0, none⟩)] 27)).alloc (.cells #[.slice Ad d.length cd] 39)).alloc (.cells #[.slice Ao (lookL n s.L).length co] 39)).alloc (.cells #[.bool b] 4)).heap.size ≤ k) sb { s.note 2 n 0 with L := putL n d s.L } ∧ But (fun k => k = sb ∨ k = fm1) w1 w6) := fun w5 w6 hb hf6 ht6 =>
      store_end (s := s.note 2 n 0) (L' := putL n d s.L) hbk hfm hpm ham hrow hoks hne (w2 := w5) (HK.out.trans2 (But.of_below hb)) (by rw [ht]; exact HB2.out.below hb HB2.out.lt) hf6 ht6
    have HOK : Hid (∀ k, (k = sb ∨ k = fm1) → ok k ∨ w.heap.size ≤ k) := fun k hk => by
      have hsz := HB4.out.2.2.2.2.2
      have q : ∀ k, ((ok k ∧ k < w.heap.size) ∨ ((((w.alloc (.cells #[.pointer (some ⟨sb, 0, none⟩)] 27)).alloc (.cells #[.slice Ad d.length cd] 39)).alloc (.cells #[.slice Ao (lookL n s.L).length co] 39)).alloc (.cells #[.bool b] 4)).heap.size ≤ k) → ok k ∨ w.heap.size ≤ k := fun k h => h.imp (fun h => h.1) fun h => by omega
      rcases hk with rfl | rfl
      · exact q _ hoks.1
      · exact q _ hoks.2.1
    have HN5 : Hid (∀ b, (b = sb ∨ b = fm1) → No5 w1 (some b)) := fun b hb => by
      rcases hb with rfl | rfl
      · exact nsb
      · exact hfm.no5
    have HRI : Hid (Rises s.L ∧ s.L.length < maxLen) := ⟨HG.out.rises, by have := HG.out.few; simp only [maxLen]; omega⟩
    clear hsbok hbk hfm hfm' hpm ham hrow hoks hne nsb fsb hfit hadd hput hr1 hfi ht
    go_region
    clear c0 c2 c3 c4 c5 cf hw1 hw2
    generalize (w1.setCell ⟨sb, 2, none⟩ (.int .i64 (t : Nat))).drew = w2 at *
    have c0 : w2.cell? ⟨sb, 0, none⟩ = some (.map (some fm1)) := HB2.out.cell 0
    have c3 : w2.cell? ⟨w.heap.size, 0, none⟩ = some (.pointer (some ⟨sb, 0, none⟩)) := HX2.out.1.cell 0
    have c4 : w2.cell? ⟨w.heap.size + 1, 0, none⟩ = some (.slice Ad d.length cd) := HX2.out.2.cell 0
    go_wp2
    go_region_held3 (fun w' => w'.cell? ⟨sb, 0, none⟩ = some (.map (some fm1)) ∧ w'.cell? ⟨w.heap.size, 0, none⟩ = some (.pointer (some ⟨sb, 0, none⟩)) ∧ w'.cell? ⟨w.heap.size + 1, 0, none⟩ = some (.slice Ad d.length cd))
      (first
        | with_reducible exact ⟨q0, q1, q2⟩
        | with_reducible exact ⟨p0, p1, p2⟩
        | go_keep)
      (first
        | (go_at_call 32; refine (fresh.calls Ad cd d _ (Kd.C_below HC2.out (Below.refl _ w2).drew) (by have := HDL.out; omega)).mono ?_; rintro e w5 ⟨v5, rfl, hdat, hbl⟩
           have HB5 : Hid (Below w2.heap.size w2 w5) := (Below.refl _ w2).drew.trans hbl
           have p0 := Below.cellS HB5.out c0
           have p1 := Below.cellS HB5.out c3
           have p2 := Below.cellS HB5.out c4
           have HM5 : Hid (FMap w5 (fun k => (ok k ∧ k < w.heap.size) ∨ ((((w.alloc (.cells #[.pointer (some ⟨sb, 0, none⟩)] 27)).alloc (.cells #[.slice Ad d.length cd] 39)).alloc (.cells #[.slice Ao (lookL n s.L).length co] 39)).alloc (.cells #[.bool b] 4)).heap.size ≤ k) fm1 s.L) := HM2.out.below HB5.out
           obtain ⟨Av, cw, rfl, _, _⟩ := hdat.slice
           obtain ⟨w6, hrun6, hfm6, htu6⟩ := HM5.out.store HRI.out.1 HRI.out.2 hn (hdat.mono fun k hk => .inr (by
             have z1 := HB4.out.2.2.2.2.2
             have z2 := HSG.out.2
             have z3 := HK.out.size
             have z4 : w2.heap.size ≤ k := hk
             omega))
           have hne1 : ¬ sb = fm1 := fun e => HM5.out.ne (HB2.out.below HB5.out HB2.out.lt) e.symm
           have hne2 : ¬ w.heap.size = fm1 := fun e => HM5.out.ne (HX2.out.1.below HB5.out HX2.out.1.lt) e.symm
           have hne3 : ¬ w.heap.size + 1 = fm1 := fun e => HM5.out.ne (HX2.out.2.below HB5.out HX2.out.2.lt) e.symm
           have q0 := but_cell (mapTurned_but htu6) p0 hne1
           have q1 := but_cell (mapTurned_but htu6) p1 hne2
           have q2 := but_cell (mapTurned_but htu6) p2 hne3
           have HF6 := Lib.hid (HEND.out w5 w6 HB5.out hfm6 htu6)
           clear hdat hbl hfm6 htu6 hne1 hne2 hne3))
    rename _ ∧ _ ∧ _ => hHeld
    clear hHeld c0 c3 c4 p0 p1 p2 q0 q1 q2 hrun6
    have ht := told.calls 0 w6
    go_wp2_with (first
      | (go_at_call 40; refine ht.mono ?_; rintro e w7 ⟨rfl, rfl⟩)
      | fail)
    go_ret
    refine ⟨by rw [HE.out]; rfl, ?_, But.old (((But.of_below HB4.out.1).trans2 (HBT.out.imp fun k hk => .inl hk.1)).trans2 (HF6.out.2.imp HOK.out)), fun okd v bs h => (HD1.out okd v bs h).but HF6.out.2 HN5.out⟩
    have hrem : s.wr n d = { s.note 2 n 0 with L := putL n d s.L } := by rw [Sh.wr, HE.out, if_pos rfl]
    rw [hrem]
    exact HF6.out.1.mono fun k hk => hk.imp (fun h => h.1) fun h => by have := HB4.out.2.2.2.2.2; omega
  · have e1 : (E == 0) = false := by simpa using h0
    have HNE := Lib.hid h0; clear h0
    go_enter Try.func18, Try.ntmps18
    go_wp2_with (first
      | (go_at_call 38; refine (ask.calls HS4.out 2 n 39 #[.pointer (some ⟨w.heap.size + 1 + 1 + 1, 0, none⟩), .pointer (some ⟨w.heap.size, 0, none⟩), .pointer (some ⟨w.heap.size + 1, 0, none⟩), .pointer (some ⟨w.heap.size + 1 + 1, 0, none⟩)] (lkW s n d) (by decide) HALL.out (enter39 _) (fun fm rest hb hf => writeLook.calls HG.out hb hf (HBB.out ▸ HB4.out.2.2.2.2.1) HB4.out.2.1 HB4.out.2.2.1 HB4.out.2.2.2.1 hd)).mono ?_; rintro e w1 ⟨rfl, hs1, hb1, hdt1⟩; rw [HE.out] at hs1 ⊢
         have HS1 := Lib.hid hs1
         have HBT := Lib.hid hb1
         have HT := Lib.hid (told.calls E w1)
         have HDT := Lib.hid hdt1
         clear hs1 hb1 hdt1 c0 hlk0)
      | (go_at_call 40; refine HT.out.mono ?_; rintro e w4 ⟨rfl, rfl⟩; rw [if_neg HNE.out])
      | fail)
    go_ret
    refine ⟨by rw [HE.out, errV, if_neg HNE.out]; rfl, ?_, (But.of_below HB4.out.1).trans2 (HBT.out.imp fun k hk => hk.1), fun okd v bs h => HDT.out okd v bs (h.keep (Keeps.below HB4.out.1))⟩
    have hrem : s.wr n d = s.note 2 n E := by rw [Sh.wr, HE.out, if_neg HNE.out]; rfl
    rw [hrem]
    exact HS1.out.mono fun k hk => hk.imp (fun h => h.1) fun h => by have := HB4.out.2.2.2.2.2; omega
end Go.Proofs.Ytplknppmaepinaa.S
/- The book's Number: the number of an error. -/
namespace Go.Proofs.Ytplknppmaepinaa.S
open Go Go.RowKit Go.X Go.Proofs.YtplknppmaepinaaW.PrintWords Go.Proofs.Ytplknppmaepinaa.F
set_option maxRecDepth 100000 in
set_option maxHeartbeats 2000000 in
theorem number.calls (e : Int) (h : 0 ≤ e ∧ e < 400) (w : World) : Calls Try.prog 35 #[errV e] w fun r w' => r = .returned (.int .i64 e) ∧ w' = w := by
  by_cases h0 : e = 0
  · subst h0
    have hu46 := Try.underlying46
    have hn : ∀ W : World, (binOp .eql 46 .nilIface .nilIface).run Try.prog W = .ok (.bool true) W := fun W => by kernel_rfl
    show Calls Try.prog 35 #[.nilIface] w _
    go_enter Try.func35, Try.ntmps35
    go_wp2
    go_ret
    exact ⟨rfl, rfl⟩
  · have hv : errV e = .iface 42 (.int .i64 e) := if_neg h0
    rw [hv]
    have hn : ∀ W : World, (binOp .eql 46 (.iface 42 (.int .i64 e)) .nilIface).run Try.prog W = .ok (.bool false) W := fun W => by kernel_rfl
    have HE : Hid (1 ≤ e ∧ e < 400) := ⟨by omega, h.2⟩
    clear hv h h0
    go_enter Try.func35, Try.ntmps35
    go_wp2
    go_loopg [3, 4] 399 (fun q f v wr => ∃ k : Nat, q + k = 399 ∧ v = .int .i64 ((k : Int) + 1) ∧ f = .int .i64 (if e ≤ k then e else -1) ∧ wr = w)
    case atStart => exact ⟨0, by omega, rfl, by have := HE.out.1; rw [if_neg (by simp; omega)], rfl⟩
    case round =>
      obtain ⟨k, hk, rfl, rfl, rfl⟩ := hrel
      by_cases hlt : k < 399
      · have hk0 : (k : Int) + 1 < 400 := by omega
        have hkw : wrap64 ((k : Int) + 1 + 1) = ((k + 1 : Nat) : Int) + 1 := by rw [IntWalk.wrap64_in _ (by omega)]; omega
        have hc := errIs.calls e ((k : Int) + 1) wr
        by_cases he : e = (k : Int) + 1
        · have hb : (e == (k : Int) + 1) = true := by simpa using he
          rw [hb] at hc
          rw [if_neg (by omega)]
          have HH := Lib.hid he
          have HC := Lib.hid hc
          clear he hb hc
          go_wp2_with (first
            | (go_at_call 59; refine HC.out.mono ?_; rintro r w' ⟨rfl, rfl⟩)
            | fail)
          go_roundg (399 - (k + 1))
          case measure => clear hkw; omega
          case rel => exact ⟨k + 1, by clear hkw; omega, by first | rfl | rw [hkw], by have := HH.out; rw [if_pos (by omega), this], rfl⟩
        · have hb : (e == (k : Int) + 1) = false := by simpa using he
          rw [hb] at hc
          have hf : (if e ≤ ((k + 1 : Nat) : Int) then e else -1) = if e ≤ (k : Int) then e else -1 := by
            by_cases h1 : e ≤ (k : Int)
            · rw [if_pos h1, if_pos (by omega)]
            · rw [if_neg h1, if_neg (by omega)]
          obtain ⟨y, hy⟩ : ∃ y, (if e ≤ (k : Int) then e else -1) = y := ⟨_, rfl⟩
          rw [hy] at hf ⊢
          have HF := Lib.hid hf
          have HC := Lib.hid hc
          clear he hb hc hf hy
          go_wp2_with (first
            | (go_at_call 59; refine HC.out.mono ?_; rintro r w' ⟨rfl, rfl⟩)
            | fail)
          go_roundg (399 - (k + 1))
          case measure => clear hkw; omega
          case rel => exact ⟨k + 1, by clear hkw; omega, by first | rfl | rw [hkw], by rw [HF.out], rfl⟩
      · obtain rfl : k = 399 := by omega
        rw [if_pos (by have := HE.out.2; omega)]
        go_wp2
        go_ret
        exact ⟨rfl, rfl⟩
end Go.Proofs.Ytplknppmaepinaa.S
/- What a shelf keeps: names rise and are names, few files, all within the room. -/
namespace Go.Proofs.Ytplknppmaepinaa.S
open Go Go.RowKit Go.X Go.Proofs.YtplknppmaepinaaW.PrintWords Go.Proofs.Ytplknppmaepinaa.F

theorem Good.note {s : Sh} (h : Good s) (c : Int) (n : ByteArray) (e : Int) : Good (s.note c n e) := ⟨h.rises, h.names, h.few, h.fits, h.room0, h.room1⟩
theorem Good.rem {s : Sh} (h : Good s) (n : ByteArray) : Good (s.rem n) := by
  unfold Sh.rem
  by_cases h0 : askE s 3 n (lkE s n) = 0
  · rw [if_pos h0]
    have hin := lkE_ok (askE_ok h0).2
    have h1 := length_delL hin
    have h2 := szL_delL (n := n) (L := s.L)
    have h3 := h.few
    have h4 := h.fits
    exact ⟨h.rises.del, fun f hf => h.names f (mem_delL hf), by show (delL n s.L).length ≤ 64; omega, by show (szL (delL n s.L) : Int) ≤ s.room; omega, h.room0, h.room1⟩
  · rw [if_neg h0]
    exact h.note 3 n _
theorem lkW_few {s : Sh} {n : ByteArray} {d : List Int} (h : lkW s n d = 0) : ¬ (hasN s.L n = false ∧ s.L.length = 64) := by
  unfold lkW at h
  split at h
  · cases h
  · rename_i h0
    exact fun h => h0 (.inl h)
theorem Good.wr {s : Sh} (h : Good s) (n : ByteArray) (d : List Int) : Good (s.wr n d) := by
  unfold Sh.wr
  by_cases h0 : askE s 2 n (lkW s n d) = 0
  · rw [if_pos h0]
    obtain ⟨hn, hl⟩ := askE_ok h0
    have h1 := length_putL (n := n) (d := d) h.rises
    have h2 := szL_putL (n := n) (d := d) h.rises
    have h3 := h.few
    have h4 := lkW_ok hl
    have h5 := lkW_few hl
    refine ⟨h.rises.put, fun f hf => ?_, ?_, ?_, h.room0, h.room1⟩
    · rcases mem_putL hf with e | hf
      · rw [e]; exact hn
      · exact h.names f hf
    · show (putL n d s.L).length ≤ 64
      cases hh : hasN s.L n
      · rw [hh] at h1 h5
        simp at h1 h5
        omega
      · rw [hh] at h1
        simp at h1
        omega
    · show (szL (putL n d s.L) : Int) ≤ s.room
      omega
  · rw [if_neg h0]
    exact h.note 2 n _
end Go.Proofs.Ytplknppmaepinaa.S
/- The law's total: the bytes of files whose names rise. -/
namespace Go.Proofs.Ytplknppmaepinaa.S
open Go Go.RowKit Go.X Go.Proofs.YtplknppmaepinaaW.PrintWords Go.Proofs.Ytplknppmaepinaa.F

end Go.Proofs.Ytplknppmaepinaa.S
/- A step of a script, in plain Lean: what it leaves, what it answers. -/
namespace Go.Proofs.Ytplknppmaepinaa.S
open Go Go.RowKit Go.X Go.Proofs.YtplknppmaepinaaW.PrintWords Go.Proofs.Ytplknppmaepinaa.F

end Go.Proofs.Ytplknppmaepinaa.S
/- Single operations, run. -/
namespace Go.Proofs.Ytplknppmaepinaa.S
open Go Go.RowKit Go.X Go.Proofs.YtplknppmaepinaaW.PrintWords Go.Proofs.Ytplknppmaepinaa.F
end Go.Proofs.Ytplknppmaepinaa.S
/- The drawn regions of the shelf's laws, by their invariants (printed by wip/gen/gensh.py). -/
namespace Go.X
open Go Go.RowKit
theorem Does.buildSlice0 {P : Program} {ty : TypeId} {ρ : Operand → Value} {w : World} {K : Value → World → Prop} (t e : TypeId) (size : Nat) (hu : P.underlying t = some (.slice e)) (hi : (P.info? e).isSome = true)
    (h : ∀ w', w'.ownsRow w.heap.size e size (.slice (some ⟨w.heap.size, 0, none⟩) 0 0) 0 [] → Below w.heap.size w w' → K (.slice (some ⟨w.heap.size, 0, none⟩) 0 0) w') : Does P (.buildSlice t 0 #[]) ty ρ w K := by
  have hr : (Instr.buildSlice t 0 #[]).run P w = .ok (.slice (some ⟨w.heap.size, 0, none⟩) 0 0) (w.alloc (.cells #[] e)) := by
    obtain ⟨i, hi⟩ := Option.isSome_iff_exists.1 hi
    have h0 : (Array.range 0).map (fun _ => (default : Value)) = #[] := Array.eq_empty_of_size_eq_zero (by simp)
    simp [Instr.buildSlice, run_underlying hu, Go.sizeOf, typeInfo, hi, Instr.fill, newRow, h0]
  simp only [Does, execOp, List.map_toArray, List.map_nil, hr, Sem.run_bind, Sem.run_pure, Result.andThen_ok]
  exact h _ (own_empty w e size) ((Below.refl _ _).alloc (Nat.le_refl _) _)
theorem grown_of_below {w w' : World} (h : Below w.heap.size w w') (r : Option Nat) : w.grownBy w' r := ⟨h.os, h.tape, h.output, h.size, fun k hk _ => h.block k hk⟩
end Go.X
namespace Go.Proofs.Ytplknppmaepinaa.S
open Go Go.RowKit Go.X Go.Maps Go.Proofs.YtplknppmaepinaaW.PrintWords Go.Proofs.Ytplknppmaepinaa.F
set_option maxRecDepth 100000
theorem u39w : Try.prog.underlying 39 = some (.slice 5) := Try.underlying39
structure T3w (wb0 : World) (ok : Nat → Prop) (sb eb : Nat) (s : Sh) (kd on : Int) (n : ByteArray) (Ad : Option Addr) (cd : Nat) (d : List Int) (tw : Bool) (b : Bits) (f : Slots) (w : World) : Prop where
  but : But (fun q => ok q) wb0 w
  g0 : f 0 = .pointer (some ⟨sb, 0, none⟩)
  g3 : f 3 = .pointer (some ⟨eb, 0, none⟩)
  p0 : b 0 = true → f 11 = .pointer (some ⟨sb, 0, none⟩)
  p1 : b 1 = true → f 12 = .pointer (some ⟨eb, 1, none⟩)
  p2 : b 2 = true → f 13 = .string n
  p4 : b 4 = true → f 15 = .pointer (some ⟨eb, 2, none⟩)
  p5 : b 5 = true → f 16 = .slice Ad d.length cd
  x0 : b 7 = false → Below wb0.heap.size wb0 w
  x3 : b 3 = true → b 6 = false → ∃ q, f 14 = .slice (some ⟨q, 0, none⟩) 0 0 ∧ wb0.heap.size ≤ q ∧ w.ownsRow q 5 1 (.slice (some ⟨q, 0, none⟩) 0 0) 0 []
  x6 : b 6 = true → b 7 = false → DataAt w (fun k => wb0.heap.size ≤ k) (f 17) d
  x7 : b 7 = true → f 18 = errV (askE s 2 n (lkW s n d)) ∧ ShelfAt w (fun k => ok k ∨ wb0.heap.size ≤ k) sb (s.wr n d) ∧ ∀ okd v bs, DataAt wb0 okd v bs → DataAt w okd v bs
theorem T3w.below {wb0 : World} {ok : Nat → Prop} {sb eb : Nat} {s : Sh} {kd on : Int} {n : ByteArray} {Ad : Option Addr} {cd : Nat} {d : List Int} {tw : Bool} {b : Bits} {f : Slots} {w w' : World} (h : T3w wb0 ok sb eb s kd on n Ad cd d tw b f w) (g : Below w.heap.size w w') : T3w wb0 ok sb eb s kd on n Ad cd d tw b f w' :=
  { h with
    but := h.but.grown (Go.X.grown_of_below g none) (fun _ e => nomatch e)
    x0 := fun hb => (h.x0 hb).trans (g.mono (h.x0 hb).size)
    x3 := fun h1 h2 => (h.x3 h1 h2).imp fun _ ⟨e, k1, k2⟩ => ⟨e, k1, ownsRow_keep (ok := fun _ => True) k2 (Keeps.below g) (fun _ _ => trivial)⟩
    x6 := fun h1 h2 => (h.x6 h1 h2).keep (Keeps.below g)
    x7 := fun h1 => ⟨(h.x7 h1).1, (h.x7 h1).2.1.keep (Keeps.below g), fun okd v bs hv => ((h.x7 h1).2.2 okd v bs hv).keep (Keeps.below g)⟩ }
set_option maxRecDepth 100000 in
theorem T3w.wp (wb0 : World) (ok : Nat → Prop) (sb eb : Nat) (s : Sh) (kd on : Int) (n : ByteArray) (Ad : Option Addr) (cd : Nat) (d : List Int) (tw : Bool) (h_eb : Blk wb0 eb 41 [.int .i64 kd, .string n, .slice Ad d.length cd, .int .i64 on, .bool tw]) (m_eb : ¬ (ok eb)) (hs : ShelfAt wb0 ok sb s) (hg : Good s) (hn : n.size ≤ maxLen) (hall : s.all.length ≤ 1073741824) (hD : Kd.C (Kd.int .u8) wb0 Ad d.length d) (hdl : d.length ≤ 140737488355328) (act : Act) (Q : Exit → Act → World → Prop) (hz : act.tmps.size = 19)
    (s0 : Slots.of act 0 = .pointer (some ⟨sb, 0, none⟩)) (s3 : Slots.of act 3 = .pointer (some ⟨eb, 0, none⟩))
    (hQ : ∀ (f : Slots) (w' : World), But (fun q => ok q) wb0 w' → ShelfAt w' (fun k => ok k ∨ wb0.heap.size ≤ k) sb (s.wr n d) → (∀ okd v bs, DataAt wb0 okd v bs → DataAt w' okd v bs) → Q .normal (Act.puts act f [11, 12, 13, 14, 15, 16, 17, 18]) w') :
    (Code.region 3 #[{ dst := some 11, op := Go.Op.move (Go.Operand.tmp 0), type := 27, pos := "theorems.go:178", after := #[], guard := none }, { dst := some 12, op := Go.Op.fieldAddr 41 (Go.Operand.tmp 3) 1, type := 0, pos := "theorems.go:178", after := #[], guard := none }, { dst := some 13, op := Go.Op.load 9 (Go.Operand.tmp 12), type := 9, pos := "theorems.go:178", after := #[{ on := 1, ground := Go.Ground.data }], guard := none }, { dst := some 14, op := Go.Op.buildSlice 39 0 #[], type := 39, pos := "theorems.go:178", after := #[], guard := none }, { dst := some 15, op := Go.Op.fieldAddr 41 (Go.Operand.tmp 3) 2, type := 0, pos := "theorems.go:178", after := #[], guard := none }, { dst := some 16, op := Go.Op.load 39 (Go.Operand.tmp 15), type := 39, pos := "theorems.go:178", after := #[{ on := 4, ground := Go.Ground.data }], guard := none }, { dst := some 17, op := Go.Op.call { callee := Go.Callee.builtin Go.Builtin.append, args := #[Go.Operand.tmp 14, Go.Operand.tmp 16], argTypes := #[39, 39] }, type := 39, pos := "theorems.go:178", after := #[{ on := 3, ground := Go.Ground.data }, { on := 5, ground := Go.Ground.data }], guard := none }, { dst := some 18, op := Go.Op.call { callee := Go.Callee.value (Go.Operand.func 18), args := #[Go.Operand.tmp 11, Go.Operand.tmp 13, Go.Operand.tmp 17], argTypes := #[27, 9, 39] }, type := 46, pos := "theorems.go:178", after := #[{ on := 0, ground := Go.Ground.data }, { on := 2, ground := Go.Ground.data }, { on := 6, ground := Go.Ground.data }, { on := 6, ground := Go.Ground.chain }], guard := none }] true).wp Try.prog Q act wb0 := by
  refine wp_region_slots (fun b f w => T3w wb0 ok sb eb s kd on n Ad cd d tw b f w) 8 [0, 1, 2, 3, 4, 5, 6, 7] [11, 12, 13, 14, 15, 16, 17, 18] 19 (by kernel_rfl) rfl rfl rfl (by kernel_rfl) (by kernel_rfl) hz (by kernel_rfl) ?_ ?_ ?_
  · exact { but := But.drewN_refl wb0, g0 := s0, g3 := s3, p0 := nofun, p1 := nofun, p2 := nofun, p4 := nofun, p5 := nofun, x0 := fun _ => (Below.refl _ wb0).drew, x3 := nofun, x6 := nofun, x7 := nofun }
  · refine SSteps.cons (i := 0) (ds := []) (js := [7]) rfl (by kernel_rfl) (by kernel_rfl) (fun b f w hb0 hd hj h => ?_) ?_
    · exact Does.move { h with p0 := fun _ => h.g0 }
    refine SSteps.cons (i := 1) (ds := []) (js := [2, 7]) rfl (by kernel_rfl) (by kernel_rfl) (fun b f w hb0 hd hj h => ?_) ?_
    · have e0 := h.g3
      exact Does.fieldAddr (v := .pointer (some ⟨eb, 1, none⟩)) (by rw [show f.eval (.tmp 3) = _ from e0]; go_simp) { h with p1 := fun _ => rfl }
    refine SSteps.cons (i := 2) (ds := [1]) (js := [7]) rfl (by kernel_rfl) (by kernel_rfl) (fun b f w hb0 hd hj h => ?_) ?_
    · have d1 : b 1 = true := hd 1 (by decide)
      have e0 := (h.p1 d1)
      have hc : w.cell? ⟨eb, 1, none⟩ = some (.string n) := (h_eb.but h.but m_eb).cell 1
      exact Does.load (v := .string n) (by rw [show f.eval (.tmp 12) = _ from e0]; go_simp) { h with p2 := fun _ => rfl }
    refine SSteps.cons (i := 3) (ds := []) (js := [6, 7]) rfl (by kernel_rfl) (by kernel_rfl) (fun b f w hb0 hd hj h => ?_) ?_
    · refine Does.buildSlice0 39 5 1 u39w (by kernel_rfl) ?_
      intro w' ho' hbl
      exact { (h.below hbl) with x3 := fun _ _ => ⟨w.heap.size, rfl, (h.x0 (hj 7 (by decide))).size, ho'⟩ }
    refine SSteps.cons (i := 4) (ds := []) (js := [5, 6, 7]) rfl (by kernel_rfl) (by kernel_rfl) (fun b f w hb0 hd hj h => ?_) ?_
    · have e0 := h.g3
      exact Does.fieldAddr (v := .pointer (some ⟨eb, 2, none⟩)) (by rw [show f.eval (.tmp 3) = _ from e0]; go_simp) { h with p4 := fun _ => rfl }
    refine SSteps.cons (i := 5) (ds := [4]) (js := [6, 7]) rfl (by kernel_rfl) (by kernel_rfl) (fun b f w hb0 hd hj h => ?_) ?_
    · have d4 : b 4 = true := hd 4 (by decide)
      have e0 := (h.p4 d4)
      have hc : w.cell? ⟨eb, 2, none⟩ = some (.slice Ad d.length cd) := (h_eb.but h.but m_eb).cell 2
      exact Does.load (v := .slice Ad d.length cd) (by rw [show f.eval (.tmp 15) = _ from e0]; go_simp) { h with p5 := fun _ => rfl }
    refine SSteps.cons (i := 6) (ds := [3, 5, 4]) (js := [7]) rfl (by kernel_rfl) (by kernel_rfl) (fun b f w hb0 hd hj h => ?_) ?_
    · have d5 : b 5 = true := hd 5 (by decide)
      have d3 : b 3 = true := hd 3 (by decide)
      have e5 := (h.p5 d5)
      obtain ⟨q, e3, hq, ho⟩ := h.x3 d3 hb0
      have hb7 : b 7 = false := hj 7 (by decide)
      refine Does.appendAny q (.int .u8 0) 1 1 u39w info5 rfl (by decide) e3 ho e5 (by rw [nums_length]; omega) (C_bytes (Kd.C_below hD (h.x0 hb7))) (nums_one d) (by simp only [maxLen]; omega) (by omega) (Nat.le_of_lt (World.ownsRow.lt ho q rfl).2) ?_
      intro v' w' ho' ha
      have hb' := (h.x0 hb7).grown ha.grown (h.x0 hb7).size (by intro k e; cases e; exact hq)
      exact { but := But.of_below hb', x0 := fun _ => hb', x3 := fun _ hf => tf hf, x6 := fun _ _ => DataAt.of_own (base := q) (by have k := ho'; rw [Nat.zero_add, List.nil_append] at k; exact k) (fun g hg => Nat.le_trans hq (own_ge ho' g hg)), x7 := fun hf => no hb7 hf, g0 := h.g0, g3 := h.g3, p0 := h.p0, p1 := h.p1, p2 := h.p2, p4 := h.p4, p5 := h.p5 }
    refine SSteps.cons (i := 7) (ds := [0, 2, 6, 1, 3, 5, 4]) (js := []) rfl (by kernel_rfl) (by kernel_rfl) (fun b f w hb0 hd hj h => ?_) ?_
    · have d0 : b 0 = true := hd 0 (by decide)
      have d2 : b 2 = true := hd 2 (by decide)
      have d6 : b 6 = true := hd 6 (by decide)
      have e0 := (h.p0 d0)
      have e2 := (h.p2 d2)
      have hd := h.x6 d6 hb0
      obtain ⟨A6, c6, e6, _, _⟩ := hd.slice
      have hS := (hs.bound.keep (Keeps.below (h.x0 hb0)))
      refine Does.call (args := #[.pointer (some ⟨sb, 0, none⟩), .string n, .slice A6 d.length c6]) (by simp [Slots.eval, e0, e2, e6]) rfl (by kernel_rfl) ?_
      refine (write.calls hS hg n hn hall A6 c6 d (fun W hW _ => ?_) hdl).mono ?_
      · rw [e6] at hd
        rcases hd with ⟨h0, A0, c0, e⟩ | ⟨g, c', rest, e, k1, k2, k3, k4⟩
        · subst h0
          exact ⟨rfl, by simp, fun h => absurd h (Nat.lt_irrefl _)⟩
        · obtain ⟨A7, c7, e7, _, k7⟩ := DataAt.slice (w := W) (ok := fun _ => True) (.inr ⟨g, c', rest, e, k1, k2, trivial, k4.but hW (fun h => by have := h.2; omega)⟩)
          cases e7
          exact k7
      rintro e w' ⟨rfl, hs', hb', hdt⟩
      have hbt : But (fun q => ok q) wb0 w' := But.trans2 (But.of_below (h.x0 hb0)) (hb'.imp fun k hk => hk.1)
      exact ⟨_, rfl, { but := hbt, x0 := fun hf => tf hf, x3 := fun _ hf => no (show b 6 = false from hf) d6, x6 := fun _ hf => tf hf, x7 := fun _ => ⟨rfl, hs'.mono (fun k hk => hk.imp (fun h => h.1) fun hk => Nat.le_trans (h.x0 hb0).size hk), fun okd v bs hv => hdt okd v bs (hv.keep (Keeps.below (h.x0 hb0)))⟩, g0 := h.g0, g3 := h.g3, p0 := h.p0, p1 := h.p1, p2 := h.p2, p4 := h.p4, p5 := h.p5 }⟩
    exact SSteps.nil
  · intro b f w' hall h _
    exact hQ f w' h.but  (h.x7 (hall 7 (by decide))).2.1 (h.x7 (hall 7 (by decide))).2.2
end Go.Proofs.Ytplknppmaepinaa.S
/- The law's turn: something is written or removed. -/
namespace Go.Proofs.Ytplknppmaepinaa.S
open Go Go.RowKit Go.X Go.Maps Go.Proofs.YtplknppmaepinaaW.PrintWords Go.Proofs.Ytplknppmaepinaa.F
set_option maxRecDepth 100000
def tS (s : Sh) (o : S41) : Sh := if o.f0 = 3 then s.rem o.f1 else s.wr o.f1 o.f2
theorem tS_good {s : Sh} (h : Good s) (o : S41) : Good (tS s o) := by
  unfold tS
  split
  · exact h.rem _
  · exact h.wr _ _
theorem tS_all (s : Sh) (o : S41) : (tS s o).all.length = s.all.length + 1 := by
  unfold tS
  split
  · simp [Sh.rem, Sh.note]
  · simp [Sh.wr, Sh.note]
def TurnPost (w : World) (ok : Nat → Prop) (sb : Nat) (s : Sh) (o : S41) (e : Ending) (w' : World) : Prop :=
  e = .returned (.tuple #[]) ∧ ShelfAt w' (fun k => ok k ∨ w.heap.size ≤ k) sb (tS s o) ∧ But ok w w' ∧ DKept w w'
set_option maxHeartbeats 4000000 in
theorem turn.calls {w : World} {ok : Nat → Prop} {sb : Nat} {s : Sh} (h : ShelfAt w ok sb s) (hg : Good s) (o : S41) (Ad : Option Addr) (cd : Nat) (hn : o.f1.size ≤ maxLen) (hall : s.all.length ≤ 1073741824) (hD : Kd.C (Kd.int .u8) w Ad o.f2.length o.f2) (hd : o.f2.length ≤ 140737488355328) :
    Calls Try.prog 28 #[.pointer (some ⟨sb, 0, none⟩), .agg #[.int .i64 o.f0, .string o.f1, .slice Ad o.f2.length cd, .int .i64 o.f3, .bool o.f4]] w (TurnPost w ok sb s o) := by
  have HE : Hid (Below w.heap.size w (w.alloc (.cells #[.int .i64 o.f0, .string o.f1, .slice Ad o.f2.length cd, .int .i64 o.f3, .bool o.f4] 41)) ∧ Blk (w.alloc (.cells #[.int .i64 o.f0, .string o.f1, .slice Ad o.f2.length cd, .int .i64 o.f3, .bool o.f4] 41)) w.heap.size 41 [.int .i64 o.f0, .string o.f1, .slice Ad o.f2.length cd, .int .i64 o.f3, .bool o.f4]) :=
    ⟨(Below.refl _ _).alloc (Nat.le_refl _) _, Blk.alloc w _ _⟩
  have HS := Lib.hid h.bound
  have HD := Lib.hid hD
  have HH := Lib.hid (And.intro hg (And.intro hn (And.intro hall hd)))
  have HF : Hid (∀ w1 w' s', Below w.heap.size w w1 → ShelfAt w' (fun k => (ok k ∧ k < w.heap.size) ∨ w1.heap.size ≤ k) sb s' → But (fun k => ok k ∧ k < w.heap.size) w1 w' → DKept w1 w' → ShelfAt w' (fun k => ok k ∨ w.heap.size ≤ k) sb s' ∧ But ok w w' ∧ DKept w w') := fun w1 w' s' hb hs hk hdk =>
    ⟨hs.mono fun k hk => hk.imp (fun h => h.1) fun h => Nat.le_trans hb.size h, (But.of_below hb).trans2 (hk.imp fun k h => h.1), (DKept.below hb).trans hdk⟩
  clear h hD hg hn hall hd
  go_enter Try.func28, Try.ntmps28
  go_upto_region 1 with fail
  generalize w.alloc (.cells #[.int .i64 o.f0, .string o.f1, .slice Ad o.f2.length cd, .int .i64 o.f3, .bool o.f4] 41) = wo at *
  have HSO : Hid (ShelfAt wo (fun k => ok k ∧ k < w.heap.size) sb s) := HS.out.keep (Keeps.below HE.out.1)
  have c0 : wo.cell? ⟨w.heap.size, 0, none⟩ = some (.int .i64 o.f0) := HE.out.2.cell 0
  have c1 : wo.cell? ⟨w.heap.size, 1, none⟩ = some (.string o.f1) := HE.out.2.cell 1
  by_cases hk : o.f0 = 3
  · have t3 : (o.f0 == 3) = true := by simp [hk]
    have HT : Hid (tS s o = s.rem o.f1) := if_pos hk
    clear hk
    go_wp2_with (first
      | (go_at_call 19; refine (remove.calls HSO.out HH.out.1 o.f1 HH.out.2.1 HH.out.2.2.1).mono ?_; rintro e w7 ⟨rfl, hs7, hb7, hd7⟩
         have HR7 := Lib.hid (HF.out wo w7 _ HE.out.1 hs7 hb7 hd7)
         clear hs7 hb7 hd7)
      | fail)
    go_end0
    refine ⟨rfl, ?_⟩
    rw [HT.out]
    exact HR7.out
  · have t3 : (o.f0 == 3) = false := by simp [hk]
    have HT : Hid (tS s o = s.wr o.f1 o.f2) := if_neg hk
    clear hk
    go_wp2_with (fail)
    refine T3w.wp wo (fun k => ok k ∧ k < w.heap.size) sb w.heap.size s o.f0 o.f3 o.f1 Ad cd o.f2 o.f4 HE.out.2 (fun h => absurd h.2 (Nat.lt_irrefl _)) HSO.out HH.out.1 HH.out.2.1 HH.out.2.2.1 (Kd.C_below HD.out HE.out.1) HH.out.2.2.2 _ _ rfl rfl rfl ?_
    intro f7 w7 hb7 hs7 hd7
    have HR7 := Lib.hid (HF.out wo w7 _ HE.out.1 hs7 hb7 hd7)
    clear hb7 hs7 hd7
    simp only [Act.puts, Act.put, List.setIfInBounds_toArray, List.set_cons_zero, List.set_cons_succ]
    go_wp2
    go_end0
    refine ⟨rfl, ?_⟩
    rw [HT.out]
    exact HR7.out
end Go.Proofs.Ytplknppmaepinaa.S
/- 'for name, b := range it', it handed back by Each: the body is told which file has come, and that its bytes lie in new memory. -/
namespace Go.Proofs.Ytplknppmaepinaa.S
open Go Go.RowKit Go.X Go.Maps Go.Sort Go.Proofs.YtplknppmaepinaaW.PrintWords Go.Proofs.Ytplknppmaepinaa.F

/-- How a round's body may be left: the loop's record lies as it lay. -/
def RoundEnd (l : Nat) (I : Nat → World → Prop) (Ix : Code → Nat → World → Prop) (k : Nat) (W : World) : Exit → Act → World → Prop
  | .normal, _, W' => W'.heap[l]? = W.heap[l]? ∧ I (k + 1) W'
  | .ret, _, W' => W'.heap[l]? = W.heap[l]? ∧ Ix .ret k W'
  | .exit id, _, W' => W'.heap[l]? = W.heap[l]? ∧ Ix (.exit id) k W'
  | .goto t, _, W' => W'.heap[l]? = W.heap[l]? ∧ Ix (.goto t) k W'
  | .panic _, _, _ => False
  | .outgrown, _, _ => False
/-- The loop's record. -/
def rec0 (fn : FuncId) (a : Act) (ps : Array Tmp) (assign body : Code) (D0 : Nat) (st : LoopState) (pe : Option Code) : Loop := { state := st, pending := pe, fn := fn, tmps := a.tmps, params := ps, assign := assign, body := body, defers := D0 }
theorem put_lt {W : World} {l : Nat} {o : Obj} (h : W.heap[l]? = some o) : l < W.heap.size := (Array.getElem?_eq_some_iff.1 h).1
set_option maxHeartbeats 1000000 in
theorem rangeEach {F : Fence} {n : Nat} {g : Operand} {ps : Array Tmp} {assign body : Code} {Q : Exit → Act → World → Prop} {a : Act} {w : World} (l : Nat) (mk : List Deferred) (X : It) (L : List S73)
    (hn : 2 ≤ n) (hFf : ∀ f, F.fn f) (hFc : ∀ {m f args w R}, CallsIn Fence.wide m Try.prog f args w R → CallsIn F m Try.prog f args w R)
    (hg : a.eval g = .func (.func 53) #[] #[.pointer (some ⟨X.nb, 0, none⟩), .pointer (some ⟨X.mb, 0, none⟩)]) (hps : ps.size = 2)
    (hr : Rises L) (hL : L.length ≤ 64) (hm : ∀ f ∈ L, f.f0.size ≤ maxLen ∧ f.f1.length ≤ 16777216)
    (I : Nat → World → Prop) (Ix : Code → Nat → World → Prop)
    (he : ∀ fn, ∃ W1 D0, (Instr.enterLoop fn a.tmps ps assign body F.round).run Try.prog w = .ok (l, mk) W1 ∧ W1.heap[l]? = some (.loop (rec0 fn a ps assign body D0 .ready none)) ∧ I 0 W1)
    (hIt : ∀ k W, I k W → ∃ okI, ItAt W okI X L) (hIb : ∀ k W W', I k W → Below W.heap.size W W' → I k W')
    (hIp : ∀ k W o', I k W → (∃ r, W.heap[l]? = some (.loop r)) → o'.isCells = false → I k (W.putObj l o'))
    (hIxp : ∀ c k W o', Ix c k W → (∃ r, W.heap[l]? = some (.loop r)) → o'.isCells = false → Ix c k (W.putObj l o'))
    (hround : ∀ k f v W0 W, L[k]? = some f → I k W0 → Below W0.heap.size W0 W → DataAt W (fun b => W0.heap.size ≤ b) v f.f1 → (∃ r, W.heap[l]? = some (.loop r)) →
      assign.wpIn (Fence.wide.inRound l) (n - 1 - 1) Try.prog (Exit.then (fun a' W' => W'.heap[l]? = W.heap[l]? ∧ ∀ rr : Loop, body.wpIn (Fence.wide.inRound l) (n - 1 - 1) Try.prog (RoundEnd l I Ix k (W'.putObj l (.loop rr))) a' (W'.putObj l (.loop rr))) (fun _ _ _ => False))
        { tmps := (ps.zip #[.string f.f0, v]).foldl (fun t (p, v) => t.setIfInBounds p v) a.tmps, defers := [] } W)
    (hdone : ∀ W, I L.length W → Q .normal { a with defers := mk ++ a.defers } W)
    (hstop : ∀ c k W, Ix c k W → c.wpIn F n Try.prog Q { a with defers := mk ++ a.defers } W) :
    (Code.rangeFunc g ps assign body).wpIn F n Try.prog Q a w := by
  refine wpIn_rangeFunc fun fn _ => ?_
  obtain ⟨W1, D0, hent, hrec, hI0⟩ := he fn
  refine ⟨l, mk, W1, { target := .fn (.func 53) #[.pointer (some ⟨X.nb, 0, none⟩), .pointer (some ⟨X.mb, 0, none⟩)], args := #[.func (.yield l) #[] #[]] }, W1, 53,
    #[.func (.yield l) #[] #[], .pointer (some ⟨X.nb, 0, none⟩), .pointer (some ⟨X.mb, 0, none⟩)], W1, hent, ?_, fun f' _ => hFf f', ?_, fun _ => by omega, ?_⟩
  · simp only [resolve, hg]
    simp [go_sem]
  · have e53 := run_enter Try.func53 (P := Try.prog) (by kernel_rfl) (by kernel_rfl)
    simp [invoke, go_sem, e53]
  refine (hFc (each1.calls (n - 1) l X L (fun k W => I k W ∧ W.heap[l]? = some (.loop (rec0 fn a ps assign body D0 .ready none)))
    (fun k W => ∃ c, Ix c k W ∧ W.heap[l]? = some (.loop (rec0 fn a ps assign body D0 .done (some c)))) W1 (by omega)
    (fun k W h => hIt k W h.1) (fun k W W' h hb => ⟨hIb k W W' h.1 hb, (hb.block l (put_lt h.2)).trans h.2⟩) ?_ ⟨hI0, hrec⟩ hr hL hm)).mono ?_
  · intro k f v W0 W hf h0 hb hd
    have hl : W.heap[l]? = some (.loop (rec0 fn a ps assign body D0 .ready none)) := (hb.block l (put_lt h0.2)).trans h0.2
    have hy := run_yield (P := Try.prog) (args := #[.string f.f0, v]) hl (by simp [rec0, hps])
    refine ⟨fn, _, assign, body, hy, roundIn_of_wpIn trivial (wpIn_mono (hround k f v W0 W hf h0.1 hb hd ⟨_, hl⟩) ?_)⟩
    intro e a' W' hq
    cases e with
    | normal =>
      obtain ⟨hs, hbody⟩ := hq
      have hl' := hs.trans hl
      refine ⟨_, run_beginRound hl' rfl, wpIn_mono (hbody _) ?_⟩
      have hl2 : (W'.putObj l (.loop { rec0 fn a ps assign body D0 .ready none with state := .busy })).heap[l]? = some (.loop { rec0 fn a ps assign body D0 .ready none with state := .busy }) := World.putObj_heap_same (put_lt hl')
      have fin : ∀ (jump : Option Code) (W3 : World), W3.heap[l]? = (W'.putObj l (.loop { rec0 fn a ps assign body D0 .ready none with state := .busy })).heap[l]? →
          (Instr.endRound l jump).run Try.prog W3 = .ok (.bool jump.isNone) (W3.putObj l (.loop (rec0 fn a ps assign body D0 (if jump.isNone then .ready else .done) jump))) ∧
          (∃ r, W3.heap[l]? = some (.loop r)) ∧ (W3.putObj l (.loop (rec0 fn a ps assign body D0 (if jump.isNone then .ready else .done) jump))).heap[l]? = some (.loop (rec0 fn a ps assign body D0 (if jump.isNone then .ready else .done) jump)) := fun jump W3 h3 => by
        have hl3 := h3.trans hl2
        exact ⟨run_endRound jump hl3, ⟨_, hl3⟩, World.putObj_heap_same (put_lt hl3)⟩
      rintro e2 a2 W3 hp
      cases e2 with
      | normal =>
        obtain ⟨h1, h2, h3⟩ := fin none W3 hp.1
        exact ⟨_, _, h1, .inl ⟨rfl, hIp _ _ _ hp.2 h2 rfl, h3⟩⟩
      | ret =>
        obtain ⟨h1, h2, h3⟩ := fin (some .ret) W3 hp.1
        exact ⟨_, _, h1, .inr ⟨rfl, .ret, hIxp _ _ _ _ hp.2 h2 rfl, h3⟩⟩
      | exit id =>
        obtain ⟨h1, h2, h3⟩ := fin (some (.exit id)) W3 hp.1
        exact ⟨_, _, h1, .inr ⟨rfl, .exit id, hIxp _ _ _ _ hp.2 h2 rfl, h3⟩⟩
      | goto t =>
        obtain ⟨h1, h2, h3⟩ := fin (some (.goto t)) W3 hp.1
        exact ⟨_, _, h1, .inr ⟨rfl, .goto t, hIxp _ _ _ _ hp.2 h2 rfl, h3⟩⟩
      | panic ch => exact hp.elim
      | outgrown => exact hp.elim
    | ret => exact hq.elim
    | exit id => exact hq.elim
    | goto t => exact hq.elim
    | panic ch => exact hq.elim
    | outgrown => exact hq.elim
  · rintro e W2 ⟨⟨v, rfl⟩, hI | ⟨k, c, hc, hl⟩⟩
    · have hend := run_endLoop (P := Try.prog) hI.2 (by simp [rec0])
      exact ⟨none, _, hend, hdone _ (hIp _ _ _ hI.1 ⟨_, hI.2⟩ rfl)⟩
    · have hend := run_endLoop (P := Try.prog) hl (by simp [rec0])
      exact ⟨some c, _, hend, hstop _ k _ (hIxp _ _ _ _ hc ⟨_, hl⟩ rfl)⟩
/-- The loop stands in no round. -/
theorem rangeOuter {n : Nat} {g : Operand} {ps : Array Tmp} {assign body : Code} {Q : Exit → Act → World → Prop} {a : Act} {w : World} (X : It) (L : List S73) (hn : 2 ≤ n)
    (hg : a.eval g = .func (.func 53) #[] #[.pointer (some ⟨X.nb, 0, none⟩), .pointer (some ⟨X.mb, 0, none⟩)]) (hps : ps.size = 2)
    (hr : Rises L) (hL : L.length ≤ 64) (hm : ∀ f ∈ L, f.f0.size ≤ maxLen ∧ f.f1.length ≤ 16777216)
    (I : Nat → World → Prop) (Ix : Code → Nat → World → Prop)
    (h0 : ∀ r, I 0 ((w.alloc (.deferred (some []))).alloc (.loop r)))
    (hIt : ∀ k W, I k W → ∃ okI, ItAt W okI X L) (hIb : ∀ k W W', I k W → Below W.heap.size W W' → I k W')
    (hIp : ∀ k W o', I k W → (∃ r, W.heap[w.heap.size + 1]? = some (.loop r)) → o'.isCells = false → I k (W.putObj (w.heap.size + 1) o'))
    (hIxp : ∀ c k W o', Ix c k W → (∃ r, W.heap[w.heap.size + 1]? = some (.loop r)) → o'.isCells = false → Ix c k (W.putObj (w.heap.size + 1) o'))
    (hround : ∀ k f v W0 W, L[k]? = some f → I k W0 → Below W0.heap.size W0 W → DataAt W (fun b => W0.heap.size ≤ b) v f.f1 → (∃ r, W.heap[w.heap.size + 1]? = some (.loop r)) →
      assign.wpIn (Fence.wide.inRound (w.heap.size + 1)) (n - 1 - 1) Try.prog (Exit.then (fun a' W' => W'.heap[w.heap.size + 1]? = W.heap[w.heap.size + 1]? ∧ ∀ rr : Loop, body.wpIn (Fence.wide.inRound (w.heap.size + 1)) (n - 1 - 1) Try.prog (RoundEnd (w.heap.size + 1) I Ix k (W'.putObj (w.heap.size + 1) (.loop rr))) a' (W'.putObj (w.heap.size + 1) (.loop rr))) (fun _ _ _ => False))
        { tmps := (ps.zip #[.string f.f0, v]).foldl (fun t (p, v) => t.setIfInBounds p v) a.tmps, defers := [] } W)
    (hdone : ∀ W, I L.length W → Q .normal { a with defers := [{ target := .collected w.heap.size, args := #[] }] ++ a.defers } W)
    (hstop : ∀ c k W, Ix c k W → c.wpIn Fence.wide n Try.prog Q { a with defers := [{ target := .collected w.heap.size, args := #[] }] ++ a.defers } W) :
    (Code.rangeFunc g ps assign body).wpIn Fence.wide n Try.prog Q a w := by
  refine rangeEach (F := Fence.wide) (w.heap.size + 1) _ X L hn (fun _ => trivial) (fun h => h) hg hps hr hL hm I Ix (fun fn => ⟨_, w.heap.size, run_enterLoop_outer fn a.tmps ps assign body, ?_, h0 _⟩) hIt hIb hIp hIxp hround hdone hstop
  have := heap_alloc_new (w.alloc (.deferred (some []))) (.loop (rec0 fn a ps assign body w.heap.size .ready none))
  rw [World.size_alloc] at this
  exact this
/-- The loop stands in a round. -/
theorem rangeInner {n l₀ : Nat} {g : Operand} {ps : Array Tmp} {assign body : Code} {Q : Exit → Act → World → Prop} {a : Act} {w : World} (X : It) (L : List S73) (hn : 2 ≤ n) (hl₀ : ∃ r, w.heap[l₀]? = some (.loop r))
    (hg : a.eval g = .func (.func 53) #[] #[.pointer (some ⟨X.nb, 0, none⟩), .pointer (some ⟨X.mb, 0, none⟩)]) (hps : ps.size = 2)
    (hr : Rises L) (hL : L.length ≤ 64) (hm : ∀ f ∈ L, f.f0.size ≤ maxLen ∧ f.f1.length ≤ 16777216)
    (I : Nat → World → Prop) (Ix : Code → Nat → World → Prop)
    (h0 : ∀ r, I 0 (w.alloc (.loop r)))
    (hIt : ∀ k W, I k W → ∃ okI, ItAt W okI X L) (hIb : ∀ k W W', I k W → Below W.heap.size W W' → I k W')
    (hIp : ∀ k W o', I k W → (∃ r, W.heap[w.heap.size]? = some (.loop r)) → o'.isCells = false → I k (W.putObj (w.heap.size) o'))
    (hIxp : ∀ c k W o', Ix c k W → (∃ r, W.heap[w.heap.size]? = some (.loop r)) → o'.isCells = false → Ix c k (W.putObj (w.heap.size) o'))
    (hround : ∀ k f v W0 W, L[k]? = some f → I k W0 → Below W0.heap.size W0 W → DataAt W (fun b => W0.heap.size ≤ b) v f.f1 → (∃ r, W.heap[w.heap.size]? = some (.loop r)) →
      assign.wpIn (Fence.wide.inRound (w.heap.size)) (n - 1 - 1) Try.prog (Exit.then (fun a' W' => W'.heap[w.heap.size]? = W.heap[w.heap.size]? ∧ ∀ rr : Loop, body.wpIn (Fence.wide.inRound (w.heap.size)) (n - 1 - 1) Try.prog (RoundEnd (w.heap.size) I Ix k (W'.putObj (w.heap.size) (.loop rr))) a' (W'.putObj (w.heap.size) (.loop rr))) (fun _ _ _ => False))
        { tmps := (ps.zip #[.string f.f0, v]).foldl (fun t (p, v) => t.setIfInBounds p v) a.tmps, defers := [] } W)
    (hdone : ∀ W, I L.length W → Q .normal { a with defers := [] ++ a.defers } W)
    (hstop : ∀ c k W, Ix c k W → c.wpIn (Fence.wide.inRound l₀) n Try.prog Q { a with defers := [] ++ a.defers } W) :
    (Code.rangeFunc g ps assign body).wpIn (Fence.wide.inRound l₀) n Try.prog Q a w := by
  obtain ⟨r₀, hl₀⟩ := hl₀
  refine rangeEach (F := Fence.wide.inRound l₀) w.heap.size [] X L hn (fun _ => trivial) (fun h => h) hg hps hr hL hm I Ix (fun fn => ⟨_, r₀.defers, run_enterLoop_inner hl₀ fn a.tmps ps assign body, heap_alloc_new w _, h0 _⟩) hIt hIb hIp hIxp hround hdone hstop
end Go.Proofs.Ytplknppmaepinaa.S
/- ShelfMakes: the walk. -/
namespace Go.Proofs.Ytplknppmaepinaa.S
open Go Go.RowKit Go.X Go.Maps Go.Proofs.YtplknppmaepinaaW.PrintWords Go.Proofs.Ytplknppmaepinaa.F
set_option maxRecDepth 100000

end Go.Proofs.Ytplknppmaepinaa.S
/- A shelf, an iterator over what it held, what was told, some variables: apart in memory; what the shelf's steps leave of it. -/
namespace Go.Proofs.Ytplknppmaepinaa.S
open Go Go.RowKit Go.X Go.Maps Go.Sort Go.Proofs.YtplknppmaepinaaW.PrintWords Go.Proofs.Ytplknppmaepinaa.F

structure LF (w wr : World) (R0 sb : Nat) (okF okS : Nat → Prop) (s : Sh) (fr : List (Nat × Obj)) (vW : Value) (X : It) (L : List S73) : Prop where
  bel : Below w.heap.size w wr
  sh : ShelfAt wr okS sb s
  good : Good s
  okB : ∀ k, okS k → w.heap.size ≤ k ∧ k < wr.heap.size
  fr : ∀ x ∈ fr, wr.heap[x.1]? = some x.2 ∧ w.heap.size ≤ x.1 ∧ ¬ okS x.1
  files : FilesAt wr okF vW L
  it : ItAt wr okF X L
  okF : ∀ k, okF k → ¬ okS k ∧ k < R0
  r0 : R0 ≤ wr.heap.size
section
variable {w wr w' : World} {R0 sb : Nat} {okF okS : Nat → Prop} {s s' : Sh} {fr : List (Nat × Obj)} {vW : Value} {X : It} {L : List S73}
theorem heap_lt {w : World} {b : Nat} {o : Obj} (h : w.heap[b]? = some o) : b < w.heap.size := (Array.getElem?_eq_some_iff.1 h).1
theorem LF.keep (h : LF w wr R0 sb okF okS s fr vW X L) (hb : Below wr.heap.size wr w') : LF w w' R0 sb okF okS s fr vW X L :=
  ⟨h.bel.trans (hb.mono h.bel.size), h.sh.keep (Keeps.below hb), h.good, fun k hk => ⟨(h.okB k hk).1, Nat.lt_of_lt_of_le (h.okB k hk).2 hb.size⟩, fun x hx => ⟨(hb.block _ (heap_lt (h.fr x hx).1)).trans (h.fr x hx).1, (h.fr x hx).2⟩, h.files.keep (Keeps.below hb), h.it.keep (Keeps.below hb) (DKept.below hb), h.okF, Nat.le_trans h.r0 hb.size⟩
/-- A step of the shelf's. -/
theorem LF.step (h : LF w wr R0 sb okF okS s fr vW X L) (hb : But okS wr w') (hs : ShelfAt w' (fun k => okS k ∨ wr.heap.size ≤ k) sb s') (hg : Good s') (hd : DKept wr w') :
    LF w w' R0 sb okF (fun k => (okS k ∨ wr.heap.size ≤ k) ∧ k < w'.heap.size) s' fr vW X L := by
  refine ⟨h.bel.trans (hb.below (fun k hk => (h.okB k hk).1) h.bel.size), hs.bound, hg, fun k hk => ⟨hk.1.elim (fun h1 => (h.okB k h1).1) fun h1 => Nat.le_trans h.bel.size h1, hk.2⟩, fun x hx => ?_, h.files.keep (Keeps.but hb fun k hk => (h.okF k hk).1), h.it.keep (Keeps.but hb fun k hk => (h.okF k hk).1) hd, fun k hk => ⟨fun h1 => ?_, (h.okF k hk).2⟩, Nat.le_trans h.r0 hb.size⟩
  · obtain ⟨h1, h2, h3⟩ := h.fr x hx
    have hlt := heap_lt h1
    exact ⟨(hb.block _ hlt h3).trans h1, h2, fun h4 => h4.1.elim h3 fun h5 => Nat.not_lt.2 h5 hlt⟩
  · obtain ⟨h2, h3⟩ := h.okF k hk
    exact h1.1.elim h2 fun h4 => by have := h.r0; omega
/-- A variable more. -/
theorem LF.add {b : Nat} {o : Obj} (h : LF w wr R0 sb okF okS s fr vW X L) (hb : wr.heap[b]? = some o) (h1 : w.heap.size ≤ b) (h2 : ¬ okS b) : LF w wr R0 sb okF okS s ((b, o) :: fr) vW X L :=
  { h with fr := fun x hx => (List.mem_cons.1 hx).elim (fun e => by rw [e]; exact ⟨hb, h1, h2⟩) (h.fr x) }
theorem LF.less {fr' : List (Nat × Obj)} (h : LF w wr R0 sb okF okS s fr vW X L) (hs : ∀ x ∈ fr', x ∈ fr) : LF w wr R0 sb okF okS s fr' vW X L :=
  { h with fr := fun x hx => h.fr x (hs x hx) }
/-- A new block. -/
theorem LF.alloc (h : LF w wr R0 sb okF okS s fr vW X L) (o : Obj) : LF w (wr.alloc o) R0 sb okF okS s ((wr.heap.size, o) :: fr) vW X L :=
  (h.keep ((Below.refl _ _).alloc (Nat.le_refl _) _)).add (heap_alloc_new wr o) h.bel.size fun hk => Nat.lt_irrefl _ (h.okB _ hk).2
/-- A block apart from all is written. -/
theorem LF.other {b : Nat} (h : LF w wr R0 sb okF okS s fr vW X L) (hg : wr.grownBy w' (some b)) (hne : ∀ x ∈ fr, x.1 ≠ b) (hR : R0 ≤ b) (h5 : No5 wr (some b)) (h2 : w.heap.size ≤ b) (h3 : ¬ okS b) : LF w w' R0 sb okF okS s fr vW X L := by
  have hB : But (fun k => k = b) wr w' := But.of_grown hg fun k e => by cases e; rfl
  have hn : ∀ k, okF k → k ≠ b := fun k hk e => by have := (h.okF k hk).2; omega
  have hd : DKept wr w' := fun okd v bs hv => hv.but hB fun k hk => by cases hk; exact h5
  refine ⟨h.bel.grown hg h.bel.size fun k e => by cases e; exact h2, h.sh.keep (Keeps.but hB fun k hk e => h3 (by rw [← show k = b from e]; exact hk)), h.good, fun k hk => ⟨(h.okB k hk).1, Nat.lt_of_lt_of_le (h.okB k hk).2 hg.size⟩, fun x hx => ?_, h.files.keep (Keeps.but hB hn), h.it.keep (Keeps.but hB hn) hd, h.okF, Nat.le_trans h.r0 hg.size⟩
  have hk := h.fr x hx
  exact ⟨(hg.block _ (heap_lt hk.1) (fun e => hne x hx (by injection e))).trans hk.1, hk.2⟩
/-- One of the blocks is written. -/
theorem LF.put {b : Nat} {o o' : Obj} (h : LF w wr R0 sb okF okS s ((b, o) :: fr) vW X L) (hg : wr.grownBy w' (some b)) (hb : w'.heap[b]? = some o') (hne : ∀ x ∈ fr, x.1 ≠ b) (hR : R0 ≤ b) (h5 : No5 wr (some b)) : LF w w' R0 sb okF okS s ((b, o') :: fr) vW X L := by
  obtain ⟨_, h2, h3⟩ := h.fr (b, o) (List.mem_cons_self ..)
  exact ((h.less fun x hx => List.mem_cons_of_mem _ hx).other hg hne hR h5 h2 h3).add hb h2 h3
theorem No5.loop {w : World} {l : Nat} {r : Loop} (h : w.heap[l]? = some (.loop r)) : No5 w (some l) := fun g hg cells hc => by
  cases hg
  rw [h] at hc
  cases hc
/-- The loop's record turns. -/
theorem LF.turnRec {l : Nat} {o' : Obj} (h : LF w wr R0 sb okF okS s fr vW X L) (hr : ∃ r, wr.heap[l]? = some (.loop r)) (hne : ∀ x ∈ fr, x.1 ≠ l) (hR : R0 ≤ l) (h3 : ¬ okS l) (h2 : w.heap.size ≤ l) : LF w (wr.putObj l o') R0 sb okF okS s fr vW X L := by
  obtain ⟨r, hr⟩ := hr
  exact h.other (grownBy_putObj' wr l o') hne hR (No5.loop hr) h2 h3
/-- A number is written into the first of the variables. -/
theorem LF.setInt {b : Nat} {n : Int} (h : LF w wr R0 sb okF okS s ((b, .cells #[.int .i64 n] 3) :: fr) vW X L) (m : Int) (hne : ∀ x ∈ fr, x.1 ≠ b) (hR : R0 ≤ b) : LF w (wr.setCell ⟨b, 0, none⟩ (.int .i64 m)) R0 sb okF okS s ((b, .cells #[.int .i64 m] 3) :: fr) vW X L := by
  have hb : Blk wr b 3 [.int .i64 n] := (h.fr (b, _) (List.mem_cons_self ..)).1
  exact h.put (grown_setCell wr _ _) (hb.setCell 0 (.int .i64 m)) hne hR (No5.blk hb (by decide))
theorem Good.lens {s : Sh} (h : Good s) : ∀ f ∈ s.L, f.f0.size ≤ maxLen ∧ f.f1.length ≤ 16777216 := fun f hf => by
  have := len_sz hf
  have := h.fits
  have := h.room1
  have hk := h.names f hf
  simp only [nmOK, Bool.and_eq_true, decide_eq_true_eq] at hk
  exact ⟨by simp only [maxLen]; omega, by omega⟩
end
end Go.Proofs.Ytplknppmaepinaa.S
/- The drawn region of ShelfLater that makes the shelf, by its invariants (printed by wip/gen/gensh.py). -/
namespace Go.Proofs.Ytplknppmaepinaa.S
open Go Go.RowKit Go.X Go.Maps Go.Proofs.YtplknppmaepinaaW.PrintWords Go.Proofs.Ytplknppmaepinaa.F
set_option maxRecDepth 100000
/-- What New has left, apart from some blocks. -/
structure NewA (w0 w : World) (fs : List S73) (room : Int) (ex : Nat → Prop) (sp : Option Addr) : Prop where
  none : sp = none ↔ newE fs room [] ≠ 0
  some : newE fs room [] = 0 → ∃ sb, sp = some ⟨sb, 0, .none⟩ ∧ ShelfAt w (fun k => w0.heap.size ≤ k ∧ ex k) sb (newS fs room [])
theorem NewA.keep {w0 w w' : World} {fs : List S73} {room : Int} {ex : Nat → Prop} {sp : Option Addr} (h : NewA w0 w fs room ex sp) (g : Below w.heap.size w w') : NewA w0 w' fs room ex sp :=
  ⟨h.1, fun e => (h.2 e).imp fun _ k => ⟨k.1, k.2.keep (Keeps.below g)⟩⟩
theorem LentAt.apart27 {w w' : World} {base g q : Nat} {gs : List Nat} {fs : List S73} {vs : List Value} (h : LentAt w base g gs fs) (hg : w.grownBy w' (some q)) (hq : Blk w q 27 vs) : LentAt w' base g gs fs := by
  obtain ⟨cs, h1, h2, h3, h4⟩ := h
  have hq' : w.heap[q]? = _ := hq
  refine ⟨cs, h1.keep fun b hb hlt => hg.block b hlt (fun e => ?_), h2.grown hg (fun e => ?_), h3, h4⟩
  · cases e
    obtain ⟨_, _, c2, k⟩ := h1.lt _ hb
    rw [hq'] at k
    simp at k
  · cases e
    have k : w.heap[g]? = _ := h2
    rw [hq'] at k
    simp at k
structure R7n (wb0 : World) (xb : Nat) (Af Ap : Option Addr) (cf np cp : Nat) (fs : List S73) (room : Int) (b : Bits) (f : Slots) (w : World) : Prop where
  but : But (fun _ => False) wb0 w
  g3 : f 3 = .pointer (some ⟨xb, 0, none⟩)
  p0 : b 0 = true → f 30 = .pointer (some ⟨xb, 0, none⟩)
  p1 : b 1 = true → f 31 = .slice Af fs.length cf
  p3 : b 3 = true → f 33 = .pointer (some ⟨xb, 1, none⟩)
  p4 : b 4 = true → f 34 = .int .i64 room
  p8 : b 8 = true → f 37 = .int .i64 (newE fs room [])
  p11 : b 11 = true → f 8 = .int .i64 (newE fs room [])
  x2 : b 2 = true → ∃ N g gs, f 32 = .slice (some ⟨g, 0, none⟩) fs.length (fs.length + 1) ∧ LentAt w N g gs fs
  x9 : b 9 = true → ∃ vb, f 7 = .pointer (some ⟨vb, 0, none⟩) ∧ wb0.heap.size ≤ vb ∧ (b 10 = false → Blk w vb 27 [.pointer none])
  y5 : b 5 = true → ∃ sp, f 35 = .tuple #[.pointer sp, .int .i64 (newE fs room [])] ∧ (b 6 = true → f 29 = .tuple #[.pointer sp, .int .i64 (newE fs room [])]) ∧ (b 7 = true → f 36 = .pointer sp) ∧ NewA wb0 w fs room (fun k => ∀ vb, b 9 = true → f 7 = .pointer (some ⟨vb, 0, none⟩) → k ≠ vb) sp
  y10 : b 10 = true → ∃ vb sp, f 7 = .pointer (some ⟨vb, 0, none⟩) ∧ wb0.heap.size ≤ vb ∧ Blk w vb 27 [.pointer sp] ∧ NewA wb0 w fs room (fun k => k ≠ vb) sp
theorem R7n.below {wb0 : World} {xb : Nat} {Af Ap : Option Addr} {cf np cp : Nat} {fs : List S73} {room : Int} {b : Bits} {f : Slots} {w w' : World} (h : R7n wb0 xb Af Ap cf np cp fs room b f w) (g : Below w.heap.size w w') : R7n wb0 xb Af Ap cf np cp fs room b f w' :=
  { h with
    but := h.but.grown (Go.X.grown_of_below g none) (fun _ e => nomatch e)
    x2 := fun hb => (h.x2 hb).imp fun _ ⟨g1, gs, e, k⟩ => ⟨g1, gs, e, k.keep g⟩
    x9 := fun hb => (h.x9 hb).imp fun _ ⟨e, k1, k2⟩ => ⟨e, k1, fun h10 => (k2 h10).below g (k2 h10).lt⟩
    y5 := fun hb => (h.y5 hb).imp fun _ ⟨e1, e2, e3, k⟩ => ⟨e1, e2, e3, k.keep g⟩
    y10 := fun hb => (h.y10 hb).imp fun _ ⟨sp, e, k1, k2, k3⟩ => ⟨sp, e, k1, k2.below g k2.lt, k3.keep g⟩ }
set_option maxRecDepth 100000 in
theorem R7n.wp (wb0 : World) (xb : Nat) (Af Ap : Option Addr) (cf np cp : Nat) (fs : List S73) (room : Int) (h_xb : Blk wb0 xb 25 [.slice Af fs.length cf, .int .i64 room, .slice Ap np cp]) (hf : Kd.C k73 wb0 Af fs.length fs) (hn : fs.length ≤ 67108864) (hm : ∀ f ∈ fs, f.f1.length ≤ 140737488355328) (hnm : ∀ f ∈ fs, f.f0.size ≤ maxLen) (act : Act) (Q : Exit → Act → World → Prop) (hz : act.tmps.size = 141)
    (s3 : Slots.of act 3 = .pointer (some ⟨xb, 0, none⟩))
    (hQ : ∀ (f : Slots) (w' : World) (vb : Nat) (sp : Option Addr), f 8 = .int .i64 (newE fs room []) → But (fun _ => False) wb0 w' → f 7 = .pointer (some ⟨vb, 0, none⟩) → wb0.heap.size ≤ vb → Blk w' vb 27 [.pointer sp] → NewA wb0 w' fs room (fun k => k ≠ vb) sp → Q .normal (Act.puts act f [30, 31, 32, 33, 34, 35, 29, 36, 37, 7, 8]) w') :
    (Code.region 5 #[{ dst := some 30, op := Go.Op.fieldAddr 25 (Go.Operand.tmp 3) 0, type := 0, pos := "theorems.go:134", after := #[], guard := none }, { dst := some 31, op := Go.Op.load 22 (Go.Operand.tmp 30), type := 22, pos := "theorems.go:134", after := #[{ on := 0, ground := Go.Ground.data }], guard := none }, { dst := some 32, op := Go.Op.call { callee := Go.Callee.value (Go.Operand.func 22), args := #[Go.Operand.tmp 31], argTypes := #[22] }, type := 22, pos := "theorems.go:134", after := #[{ on := 1, ground := Go.Ground.data }], guard := none }, { dst := some 33, op := Go.Op.fieldAddr 25 (Go.Operand.tmp 3) 1, type := 0, pos := "theorems.go:134", after := #[], guard := none }, { dst := some 34, op := Go.Op.load 3 (Go.Operand.tmp 33), type := 3, pos := "theorems.go:134", after := #[{ on := 3, ground := Go.Ground.data }], guard := none }, { dst := some 35, op := Go.Op.call { callee := Go.Callee.value (Go.Operand.func 17), args := #[Go.Operand.tmp 32, Go.Operand.tmp 34, Go.Operand.const (Go.Value.slice none 0 0)], argTypes := #[22, 3, 23] }, type := 43, pos := "theorems.go:134", after := #[{ on := 2, ground := Go.Ground.data }, { on := 4, ground := Go.Ground.data }, { on := 2, ground := Go.Ground.chain }], guard := none }, { dst := some 29, op := Go.Op.move (Go.Operand.tmp 35), type := 43, pos := "theorems.go:134", after := #[{ on := 5, ground := Go.Ground.data }], guard := none }, { dst := some 36, op := Go.Op.extract (Go.Operand.tmp 29) 0, type := 27, pos := "theorems.go:134", after := #[{ on := 6, ground := Go.Ground.data }], guard := none }, { dst := some 37, op := Go.Op.extract (Go.Operand.tmp 29) 1, type := 42, pos := "theorems.go:134", after := #[{ on := 6, ground := Go.Ground.data }, { on := 10, ground := Go.Ground.gcOnly Go.Departure.lateStores }], guard := none }, { dst := some 7, op := Go.Op.alloc 27, type := 0, pos := "theorems.go:134", after := #[], guard := none }, { dst := none, op := Go.Op.store 27 (Go.Operand.tmp 7) (Go.Operand.tmp 36), type := 0, pos := "theorems.go:134", after := #[{ on := 9, ground := Go.Ground.data }, { on := 7, ground := Go.Ground.data }, { on := 5, ground := Go.Ground.chain }, { on := 0, ground := Go.Ground.phase }, { on := 1, ground := Go.Ground.phase }, { on := 2, ground := Go.Ground.phase }, { on := 3, ground := Go.Ground.phase }, { on := 4, ground := Go.Ground.phase }, { on := 5, ground := Go.Ground.phase }, { on := 6, ground := Go.Ground.phase }, { on := 7, ground := Go.Ground.phase }, { on := 8, ground := Go.Ground.textOnly Go.Departure.lateStores }, { on := 9, ground := Go.Ground.phase }], guard := none }, { dst := some 8, op := Go.Op.assign (Go.Operand.tmp 37), type := 42, pos := "theorems.go:134", after := #[{ on := 8, ground := Go.Ground.data }, { on := 10, ground := Go.Ground.chain }, { on := 0, ground := Go.Ground.phase }, { on := 1, ground := Go.Ground.phase }, { on := 2, ground := Go.Ground.phase }, { on := 3, ground := Go.Ground.phase }, { on := 4, ground := Go.Ground.phase }, { on := 5, ground := Go.Ground.phase }, { on := 6, ground := Go.Ground.phase }, { on := 7, ground := Go.Ground.phase }, { on := 8, ground := Go.Ground.phase }, { on := 9, ground := Go.Ground.phase }, { on := 10, ground := Go.Ground.phase }], guard := none }] true).wp Try.prog Q act wb0 := by
  have m_xb : ¬ (False) := by exact id
  refine wp_region_slots (fun b f w => R7n wb0 xb Af Ap cf np cp fs room b f w) 12 [0, 1, 2, 3, 4, 5, 6, 7, 8, 9, 10, 11] [30, 31, 32, 33, 34, 35, 29, 36, 37, 7, 8] 141 (by kernel_rfl) rfl rfl rfl (by kernel_rfl) (by kernel_rfl) hz (by kernel_rfl) ?_ ?_ ?_
  · exact { but := But.drewN_refl wb0, g3 := s3, p0 := nofun, p1 := nofun, p3 := nofun, p4 := nofun, p8 := nofun, p11 := nofun, x2 := nofun, x9 := nofun, y5 := nofun, y10 := nofun }
  · refine SSteps.cons (i := 0) (ds := []) (js := [1, 2, 5, 6, 7, 8, 10, 11]) rfl (by kernel_rfl) (by kernel_rfl) (fun b f w hb0 hd hj h => ?_) ?_
    · have e0 := h.g3
      exact Does.fieldAddr (v := .pointer (some ⟨xb, 0, none⟩)) (by rw [show f.eval (.tmp 3) = _ from e0]; go_simp) { h with p0 := fun _ => rfl }
    refine SSteps.cons (i := 1) (ds := [0]) (js := [2, 5, 6, 7, 8, 10, 11]) rfl (by kernel_rfl) (by kernel_rfl) (fun b f w hb0 hd hj h => ?_) ?_
    · have d0 : b 0 = true := hd 0 (by decide)
      have e0 := (h.p0 d0)
      have hc : w.cell? ⟨xb, 0, none⟩ = some (.slice Af fs.length cf) := (h_xb.but h.but m_xb).cell 0
      exact Does.load (v := .slice Af fs.length cf) (by rw [show f.eval (.tmp 30) = _ from e0]; go_simp) { h with p1 := fun _ => rfl }
    refine SSteps.cons (i := 2) (ds := [1, 0]) (js := [5, 6, 7, 8, 10, 11]) rfl (by kernel_rfl) (by kernel_rfl) (fun b f w hb0 hd hj h => ?_) ?_
    · have d1 : b 1 = true := hd 1 (by decide)
      have e1 := (h.p1 d1)
      refine Does.call (args := #[.slice Af fs.length cf]) (by simp [Slots.eval, e1]) rfl (by kernel_rfl) ?_
      refine (lent.calls Af cf fs w (Kd.C_below hf (h.but.below (fun _ h => h.elim) (Nat.le_refl _))) hn hm).mono ?_
      rintro e w' ⟨g, gs, rfl, hl, hbl⟩
      exact ⟨_, rfl, { (h.below hbl) with x2 := fun _ => ⟨_, g, gs, rfl, hl⟩ }⟩
    refine SSteps.cons (i := 3) (ds := []) (js := [4, 5, 6, 7, 8, 10, 11]) rfl (by kernel_rfl) (by kernel_rfl) (fun b f w hb0 hd hj h => ?_) ?_
    · have e0 := h.g3
      exact Does.fieldAddr (v := .pointer (some ⟨xb, 1, none⟩)) (by rw [show f.eval (.tmp 3) = _ from e0]; go_simp) { h with p3 := fun _ => rfl }
    refine SSteps.cons (i := 4) (ds := [3]) (js := [5, 6, 7, 8, 10, 11]) rfl (by kernel_rfl) (by kernel_rfl) (fun b f w hb0 hd hj h => ?_) ?_
    · have d3 : b 3 = true := hd 3 (by decide)
      have e0 := (h.p3 d3)
      have hc : w.cell? ⟨xb, 1, none⟩ = some (.int .i64 room) := (h_xb.but h.but m_xb).cell 1
      exact Does.load (v := .int .i64 room) (by rw [show f.eval (.tmp 33) = _ from e0]; go_simp) { h with p4 := fun _ => rfl }
    refine SSteps.cons (i := 5) (ds := [2, 4, 1, 0, 3]) (js := [6, 7, 8, 10, 11]) rfl (by kernel_rfl) (by kernel_rfl) (fun b f w hb0 hd hj h => ?_) ?_
    · have d4 : b 4 = true := hd 4 (by decide)
      have d2 : b 2 = true := hd 2 (by decide)
      obtain ⟨N, g, gs, e2, hl⟩ := h.x2 d2
      have e4 := (h.p4 d4)
      have hap : ∀ j, w.heap.size ≤ j → ∀ vb, b 9 = true → f 7 = .pointer (some ⟨vb, 0, none⟩) → j ≠ vb := by
        intro j hk vb h9 e7
        obtain ⟨vb', e7', _, k7⟩ := h.x9 h9
        rw [e7'] at e7
        cases e7
        have := (k7 (hj 10 (by decide))).lt
        omega
      refine Does.call (args := #[.slice (some ⟨g, 0, none⟩) fs.length (fs.length + 1), .int .i64 room, .slice none 0 0]) (by simp [Slots.eval, e2, e4]) rfl (by kernel_rfl) ?_
      refine (new.calls _ none _ 0 fs [] room w (hl.C hn hm) ⟨rfl, by simp, fun h => absurd h (Nat.lt_irrefl _)⟩ hn hm hnm (by simp) (by simp)).mono ?_
      intro e w' hp'
      obtain ⟨hbl, sp, rfl, hsp, hsh⟩ := hp'.told
      exact ⟨_, rfl, { (h.below hbl) with y5 := fun _ => ⟨sp, rfl, fun hf => no (hj 6 (by decide)) hf, fun hf => no (hj 7 (by decide)) hf, hsp, fun e => (hsh e).imp fun sb k => ⟨k.1, k.2.mono fun j hk => ⟨Nat.le_trans (h.but.below (fun _ h => h.elim) (Nat.le_refl _)).size hk, hap j hk⟩⟩⟩, y10 := fun hf => no (hj 10 (by decide)) hf }⟩
    refine SSteps.cons (i := 6) (ds := [5, 2, 4, 1, 0, 3]) (js := [7, 8, 10, 11]) rfl (by kernel_rfl) (by kernel_rfl) (fun b f w hb0 hd hj h => ?_) ?_
    · have d5 : b 5 = true := hd 5 (by decide)
      obtain ⟨sp, e5, _, e7, hv⟩ := h.y5 d5
      exact Does.move { h with y5 := fun _ => ⟨sp, e5, fun _ => e5, e7, hv⟩ }
    refine SSteps.cons (i := 7) (ds := [6, 5, 2, 4, 1, 0, 3]) (js := [10, 11]) rfl (by kernel_rfl) (by kernel_rfl) (fun b f w hb0 hd hj h => ?_) ?_
    · have d6 : b 6 = true := hd 6 (by decide)
      have d5 : b 5 = true := hd 5 (by decide)
      obtain ⟨sp, e5, e6, _, hv⟩ := h.y5 d5
      exact Does.extract (e6 d6) rfl { h with y5 := fun _ => ⟨sp, e5, e6, fun _ => rfl, hv⟩ }
    refine SSteps.cons (i := 8) (ds := [6, 5, 2, 4, 1, 0, 3]) (js := [11]) rfl (by kernel_rfl) (by kernel_rfl) (fun b f w hb0 hd hj h => ?_) ?_
    · have d6 : b 6 = true := hd 6 (by decide)
      have d5 : b 5 = true := hd 5 (by decide)
      obtain ⟨sp, e5, e6, _, hv⟩ := h.y5 d5
      exact Does.extract (e6 d6) rfl { h with p8 := fun _ => rfl }
    refine SSteps.cons (i := 9) (ds := []) (js := [10, 11]) rfl (by kernel_rfl) (by kernel_rfl) (fun b f w hb0 hd hj h => ?_) ?_
    · refine Does.alloc (z := .pointer none) (by kernel_rfl) ?_
      intro w' hb' hbl
      have hap : ∀ j, j < w.heap.size → ∀ vb, (Value.pointer (some ⟨w.heap.size, 0, none⟩)) = .pointer (some ⟨vb, 0, none⟩) → j ≠ vb := by
        intro j hk vb e7
        cases e7
        exact Nat.ne_of_lt hk
      exact { (h.below hbl) with x9 := fun _ => ⟨w.heap.size, rfl, (h.but.below (fun _ h => h.elim) (Nat.le_refl _)).size, fun _ => hb'⟩, y5 := fun h5 => (h.y5 h5).imp fun sp ⟨e5, e6, e7, hv⟩ => ⟨e5, e6, e7, hv.1, fun e => (hv.2 e).imp fun sb k => ⟨k.1, (k.2.bound.keep (Keeps.below hbl)).mono fun j hk => ⟨hk.1.1, fun vb _ e7 => hap j hk.2 vb e7⟩⟩⟩, y10 := fun hf => no (hj 10 (by decide)) hf }
    refine SSteps.cons (i := 10) (ds := [9, 7, 5, 0, 1, 2, 3, 4, 6]) (js := [11]) rfl (by kernel_rfl) (by kernel_rfl) (fun b f w hb0 hd hj h => ?_) ?_
    · have d9 : b 9 = true := hd 9 (by decide)
      have d7 : b 7 = true := hd 7 (by decide)
      have d5 : b 5 = true := hd 5 (by decide)
      obtain ⟨vb, e7, hvb, hbk⟩ := h.x9 d9
      obtain ⟨sp, e5, e6, e36, hv⟩ := h.y5 d5
      refine Does.store e7 (e36 d7) (hbk hb0) (by kernel_rfl) (Nat.le_refl _) (by simp [Value.cells, Value.oneCell']) ?_
      intro w' hb' g
      have hbl : Below wb0.heap.size wb0 w' := (h.but.below (fun _ h => h.elim) (Nat.le_refl _)).grown g (h.but.below (fun _ h => h.elim) (Nat.le_refl _)).size (by intro k e; cases e; exact hvb)
      have hap : ∀ j, j ≠ vb → ∀ vb', f 7 = .pointer (some ⟨vb', 0, none⟩) → j ≠ vb' := by
        intro j hk vb' e'
        rw [e7] at e'
        cases e'
        exact hk
      have hv' : NewA wb0 w' fs room (fun k => k ≠ vb) sp := ⟨hv.1, fun e => (hv.2 e).imp fun sb k => ⟨k.1, (k.2.mono (ok' := fun k => wb0.heap.size ≤ k ∧ k ≠ vb) fun j hk => ⟨hk.1, hk.2 vb d9 e7⟩).keep (Keeps.grown g fun j hk e => hk.2 (by cases e; rfl))⟩⟩
      exact { h with but := But.of_below hbl, x2 := fun hf => (h.x2 hf).imp fun N ⟨g1, gs, e, k⟩ => ⟨g1, gs, e, k.apart27 g (hbk hb0)⟩, x9 := fun _ => ⟨vb, e7, hvb, fun hf => tf hf⟩, y5 := fun _ => ⟨sp, e5, e6, e36, hv'.1, fun e => (hv'.2 e).imp fun sb k => ⟨k.1, k.2.mono fun j hk => ⟨hk.1, fun vb' _ e' => hap j hk.2 vb' e'⟩⟩⟩, y10 := fun _ => ⟨vb, sp, e7, hvb, by simpa [splice, Value.cells] using hb', hv'⟩ }
    refine SSteps.cons (i := 11) (ds := [8, 10, 0, 1, 2, 3, 4, 5, 6, 7, 9]) (js := []) rfl (by kernel_rfl) (by kernel_rfl) (fun b f w hb0 hd hj h => ?_) ?_
    · have d8 : b 8 = true := hd 8 (by decide)
      have e0 := (h.p8 d8)
      exact Does.assign { h with p11 := fun _ => e0 }
    exact SSteps.nil
  · intro b f w' hall h _
    obtain ⟨vb, sp, k1, k2, k3, k4⟩ := h.y10 (hall 10 (by decide))
    exact hQ f w' vb sp (h.p11 (hall 11 (by decide))) h.but  k1 k2 k3 k4
end Go.Proofs.Ytplknppmaepinaa.S
/- The law's works: a file is written, read, told and removed. -/
namespace Go.Proofs.Ytplknppmaepinaa.S
open Go Go.RowKit Go.X Go.Maps Go.Proofs.YtplknppmaepinaaW.PrintWords Go.Proofs.Ytplknppmaepinaa.F
set_option maxRecDepth 100000
def nA : ByteArray := ⟨#[97]⟩
def nB : ByteArray := ⟨#[98]⟩
def wFs : List S73 := [⟨nA, [120, 121, 122]⟩]
def wPs : List S76 := [⟨1, 2, 12⟩]
def wS0 : Sh := newS wFs 9 wPs
def wS1 : Sh := wS0.note 1 nA 0
def wS2 : Sh := wS1.note 1 nA 12
def wS3 : Sh := wS2.wr nB [49, 50]
def wS4 : Sh := wS3.rem nA
theorem w_new : newE wFs 9 wPs = 0 := by kernel_rfl
theorem w_read1 : askE wS0 1 nA (lkE wS0 nA) = 0 := by kernel_rfl
theorem w_look1 : lookL nA wS0.L = [120, 121, 122] := by kernel_rfl
theorem w_read2 : askE wS1 1 nA (lkE wS1 nA) = 12 := by kernel_rfl
theorem w_write : askE wS2 2 nB (lkW wS2 nB [49, 50]) = 0 := by kernel_rfl
theorem w_rem : askE wS3 3 nA (lkE wS3 nA) = 0 := by kernel_rfl
theorem w_len : wS3.L = [⟨nA, [120, 121, 122]⟩, ⟨nB, [49, 50]⟩] := by kernel_rfl
theorem w_left : wS3.room - (szL wS3.L : Int) = 4 := by kernel_rfl
theorem w_calls : wS4.all.length = 4 := by kernel_rfl

/-- Bytes of a constant: their row bears the run-time's mark; its cells read as ever. -/
theorem C_mark {w : World} {b : Nat} {bs : List Int} {fr : Nat × Nat} (h : w.heap[b]? = some (.cells (nums .u8 bs).toArray 5 fr)) (hm : bs.length ≤ 9223372036854775807) : Kd.C (Kd.int .u8) w (some ⟨b, 0, none⟩) bs.length bs := by
  refine ⟨rfl, hm, fun _ => ⟨_, rfl, fun j p hj => ⟨[.int .u8 p], rfl, rfl, fun i u hu => ?_⟩⟩⟩
  cases i with
  | succ i => simp at hu
  | zero =>
    simp at hu
    subst hu
    have e : w.cell? ⟨b, j, none⟩ = (nums .u8 bs)[j]? := by simp [World.cell?, h]
    rw [add_plain]
    have e2 : (⟨b, j * (Kd.int .u8).sz + 0, none⟩ : Addr) = ⟨b, j, none⟩ := by
      show (⟨b, j * 1 + 0, none⟩ : Addr) = _
      simp
    rw [e2, e]
    simp [nums, hj]
def abc (w : World) : World := ((w.alloc (.cells #[.int .u8 120, .int .u8 121, .int .u8 122] 5 (3, 4))).alloc (.cells #[.string nA, .slice (some ⟨w.heap.size, 0, none⟩) 3 3] 73)).alloc (.cells #[.int .i64 1, .int .i64 2, .int .i64 12] 76)
/-- What works makes first: three bytes, a file, a trouble. -/
theorem works_made (w : World) : Below w.heap.size w (abc w) ∧ Kd.C k73 (abc w) (some ⟨w.heap.size + 1, 0, none⟩) wFs.length wFs ∧ Kd.C k76 (abc w) (some ⟨w.heap.size + 1 + 1, 0, none⟩) wPs.length wPs := by
  have e1 : (w.alloc (.cells #[.int .u8 120, .int .u8 121, .int .u8 122] 5 (3, 4))).heap.size = w.heap.size + 1 := by simp
  have e2 : ((w.alloc (.cells #[.int .u8 120, .int .u8 121, .int .u8 122] 5 (3, 4))).alloc (.cells #[.string nA, .slice (some ⟨w.heap.size, 0, none⟩) 3 3] 73)).heap.size = w.heap.size + 1 + 1 := by simp
  have k0 := heap_alloc_new w (.cells #[.int .u8 120, .int .u8 121, .int .u8 122] 5 (3, 4))
  have k1 := Blk.alloc (w.alloc (.cells #[.int .u8 120, .int .u8 121, .int .u8 122] 5 (3, 4))) #[.string nA, .slice (some ⟨w.heap.size, 0, none⟩) 3 3] 73
  have k2 := Blk.alloc ((w.alloc (.cells #[.int .u8 120, .int .u8 121, .int .u8 122] 5 (3, 4))).alloc (.cells #[.string nA, .slice (some ⟨w.heap.size, 0, none⟩) 3 3] 73)) #[.int .i64 1, .int .i64 2, .int .i64 12] 76
  rw [e1] at k1
  rw [e2] at k2
  have b1 := (Below.refl _ (w.alloc (.cells #[.int .u8 120, .int .u8 121, .int .u8 122] 5 (3, 4)))).alloc (Nat.le_refl _) (.cells #[.string nA, .slice (some ⟨w.heap.size, 0, none⟩) 3 3] 73)
  have b2 := (Below.refl _ ((w.alloc (.cells #[.int .u8 120, .int .u8 121, .int .u8 122] 5 (3, 4))).alloc (.cells #[.string nA, .slice (some ⟨w.heap.size, 0, none⟩) 3 3] 73))).alloc (Nat.le_refl _) (.cells #[.int .i64 1, .int .i64 2, .int .i64 12] 76)
  have j0 : (abc w).heap[w.heap.size]? = some (.cells (nums .u8 [120, 121, 122]).toArray 5 (3, 4)) := (b2.block _ (by rw [e2]; omega)).trans ((b1.block _ (by rw [e1]; omega)).trans k0)
  have j1 := k1.below b2 k1.lt
  refine ⟨(((Below.refl _ w).alloc (Nat.le_refl _) _).alloc (by simp) _).alloc (by simp; omega) _, C_of_blk (cs := [.string nA, .slice (some ⟨w.heap.size, 0, none⟩) 3 3]) (rest := []) j1 ⟨rfl, fun j f hj => ?_⟩ (by decide), C_of_blk (cs := troubleCells wPs) (rest := []) k2 (troubleCells_reps _ wPs) (by decide)⟩
  cases j with
  | succ j => simp [wFs] at hj
  | zero =>
    simp [wFs] at hj
    subst hj
    exact k73_mk (abc w) ⟨nA, [120, 121, 122]⟩ (A1 := some ⟨w.heap.size, 0, none⟩) (c1 := 3) (by decide) (C_mark j0 (by decide))
theorem data_abc {w : World} {ok : Nat → Prop} {A : Option Addr} {c : Nat} (h : DataAt w ok (.slice A 3 c) [120, 121, 122]) : (convert 39 9 (.slice A 3 c)).run Try.prog w = .ok (.string ⟨#[120, 121, 122]⟩) w := by
  rcases h with ⟨h, _⟩ | ⟨g, c', rest, e, _, _, _, hb⟩
  · cases h
  · cases e
    refine run_convert_bytes_back (P := Try.prog) w 39 9 5 ⟨g, 0, none⟩ c [120, 121, 122] Try.underlying39 Try.underlying5 Try.underlying9 fun j hj => ?_
    rw [Addr.add_mid, Nat.zero_add, hb.cell]
    match j, hj with
    | 0, _ => rfl
    | 1, _ => rfl
    | 2, _ => rfl
    | j + 3, h => simp at h; omega
set_option maxHeartbeats 8000000 in
theorem works.calls (w : World) : Calls Try.prog 16 #[] w fun e w' => e = .returned (.bool true) ∧ Below w.heap.size w w' := by
  have HM := Lib.hid (works_made w)
  have hG0 : Good wS0 := newS_good w_new
  have HG := Lib.hid (show Good wS0 ∧ Good wS1 ∧ Good wS2 ∧ Good wS3 ∧ Good wS4 from ⟨hG0, hG0.note _ _ _, (hG0.note _ _ _).note _ _ _, ((hG0.note _ _ _).note _ _ _).wr _ _, (((hG0.note _ _ _).note _ _ _).wr _ _).rem _⟩)
  clear hG0
  have hz : errV 0 = .nilIface := rfl
  have hnB : nB.toList = [98] := by rw [ByteArray.toList_eq]; rfl
  have hnn : ∀ W : World, (binOp .eql 46 .nilIface .nilIface).run Try.prog W = .ok (.bool true) W := fun W => by kernel_rfl
  have hcv := fun (w : World) (C : Array Value) (n c : Nat) => Go.Lib.run_convert_bytes_const (P := Try.prog) w 39 5 C n c Try.underlying39 Try.underlying5
  go_enter Try.func16, Try.ntmps16
  go_wp2_with (first
    | (go_at_call 17; refine (new.calls (some ⟨w.heap.size + 1, 0, none⟩) (some ⟨w.heap.size + 1 + 1, 0, none⟩) 1 1 wFs wPs 9 _ HM.out.2.1 HM.out.2.2 (by decide) (by decide) (by decide) (by decide) (by decide)).mono ?_; rintro e w1 hpost
       obtain ⟨hb1, sp, rfl, hsp, hsh⟩ := hpost.told
       obtain ⟨sb, rfl, hs⟩ := hsh w_new
       rw [w_new]
       have HB1 : Hid (Below w.heap.size w w1) := HM.out.1.trans (hb1.mono HM.out.1.size)
       have HS1 : Hid (ShelfAt w1 (fun k => w.heap.size ≤ k) sb wS0) := hs.mono fun k hk => Nat.le_trans HM.out.1.size hk
       clear hpost hb1 hsp hsh hs)
    | (go_at_call 20; refine (read.calls HS1.out HG.out.1 nA (by decide) (by decide)).mono ?_; rintro e w2 ⟨v2, rfl, hd2, hs2, hb2, -⟩
       rw [w_read1] at hd2 hs2 ⊢
       rw [if_pos rfl, w_look1] at hd2
       have HB2 : Hid (Below w.heap.size w w2) := HB1.out.trans (hb2.below (fun k hk => hk) HB1.out.size)
       have HS2 : Hid (ShelfAt w2 (fun k => w.heap.size ≤ k) sb wS1) := hs2.mono fun k hk => hk.elim id fun h => Nat.le_trans HB1.out.size h
       have HD2 : Hid (DataAt w2 (fun _ => True) v2 [120, 121, 122]) := hd2.mono fun _ _ => trivial
       obtain ⟨A2, c2, rfl, _, _⟩ := hd2.slice
       clear hd2 hs2 hb2)
    | (go_at_call 20; refine (read.calls HS2.out HG.out.2.1 nA (by decide) (by decide)).mono ?_; rintro e w3 ⟨v3, rfl, hd3, hs3, hb3, ht3⟩
       rw [w_read2] at hs3 ⊢
       have HB3 : Hid (Below w.heap.size w w3) := HB2.out.trans (hb3.below (fun k hk => hk) HB2.out.size)
       have HS3 : Hid (ShelfAt w3 (fun k => w.heap.size ≤ k) sb wS2) := hs3.mono fun k hk => hk.elim id fun h => Nat.le_trans HB2.out.size h
       have HS3b : Hid (ShelfAt (w3.alloc (.cells #[.int .u8 49, .int .u8 50] 5 (2, 3))) (fun k => w.heap.size ≤ k ∧ k < w3.heap.size) sb wS2) := HS3.out.bound.keep (Keeps.below ((Below.refl _ w3).alloc (Nat.le_refl _) _))
       have HK3 : Hid (∀ W, But (fun k => w.heap.size ≤ k ∧ k < w3.heap.size) (w3.alloc (.cells #[.int .u8 49, .int .u8 50] 5 (2, 3))) W → (∀ okd v bs, DataAt (w3.alloc (.cells #[.int .u8 49, .int .u8 50] 5 (2, 3))) okd v bs → DataAt W okd v bs) → Kd.C (Kd.int .u8) W (some ⟨w3.heap.size, 0, none⟩) [49, 50].length [49, 50]) := fun W hW _ =>
         C_mark (bs := [49, 50]) ((hW.block w3.heap.size (by simp) (fun h => by have := h.2; omega)).trans (heap_alloc_new w3 _)) (by decide)
       have HD3 : Hid (DataAt w3 (fun _ => True) (.slice A2 3 c2) [120, 121, 122]) := ht3 _ _ _ HD2.out
       clear hd3 hs3 hb3 ht3)
    | (go_at_call 18; refine (write.calls HS3b.out HG.out.2.2.1 nB (by decide) (by decide) (some ⟨w3.heap.size, 0, none⟩) 2 [49, 50] HK3.out (by decide)).mono ?_; rintro e w4 ⟨rfl, hs4, hb4, ht4⟩
       rw [w_write]
       have HB3b : Hid (Below w.heap.size w (w3.alloc (.cells #[.int .u8 49, .int .u8 50] 5 (2, 3)))) := HB3.out.alloc HB3.out.size _
       have HB4 : Hid (Below w.heap.size w w4) := HB3b.out.trans (hb4.below (fun k hk => hk.1) HB3b.out.size)
       have HS4 : Hid (ShelfAt w4 (fun k => w.heap.size ≤ k) sb wS3) := hs4.mono fun k hk => hk.elim (fun h => h.1) fun h => Nat.le_trans HB3b.out.size h
       have HD4 : Hid (DataAt w4 (fun _ => True) (.slice A2 3 c2) [120, 121, 122]) := ht4 _ _ _ (HD3.out.keep (Keeps.below ((Below.refl _ w3).alloc (Nat.le_refl _) _)))
       clear hs4 hb4 ht4)
    | (go_at_call 11; refine (files.calls HS4.out HG.out.2.2.2.1).mono ?_; rintro e w5 ⟨v5, rfl, hf5, hb5⟩
       have HB5 : Hid (Below w.heap.size w w5) := HB4.out.trans (hb5.mono HB4.out.size)
       have HS5 : Hid (ShelfAt w5 (fun k => w.heap.size ≤ k) sb wS3) := HS4.out.keep (Keeps.below hb5)
       obtain ⟨A5, c5, rfl, _, hC5⟩ := hf5.slice
       obtain ⟨g5, rfl⟩ : ∃ g5, A5 = some ⟨g5, 0, none⟩ := by
         obtain ⟨_, cs5, _, how5⟩ := hf5
         rcases how5.2 with ⟨h, h0⟩ | ⟨g5, cap, cur, h, _⟩
         · rw [w_len] at h0; cases h0
         · cases h; exact ⟨g5, rfl⟩
       rw [w_len] at hC5 ⊢
       obtain ⟨ad, _, _, e5, hx0, _⟩ := fs_at hC5 (i := 1) (f := ⟨nB, [49, 50]⟩) rfl
       cases e5
       have hx1 : w5.cell? ⟨g5, 2, none⟩ = some (.string nB) := hx0
       clear hx0
       have hst := data_abc (HD4.out.keep (Keeps.below hb5))
       clear hf5 hb5 hC5)
    | (go_at_call 35; refine (number.calls 12 (by decide) w5).mono ?_; rintro e w6 ⟨rfl, rfl⟩)
    | (go_at_call 13; refine (left.calls HS5.out HG.out.2.2.2.1).mono ?_; rintro e w6 ⟨rfl, hd6⟩; rw [w_left]
       have HB6 : Hid (Below w.heap.size w w6) := HB5.out.trans (hd6.below.mono HB5.out.size)
       have HS6 : Hid (ShelfAt w6 (fun k => w.heap.size ≤ k) sb wS3) := HS5.out.keep (Keeps.below hd6.below)
       clear hd6)
    | (go_at_call 19; refine (remove.calls HS6.out HG.out.2.2.2.1 nA (by decide) (by decide)).mono ?_; rintro e w7 ⟨rfl, hs7, hb7, -⟩
       rw [w_rem]
       have HB7 : Hid (Below w.heap.size w w7) := HB6.out.trans (hb7.below (fun k hk => hk) HB6.out.size)
       have HS7 : Hid (ShelfAt w7 (fun k => w.heap.size ≤ k) sb wS4) := hs7.mono fun k hk => hk.elim id fun h => Nat.le_trans HB6.out.size h
       clear hs7 hb7)
    | (go_at_call 15; refine (calls.calls HS7.out (by decide)).mono ?_; rintro e w8 ⟨v8, rfl, hr8, hb8⟩
       obtain ⟨A8, c8, rfl⟩ := own_slice hr8
       have HB8 : Hid (Below w.heap.size w w8) := HB7.out.trans (hb8.mono HB7.out.size)
       rw [w_calls]
       clear hr8 hb8)
    | fail)
  go_ret
  exact ⟨rfl, HB8.out⟩
end Go.Proofs.Ytplknppmaepinaa.S
