/- Texts joined and shortened (wip/tools/shrink.py): ShRead, ShWrite, ShNum, ShGood, ShTotal, ShStep, ShWorks, ShMakes, ShBin. -/
import Derived.Test.YtplknppmaepinaaQr4
import Derived.Test.YtplknppmaepinaaQr1
import Derived.Test.YtplknppmaepinaaQr2
import Derived.Lib.SlBytesConst
import Derived.Test.YtplknppmaepinaaQr3
/- The program's Read, Remove, Write. -/
namespace Go.X
open Go Go.RowKit
section
variable {P : Program} {ops : Array Oper} {o : Oper} {a : Act} {w : World} {K : Act → World → Prop} {Q : Exit → Act → World → Prop} {E : Prop}
/-- 'delete(m, k)', inside a region that draws its order. -/
theorem step_delete (hgd : o.guard = none) (m x : Operand) (t k : TypeId) (ho : o.op = .call { callee := .builtin .delete, args := #[m, x], argTypes := #[t, k] }) (mv kv : Value) (hm : a.eval m = mv) (hx : a.eval x = kv) (w' : World)
    (hrun : (Builtin.delete_ #[t, k] o.type #[mv, kv]).run P w = .ok (.tuple #[]) w') (h : K (a.put o.dst (.tuple #[])) w') :
    if Region.wanted o (yielded ops a.tmps) = true then Oper.wp P o a w K Q else E := by
  have hw : Region.wanted o (yielded ops a.tmps) = true := by simp [Region.wanted, hgd]
  rw [if_pos hw]
  unfold Oper.wp
  simp [execOp, ho, resolve, invoke, builtin, hm, hx, hrun, Result.andThen]
  exact h
end
end Go.X
namespace Go.Proofs.Ytplknppmaepinaa.S
open Go Go.RowKit Go.X Go.Maps Go.Proofs.YtplknppmaepinaaW.PrintWords Go.Proofs.Ytplknppmaepinaa.F
set_option maxRecDepth 100000

def lkE (s : Sh) (n : ByteArray) : Int := if hasN s.L n then 0 else 11
/-- The error of a number. -/
def errV (e : Int) : Value := if e = 0 then .nilIface else .iface 42 (.int .i64 e)
theorem askE_ok {s : Sh} {c : Int} {n : ByteArray} {lk : Int} (h : askE s c n lk = 0) : nmOK n = true ∧ lk = 0 := by
  unfold askE at h
  split at h
  · rename_i h0; exact absurd h h0
  · split at h
    · rename_i h1; exact ⟨h1, h⟩
    · cases h
theorem lkE_ok {s : Sh} {n : ByteArray} (h : lkE s n = 0) : hasN s.L n = true := by
  unfold lkE at h
  split at h
  · assumption
  · cases h
/-- What Read leaves. -/
def ReadPost (w : World) (ok : Nat → Prop) (sb : Nat) (s : Sh) (n : ByteArray) (e : Ending) (w' : World) : Prop :=
  ∃ v, e = .returned (.tuple #[v, errV (askE s 1 n (lkE s n))]) ∧ DataAt w' (fun k => w.heap.size ≤ k) v (if askE s 1 n (lkE s n) = 0 then lookL n s.L else []) ∧ ShelfAt w' (fun k => ok k ∨ w.heap.size ≤ k) sb (s.note 1 n (askE s 1 n (lkE s n))) ∧ But ok w w' ∧ ∀ okd v bs, DataAt w okd v bs → DataAt w' okd v bs
set_option maxHeartbeats 4000000 in
theorem read.calls {w : World} {ok : Nat → Prop} {sb : Nat} {s : Sh} (h : ShelfAt w ok sb s) (hg : Good s) (n : ByteArray) (hn : n.size ≤ maxLen) (hall : s.all.length ≤ 1073741824) :
    Calls Try.prog 20 #[.pointer (some ⟨sb, 0, none⟩), .string n] w (ReadPost w ok sb s n) := by
  obtain ⟨E, hE⟩ : ∃ E, askE s 1 n (lkE s n) = E := ⟨_, rfl⟩
  have HE := Lib.hid hE
  have hs0 : ((w.alloc (.cells #[.pointer (some ⟨sb, 0, none⟩)] 27)).alloc (.cells #[.string n] 9)).heap.size = w.heap.size + 2 := by simp
  have HB0 : Hid (Below w.heap.size w ((w.alloc (.cells #[.pointer (some ⟨sb, 0, none⟩)] 27)).alloc (.cells #[.string n] 9)) ∧ Blk ((w.alloc (.cells #[.pointer (some ⟨sb, 0, none⟩)] 27)).alloc (.cells #[.string n] 9)) w.heap.size 27 [.pointer (some ⟨sb, 0, none⟩)] ∧ Blk ((w.alloc (.cells #[.pointer (some ⟨sb, 0, none⟩)] 27)).alloc (.cells #[.string n] 9)) (w.heap.size + 1) 9 [.string n]) := by
    have a1 := Blk.alloc w #[.pointer (some ⟨sb, 0, none⟩)] 27
    have s1 : (w.alloc (.cells #[.pointer (some ⟨sb, 0, none⟩)] 27)).heap.size = w.heap.size + 1 := by simp
    have b2 := (Below.refl _ (w.alloc (.cells #[.pointer (some ⟨sb, 0, none⟩)] 27))).alloc (Nat.le_refl _) (.cells #[.string n] 9)
    have a2 := Blk.alloc (w.alloc (.cells #[.pointer (some ⟨sb, 0, none⟩)] 27)) #[.string n] 9
    rw [s1] at a2
    exact ⟨((Below.refl _ w).alloc (Nat.le_refl _) _).alloc (by simp) _, a1.below b2 a1.lt, a2⟩
  have HS0 : Hid (ShelfAt ((w.alloc (.cells #[.pointer (some ⟨sb, 0, none⟩)] 27)).alloc (.cells #[.string n] 9)) (fun k => ok k ∧ k < w.heap.size) sb s) := h.bound.keep (Keeps.below HB0.out.1)
  have HSZ := Lib.hid hs0; clear hs0
  have HALL := Lib.hid hall; clear hall
  have HG := Lib.hid hg; clear hg h hE
  have hmf : ∀ (fn : Fn) (first cap : Array Value) (w : World), (Instr.makeFunc fn first cap).run Try.prog w = .ok (.func fn first cap) w := fun _ _ _ _ => rfl
  by_cases h0 : E = 0
  · have HEN := Lib.hid h0
    subst h0
    go_enter Try.func20, Try.ntmps20
    go_wp2_with (first
      | (go_at_call 38; refine (ask.calls HS0.out 1 n 43 #[.pointer (some ⟨w.heap.size, 0, none⟩), .pointer (some ⟨w.heap.size + 1, 0, none⟩)] (lkE s n) (by decide) HALL.out (enter43 _) (fun fm rest hb hf => readLook.calls hb hf hn HB0.out.2.1 HB0.out.2.2)).mono ?_; rintro e w1 ⟨rfl, hs1, hb1, hdt1⟩; rw [HE.out] at hs1 ⊢
         have HS1 := Lib.hid hs1
         have HBT := Lib.hid hb1
         have HDT := Lib.hid hdt1
         clear hs1 hb1 hdt1)
      | fail)
    have HX1 : Hid (Blk w1 w.heap.size 27 [.pointer (some ⟨sb, 0, none⟩)] ∧ Blk w1 (w.heap.size + 1) 9 [.string n]) := ⟨HB0.out.2.1.but HBT.out (fun h => by have := h.2; omega), HB0.out.2.2.but HBT.out (fun h => by have := h.2; omega)⟩
    have HSW : Hid (Below w1.heap.size w1 w1.drew) := (Below.refl _ w1).drew
    have HSG : Hid (w.heap.size ≤ w1.heap.size) := Nat.le_trans HB0.out.1.size HBT.out.size
    have hin : hasN s.L n = true := lkE_ok (askE_ok HE.out).2
    obtain ⟨fm, pm, am, cv, k1, k2, -⟩ := HS1.out.out
    obtain ⟨ov, hlk, -, hdat⟩ := k2.look hn
    have hd := hdat _ (lookL_mem hin) rfl
    obtain ⟨A1, c1, rfl, _, hc1⟩ := hd.slice
    have hlk1 := (hlk w1.drew (Keeps.below HSW.out)).2
    have c0 : w1.cell? ⟨sb, 0, none⟩ = some (.map (some fm)) := k1.cell 0
    have c3 : w1.cell? ⟨w.heap.size, 0, none⟩ = some (.pointer (some ⟨sb, 0, none⟩)) := HX1.out.1.cell 0
    have c4 : w1.cell? ⟨w.heap.size + 1, 0, none⟩ = some (.string n) := HX1.out.2.cell 0
    have HC1 : Hid (Kd.C (Kd.int .u8) w1 A1 (lookL n s.L).length (lookL n s.L)) := hc1
    have HLN : Hid ((lookL n s.L).length ≤ 16777216) := by
      have q1 : (lookL n s.L).length ≤ szL s.L := len_sz (f := ⟨n, lookL n s.L⟩) (lookL_mem hin)
      have q2 := HG.out.fits
      have q3 := HG.out.room1
      show _ ≤ _
      omega
    have hlk2 : (Instr.lookup 80 (.map (some fm)) (.string n) false).run Try.prog w1.drew = .ok (.slice A1 (lookL n s.L).length c1) w1.drew := hlk1
    clear hlk hdat hd hc1 k1 k2 hlk1
    go_region_law (first
      | (go_simp; go_at_call 32; refine (fresh.calls A1 c1 (lookL n s.L) w1.drew (Kd.C_below HC1.out HSW.out) (by have := HLN.out; omega)).mono ?_; rintro e w3 ⟨v3, rfl, hdat, hbl⟩
         have HB3 : Hid (Below w1.heap.size w1 w3) := HSW.out.trans hbl
         have HD3 : Hid (DataAt w3 (fun k => w.heap.size ≤ k) v3 (lookL n s.L)) := hdat.mono fun k hk => Nat.le_trans HSG.out hk
         clear hdat hbl)
      | fail)
    all_goals
      go_wp2
      go_ret2
      exact ⟨v3, by rw [HE.out]; rfl, by rw [HE.out, if_pos rfl]; exact HD3.out, by rw [HE.out]; exact (HS1.out.keep (Keeps.below HB3.out)).mono fun k hk => hk.imp (fun h => h.1) fun h => by have := HSZ.out; omega,
        ((But.of_below HB0.out.1).trans2 (HBT.out.imp fun k hk => hk.1)).trans2 (But.of_below HB3.out), fun okd v bs h => (HDT.out okd v bs (h.keep (Keeps.below HB0.out.1))).keep (Keeps.below HB3.out)⟩
  · have e1 : (E == 0) = false := by simpa using h0
    have HNE := Lib.hid h0; clear h0
    go_enter Try.func20, Try.ntmps20
    go_wp2_with (first
      | (go_at_call 38; refine (ask.calls HS0.out 1 n 43 #[.pointer (some ⟨w.heap.size, 0, none⟩), .pointer (some ⟨w.heap.size + 1, 0, none⟩)] (lkE s n) (by decide) HALL.out (enter43 _) (fun fm rest hb hf => readLook.calls hb hf hn HB0.out.2.1 HB0.out.2.2)).mono ?_; rintro e w1 ⟨rfl, hs1, hb1, hdt1⟩; rw [HE.out] at hs1 ⊢
         have HS1 := Lib.hid hs1
         have HBT := Lib.hid hb1
         have HDT := Lib.hid hdt1
         clear hs1 hb1 hdt1)
      | fail)
    go_ret2
    exact ⟨_, by rw [HE.out, errV, if_neg HNE.out]; rfl, by rw [HE.out, if_neg HNE.out]; exact .inl ⟨rfl, _, _, rfl⟩, by rw [HE.out]; exact HS1.out.mono fun k hk => hk.imp (fun h => h.1) fun h => by have := HSZ.out; omega,
      (But.of_below HB0.out.1).trans2 (HBT.out.imp fun k hk => hk.1), fun okd v bs h => HDT.out okd v bs (h.keep (Keeps.below HB0.out.1))⟩

/-- The shelf behind a Remove. -/
def Sh.rem (s : Sh) (n : ByteArray) : Sh := { s.note 3 n (askE s 3 n (lkE s n)) with L := if askE s 3 n (lkE s n) = 0 then delL n s.L else s.L }
def RemPost (w : World) (ok : Nat → Prop) (sb : Nat) (s : Sh) (n : ByteArray) (e : Ending) (w' : World) : Prop :=
  e = .returned (errV (askE s 3 n (lkE s n))) ∧ ShelfAt w' (fun k => ok k ∨ w.heap.size ≤ k) sb (s.rem n) ∧ But ok w w' ∧ ∀ okd v bs, DataAt w okd v bs → DataAt w' okd v bs
/-- The sum told anew, a file gone. -/
theorem remove_end {w1 w2 w3 : World} {ok : Nat → Prop} {sb fm pm am : Nat} {cv : Value} {s : Sh} (k1 : Blk w1 sb 84 [.map (some fm), .int .i64 s.room, .int .i64 (szL s.L), .map (some pm), .map (some am), cv]) (k2 : FMap w1 ok fm s.L) (k3 : PMap w1 pm s.plan) (k4 : AMap w1 am s.all)
    (k5 : w1.ownsRow 0 102 3 cv s.all.length (callCells s.all)) (k6 : ok sb ∧ ok fm ∧ ok pm ∧ ok am ∧ ∀ g, cv.ownBlock = some g → ok g) (k7 : fm ≠ pm ∧ fm ≠ am ∧ pm ≠ am) {L' : List S73} (e2 : w2 = (w1.setCell ⟨sb, 2, none⟩ (.int .i64 (szL L' : Nat))).drew.drew) (hf : FMap w3 ok fm L') (ht : w2.mapTurned w3 fm) :
    ShelfAt w3 ok sb { s with L := L' } ∧ But (fun k => k = sb ∨ k = fm) w1 w3 := by
  have g2 : But (fun k => k = sb ∨ k = fm) w1 w2 := by
    subst e2
    exact ((But.of_grown (grown_setCell w1 ⟨sb, 2, none⟩ (.int .i64 (szL L' : Nat))) fun k e => by cases e; exact .inl rfl).trans2 (But.of_below (Below.refl _ _).drew)).trans2 (But.of_below (Below.refl _ _).drew)
  have g3 : But (fun k => k = sb ∨ k = fm) w1 w3 := g2.trans2 (But.of_grown ht.grown fun k e => by cases e; exact .inr rfl)
  have nfm := k2.ne k1
  have b2 : Blk w2 sb 84 [.map (some fm), .int .i64 s.room, .int .i64 (szL L' : Nat), .map (some pm), .map (some am), cv] := by
    subst e2
    exact k1.setCell 2 (.int .i64 (szL L' : Nat))
  have ncv : ∀ g, cv.ownBlock = some g → ¬ (g = sb ∨ g = fm) := fun g hg h => by
    obtain ⟨D, q1, _⟩ := k2.out
    rcases h with rfl | rfl
    · exact row_ne_blk k5 k1 (by decide) hg rfl
    · exact ownsMap_ne_row q1 k5 hg.symm
  refine ⟨⟨fm, pm, am, cv, b2.grown ht.grown (fun e => nfm (by injection e with e; exact e.symm)), hf, k3.keep (fun k hk hlt => by cases hk; exact g3.block _ hlt fun h => h.elim (k3.ne k1) fun h => k7.1 h.symm), k4.keep (fun k hk hlt => by cases hk; exact g3.block _ hlt fun h => h.elim (k4.ne k1) fun h => k7.2.1 h.symm), row_but k5 g3 fun b hb e => ncv b e hb, k6, k7⟩, g3⟩

theorem But.old {S : Nat → Prop} {w w' : World} (h : But (fun k => S k ∨ w.heap.size ≤ k) w w') : But S w w' :=
  ⟨h.os, h.tape, h.output, h.size, fun k hk hs => h.block k hk fun e => e.elim hs fun e => by omega⟩
theorem boxes {w : World} {sb : Nat} {n : ByteArray} : Below w.heap.size w ((w.alloc (.cells #[.pointer (some ⟨sb, 0, none⟩)] 27)).alloc (.cells #[.string n] 9)) ∧ Blk ((w.alloc (.cells #[.pointer (some ⟨sb, 0, none⟩)] 27)).alloc (.cells #[.string n] 9)) w.heap.size 27 [.pointer (some ⟨sb, 0, none⟩)] ∧ Blk ((w.alloc (.cells #[.pointer (some ⟨sb, 0, none⟩)] 27)).alloc (.cells #[.string n] 9)) (w.heap.size + 1) 9 [.string n] := by
  have a1 := Blk.alloc w #[.pointer (some ⟨sb, 0, none⟩)] 27
  have s1 : (w.alloc (.cells #[.pointer (some ⟨sb, 0, none⟩)] 27)).heap.size = w.heap.size + 1 := by simp
  have b2 := (Below.refl _ (w.alloc (.cells #[.pointer (some ⟨sb, 0, none⟩)] 27))).alloc (Nat.le_refl _) (.cells #[.string n] 9)
  have a2 := Blk.alloc (w.alloc (.cells #[.pointer (some ⟨sb, 0, none⟩)] 27)) #[.string n] 9
  rw [s1] at a2
  exact ⟨((Below.refl _ w).alloc (Nat.le_refl _) _).alloc (by simp) _, a1.below b2 a1.lt, a2⟩
set_option maxHeartbeats 4000000 in
theorem remove.calls {w : World} {ok : Nat → Prop} {sb : Nat} {s : Sh} (h : ShelfAt w ok sb s) (hg : Good s) (n : ByteArray) (hn : n.size ≤ maxLen) (hall : s.all.length ≤ 1073741824) :
    Calls Try.prog 19 #[.pointer (some ⟨sb, 0, none⟩), .string n] w (RemPost w ok sb s n) := by
  obtain ⟨E, hE⟩ : ∃ E, askE s 3 n (lkE s n) = E := ⟨_, rfl⟩
  have HE := Lib.hid hE
  have hs0 : ((w.alloc (.cells #[.pointer (some ⟨sb, 0, none⟩)] 27)).alloc (.cells #[.string n] 9)).heap.size = w.heap.size + 2 := by simp
  have HB0 : Hid _ := Lib.hid (boxes (w := w) (sb := sb) (n := n))
  have HS0 : Hid (ShelfAt ((w.alloc (.cells #[.pointer (some ⟨sb, 0, none⟩)] 27)).alloc (.cells #[.string n] 9)) (fun k => ok k ∧ k < w.heap.size) sb s) := h.bound.keep (Keeps.below HB0.out.1)
  have HSZ := Lib.hid hs0; clear hs0
  have HALL := Lib.hid hall; clear hall
  have HG := Lib.hid hg; clear hg h hE
  have hmf : ∀ (fn : Fn) (first cap : Array Value) (w : World), (Instr.makeFunc fn first cap).run Try.prog w = .ok (.func fn first cap) w := fun _ _ _ _ => rfl
  by_cases h0 : E = 0
  · subst h0
    go_enter Try.func19, Try.ntmps19
    go_wp2_with (first
      | (go_at_call 38; refine (ask.calls HS0.out 3 n 41 #[.pointer (some ⟨w.heap.size, 0, none⟩), .pointer (some ⟨w.heap.size + 1, 0, none⟩)] (lkE s n) (by decide) HALL.out (enter41 _) (fun fm rest hb hf => removeLook.calls hb hf hn HB0.out.2.1 HB0.out.2.2)).mono ?_; rintro e w1 ⟨rfl, hs1, hb1, hdt1⟩; rw [HE.out] at hs1 ⊢
         have HS1 := Lib.hid hs1
         have HBT := Lib.hid hb1
         have HDT := Lib.hid hdt1
         clear hs1 hb1 hdt1)
      | fail)
    have HX1 : Hid (Blk w1 w.heap.size 27 [.pointer (some ⟨sb, 0, none⟩)] ∧ Blk w1 (w.heap.size + 1) 9 [.string n]) := ⟨HB0.out.2.1.but HBT.out (fun h => by have := h.2; omega), HB0.out.2.2.but HBT.out (fun h => by have := h.2; omega)⟩
    have hin : hasN s.L n = true := lkE_ok (askE_ok HE.out).2
    obtain ⟨fm, pm, am, cv, hbk, hfm, hpm, ham, hrow, hoks, hne⟩ := HS1.out.out
    have hfm' : FMap w1 _ fm s.L := hfm
    obtain ⟨ov, hlk, -, hdat⟩ := hfm'.look hn
    have hd := hdat _ (lookL_mem hin) rfl
    obtain ⟨A1, c1, rfl, _, _⟩ := hd.slice
    have hlk2 : (Instr.lookup 80 (.map (some fm)) (.string n) false).run Try.prog w1.drew = .ok (.slice A1 (lookL n s.L).length c1) w1.drew := (hlk w1.drew (Keeps.below (Below.refl _ w1).drew)).2
    have c0 : w1.cell? ⟨sb, 0, none⟩ = some (.map (some fm)) := hbk.cell 0
    obtain ⟨u, hu⟩ : ∃ u, szL s.L = u := ⟨_, rfl⟩
    have c2 : w1.cell? ⟨sb, 2, none⟩ = some (.int .i64 (u : Nat)) := hu ▸ hbk.cell 2
    have cf : w1.frozen? ⟨sb, 2, none⟩ = false := hbk.frozen 2
    have c3 : w1.cell? ⟨w.heap.size, 0, none⟩ = some (.pointer (some ⟨sb, 0, none⟩)) := HX1.out.1.cell 0
    have c4 : w1.cell? ⟨w.heap.size + 1, 0, none⟩ = some (.string n) := HX1.out.2.cell 0
    obtain ⟨t, ht⟩ : ∃ t, szL (delL n s.L) = t := ⟨_, rfl⟩
    have hadd := szL_delL (n := n) (L := s.L)
    rw [ht, hu] at hadd
    have hub : u ≤ 16777216 := by have := HG.out.fits; have := HG.out.room1; omega
    have hw : IntKind.i64.wrap ((u : Int) - ((lookL n s.L).length : Int)) = (t : Int) := by rw [IntWalk.i64_in _ (by omega)]; omega
    have HHT := Lib.hid ht
    have nsb : No5 w1 (some sb) := No5.blk hbk (by decide)
    have fsb : fm ≠ sb := hfm.ne hbk
    have hfm2 : FMap (w1.setCell ⟨sb, 2, none⟩ (.int .i64 (t : Nat))).drew.drew _ fm s.L := (((hfm'.but (S := fun k => k = sb) (But.of_grown (grown_setCell w1 _ _) fun k e => by cases e; rfl) fsb (fun b hb => by cases hb; exact nsb)).below (Below.refl _ _).drew).below (Below.refl _ _).drew)
    obtain ⟨w3, hrun, hf3, ht3⟩ := hfm2.drop HG.out.rises hn hin 0
    have HEND : Hid (ShelfAt w3 (fun k => (ok k ∧ k < w.heap.size) ∨ ((w.alloc (.cells #[.pointer (some ⟨sb, 0, none⟩)] 27)).alloc (.cells #[.string n] 9)).heap.size ≤ k) sb { s.note 3 n 0 with L := delL n s.L } ∧ But (fun k => k = sb ∨ k = fm) w1 w3) :=
      remove_end (s := s.note 3 n 0) (L' := delL n s.L) hbk hfm hpm ham hrow hoks hne (w2 := (w1.setCell ⟨sb, 2, none⟩ (.int .i64 (t : Nat))).drew.drew) (by rw [ht]) hf3 ht3
    have HOK : Hid (∀ k, (k = sb ∨ k = fm) → ok k ∨ w.heap.size ≤ k) := fun k hk => by
      have q : ∀ k, ((ok k ∧ k < w.heap.size) ∨ ((w.alloc (.cells #[.pointer (some ⟨sb, 0, none⟩)] 27)).alloc (.cells #[.string n] 9)).heap.size ≤ k) → ok k ∨ w.heap.size ≤ k := fun k h => h.imp (fun h => h.1) fun h => by have := HSZ.out; omega
      rcases hk with rfl | rfl
      · exact q _ hoks.1
      · exact q _ hoks.2.1
    have HN5 : Hid (∀ b, (b = sb ∨ b = fm) → No5 w1 (some b)) := fun b hb => by
      rcases hb with rfl | rfl
      · exact nsb
      · exact hfm.no5
    have HRUN := Lib.hid hrun
    have HD : Hid ((w1.setCell ⟨sb, 2, none⟩ (.int .i64 (t : Nat))).drew.cell? ⟨sb, 0, none⟩ = some (.map (some fm)) ∧ (w1.setCell ⟨sb, 2, none⟩ (.int .i64 (t : Nat))).drew.cell? ⟨w.heap.size, 0, none⟩ = some (.pointer (some ⟨sb, 0, none⟩)) ∧ (w1.setCell ⟨sb, 2, none⟩ (.int .i64 (t : Nat))).drew.cell? ⟨w.heap.size + 1, 0, none⟩ = some (.string n)) :=
      ⟨(hbk.setCell 2 _).cell 0, (HX1.out.1.grown (grown_setCell w1 _ _) (fun e => HX1.out.1.ne hbk (by decide) (by injection e))).cell 0, (HX1.out.2.grown (grown_setCell w1 _ _) (fun e => HX1.out.2.ne hbk (by decide) (by injection e))).cell 0⟩
    clear hbk hfm hfm' hpm ham hrow hoks hne hlk hdat hd hfm2 hf3 ht3 nsb fsb hrun hub hadd ht
    go_region
    clear c0 c2 c3 c4 cf hlk2 hw
    generalize (w1.setCell ⟨sb, 2, none⟩ (.int .i64 (t : Nat))).drew = w2 at *
    have c0 := HD.out.1
    have c3 := HD.out.2.1
    have c4 := HD.out.2.2
    have hrun := HRUN.out
    go_wp2
    go_region_law (first
      | (refine step_delete rfl (.tmp 29) (.tmp 30) 80 9 rfl (.map (some fm)) (.string n) rfl rfl w3 hrun ?_)
      | fail)
    all_goals
      clear c0 c3 c4 hrun
      have ht := told.calls 0 w3
      go_wp2_with (first
        | (go_at_call 40; refine ht.mono ?_; rintro e w4 ⟨rfl, rfl⟩)
        | fail)
      go_ret
      refine ⟨by rw [HE.out]; rfl, ?_, But.old (((But.of_below HB0.out.1).trans2 (HBT.out.imp fun k hk => .inl hk.1)).trans2 (HEND.out.2.imp HOK.out)), fun okd v bs h => (HDT.out okd v bs (h.keep (Keeps.below HB0.out.1))).but HEND.out.2 HN5.out⟩
      have hrem : s.rem n = { s.note 3 n 0 with L := delL n s.L } := by rw [Sh.rem, HE.out, if_pos rfl]
      rw [hrem]
      exact HEND.out.1.mono fun k hk => hk.imp (fun h => h.1) fun h => by have := HSZ.out; omega
  · have e1 : (E == 0) = false := by simpa using h0
    have HNE := Lib.hid h0; clear h0
    go_enter Try.func19, Try.ntmps19
    go_wp2_with (first
      | (go_at_call 38; refine (ask.calls HS0.out 3 n 41 #[.pointer (some ⟨w.heap.size, 0, none⟩), .pointer (some ⟨w.heap.size + 1, 0, none⟩)] (lkE s n) (by decide) HALL.out (enter41 _) (fun fm rest hb hf => removeLook.calls hb hf hn HB0.out.2.1 HB0.out.2.2)).mono ?_; rintro e w1 ⟨rfl, hs1, hb1, hdt1⟩; rw [HE.out] at hs1 ⊢
         have HS1 := Lib.hid hs1
         have HBT := Lib.hid hb1
         have HT := Lib.hid (told.calls E w1)
         have HDT := Lib.hid hdt1
         clear hs1 hb1 hdt1)
      | (go_at_call 40; refine HT.out.mono ?_; rintro e w4 ⟨rfl, rfl⟩; rw [if_neg HNE.out])
      | fail)
    go_ret
    refine ⟨by rw [HE.out, errV, if_neg HNE.out]; rfl, ?_, (But.of_below HB0.out.1).trans2 (HBT.out.imp fun k hk => hk.1), fun okd v bs h => HDT.out okd v bs (h.keep (Keeps.below HB0.out.1))⟩
    have hrem : s.rem n = s.note 3 n E := by rw [Sh.rem, HE.out, if_neg HNE.out]; rfl
    rw [hrem]
    exact HS1.out.mono fun k hk => hk.imp (fun h => h.1) fun h => by have := HSZ.out; omega
end Go.Proofs.Ytplknppmaepinaa.S
/- The program's Write. -/
namespace Go.Proofs.Ytplknppmaepinaa.S
open Go Go.RowKit Go.X Go.Maps Go.Proofs.YtplknppmaepinaaW.PrintWords Go.Proofs.Ytplknppmaepinaa.F
set_option maxRecDepth 100000

theorem boxes4 (w : World) (a0 a1 a2 a3 : Value) : Below w.heap.size w ((((w.alloc (.cells #[a0] 27)).alloc (.cells #[a1] 39)).alloc (.cells #[a2] 39)).alloc (.cells #[a3] 4)) ∧ Blk ((((w.alloc (.cells #[a0] 27)).alloc (.cells #[a1] 39)).alloc (.cells #[a2] 39)).alloc (.cells #[a3] 4)) w.heap.size 27 [a0] ∧ Blk ((((w.alloc (.cells #[a0] 27)).alloc (.cells #[a1] 39)).alloc (.cells #[a2] 39)).alloc (.cells #[a3] 4)) (w.heap.size + 1) 39 [a1] ∧
    Blk ((((w.alloc (.cells #[a0] 27)).alloc (.cells #[a1] 39)).alloc (.cells #[a2] 39)).alloc (.cells #[a3] 4)) (w.heap.size + 1 + 1) 39 [a2] ∧ Blk ((((w.alloc (.cells #[a0] 27)).alloc (.cells #[a1] 39)).alloc (.cells #[a2] 39)).alloc (.cells #[a3] 4)) (w.heap.size + 1 + 1 + 1) 4 [a3] ∧ ((((w.alloc (.cells #[a0] 27)).alloc (.cells #[a1] 39)).alloc (.cells #[a2] 39)).alloc (.cells #[a3] 4)).heap.size = w.heap.size + 4 := by
  have e1 : (w.alloc (.cells #[a0] 27)).heap.size = w.heap.size + 1 := by simp
  have e2 : ((w.alloc (.cells #[a0] 27)).alloc (.cells #[a1] 39)).heap.size = w.heap.size + 1 + 1 := by simp
  have e3 : (((w.alloc (.cells #[a0] 27)).alloc (.cells #[a1] 39)).alloc (.cells #[a2] 39)).heap.size = w.heap.size + 1 + 1 + 1 := by simp
  have k0 := Blk.alloc w #[a0] 27
  have k1 := Blk.alloc (w.alloc (.cells #[a0] 27)) #[a1] 39
  have k2 := Blk.alloc ((w.alloc (.cells #[a0] 27)).alloc (.cells #[a1] 39)) #[a2] 39
  have k3 := Blk.alloc (((w.alloc (.cells #[a0] 27)).alloc (.cells #[a1] 39)).alloc (.cells #[a2] 39)) #[a3] 4
  rw [e1] at k1
  rw [e2] at k2
  rw [e3] at k3
  have b1 := (Below.refl _ (w.alloc (.cells #[a0] 27))).alloc (Nat.le_refl _) (.cells #[a1] 39)
  have b2 := (Below.refl _ ((w.alloc (.cells #[a0] 27)).alloc (.cells #[a1] 39))).alloc (Nat.le_refl _) (.cells #[a2] 39)
  have b3 := (Below.refl _ (((w.alloc (.cells #[a0] 27)).alloc (.cells #[a1] 39)).alloc (.cells #[a2] 39))).alloc (Nat.le_refl _) (.cells #[a3] 4)
  have j0 := k0.below b1 k0.lt
  have j0' := j0.below b2 j0.lt
  have j1 := k1.below b2 k1.lt
  exact ⟨((((Below.refl _ w).alloc (Nat.le_refl _) _).alloc (by simp) _).alloc (by simp; omega) _).alloc (by simp; omega) _, j0'.below b3 j0'.lt, j1.below b3 j1.lt, k2.below b3 k2.lt, k3, by simp⟩
theorem store_end {w1 w2 w3 : World} {ok : Nat → Prop} {sb fm pm am : Nat} {cv : Value} {s : Sh} (k1 : Blk w1 sb 84 [.map (some fm), .int .i64 s.room, .int .i64 (szL s.L), .map (some pm), .map (some am), cv]) (k2 : FMap w1 ok fm s.L) (k3 : PMap w1 pm s.plan) (k4 : AMap w1 am s.all)
    (k5 : w1.ownsRow 0 102 3 cv s.all.length (callCells s.all)) (k6 : ok sb ∧ ok fm ∧ ok pm ∧ ok am ∧ ∀ g, cv.ownBlock = some g → ok g) (k7 : fm ≠ pm ∧ fm ≠ am ∧ pm ≠ am) {L' : List S73} (g2 : But (fun k => k = sb) w1 w2) (b2 : Blk w2 sb 84 [.map (some fm), .int .i64 s.room, .int .i64 (szL L' : Nat), .map (some pm), .map (some am), cv]) (hf : FMap w3 ok fm L') (ht : w2.mapTurned w3 fm) :
    ShelfAt w3 ok sb { s with L := L' } ∧ But (fun k => k = sb ∨ k = fm) w1 w3 := by
  have g3 : But (fun k => k = sb ∨ k = fm) w1 w3 := (g2.imp fun k h => .inl h).trans2 (But.of_grown ht.grown fun k e => by cases e; exact .inr rfl)
  have nfm := k2.ne k1
  have ncv : ∀ g, cv.ownBlock = some g → ¬ (g = sb ∨ g = fm) := fun g hg h => by
    obtain ⟨D, q1, _⟩ := k2.out
    rcases h with rfl | rfl
    · exact row_ne_blk k5 k1 (by decide) hg rfl
    · exact ownsMap_ne_row q1 k5 hg.symm
  exact ⟨⟨fm, pm, am, cv, b2.grown ht.grown (fun e => nfm (by injection e with e; exact e.symm)), hf, k3.keep (fun k hk hlt => by cases hk; exact g3.block _ hlt fun h => h.elim (k3.ne k1) fun h => k7.1 h.symm), k4.keep (fun k hk hlt => by cases hk; exact g3.block _ hlt fun h => h.elim (k4.ne k1) fun h => k7.2.1 h.symm), row_but k5 g3 fun b hb e => ncv b e hb, k6, k7⟩, g3⟩
theorem lkW_ok {s : Sh} {n : ByteArray} {d : List Int} (h : lkW s n d = 0) : ¬ s.room < szBut n s.L + d.length := by
  unfold lkW at h
  split at h
  · cases h
  · rename_i h0
    exact fun h => h0 (.inr h)
/-- The shelf behind a Write. -/
def Sh.wr (s : Sh) (n : ByteArray) (d : List Int) : Sh := { s.note 2 n (askE s 2 n (lkW s n d)) with L := if askE s 2 n (lkW s n d) = 0 then putL n d s.L else s.L }
def WrPost (w : World) (ok : Nat → Prop) (sb : Nat) (s : Sh) (n : ByteArray) (d : List Int) (e : Ending) (w' : World) : Prop :=
  e = .returned (errV (askE s 2 n (lkW s n d))) ∧ ShelfAt w' (fun k => ok k ∨ w.heap.size ≤ k) sb (s.wr n d) ∧ But ok w w' ∧ ∀ okd v bs, DataAt w okd v bs → DataAt w' okd v bs
set_option maxHeartbeats 4000000 in
theorem write.calls {w : World} {ok : Nat → Prop} {sb : Nat} {s : Sh} (h : ShelfAt w ok sb s) (hg : Good s) (n : ByteArray) (hn : n.size ≤ maxLen) (hall : s.all.length ≤ 1073741824) (Ad : Option Addr) (cd : Nat) (d : List Int) (hD : ∀ W, But ok w W → (∀ okd v bs, DataAt w okd v bs → DataAt W okd v bs) → Kd.C (Kd.int .u8) W Ad d.length d) (hd : d.length ≤ 140737488355328) :
    Calls Try.prog 18 #[.pointer (some ⟨sb, 0, none⟩), .string n, .slice Ad d.length cd] w (WrPost w ok sb s n d) := by
  obtain ⟨E, hE⟩ : ∃ E, askE s 2 n (lkW s n d) = E := ⟨_, rfl⟩
  have HE := Lib.hid hE; clear hE
  have HSB := Lib.hid h.bound
  have HD := Lib.hid hD; clear hD
  have HALL := Lib.hid hall; clear hall
  have HG := Lib.hid hg; clear hg h
  have hB2 : Below w.heap.size w ((w.alloc (.cells #[.pointer (some ⟨sb, 0, none⟩)] 27)).alloc (.cells #[.slice Ad d.length cd] 39)) := ((Below.refl _ w).alloc (Nat.le_refl _) _).alloc (by simp) _
  obtain ⟨fm, pm, am, cv, k1, k2, -⟩ := HSB.out.out
  obtain ⟨ov, hlk, hnil, hdat⟩ := k2.look hn
  obtain ⟨Ao, co, hov, hoc⟩ : ∃ Ao co, ov = .slice Ao (lookL n s.L).length co ∧ True := by
    cases hh : hasN s.L n
    · rw [hnil hh, lookL_none hh]
      exact ⟨none, 0, rfl, trivial⟩
    · obtain ⟨A, c, e, _, _⟩ := (hdat _ (lookL_mem hh) rfl).slice
      exact ⟨A, c, e, trivial⟩
  subst hov
  have c0 : ((w.alloc (.cells #[.pointer (some ⟨sb, 0, none⟩)] 27)).alloc (.cells #[.slice Ad d.length cd] 39)).cell? ⟨sb, 0, none⟩ = some (.map (some fm)) := Below.cellS hB2 (k1.cell 0)
  have hlk0 := (hlk _ (Keeps.below hB2)).1
  obtain ⟨b, hb⟩ : ∃ b, hasN s.L n = b := ⟨_, rfl⟩
  have HBB := Lib.hid hb
  rw [hb] at hlk0
  have HB4 := Lib.hid (boxes4 w (.pointer (some ⟨sb, 0, none⟩)) (.slice Ad d.length cd) (.slice Ao (lookL n s.L).length co) (.bool b))
  have HS4 : Hid (ShelfAt ((((w.alloc (.cells #[.pointer (some ⟨sb, 0, none⟩)] 27)).alloc (.cells #[.slice Ad d.length cd] 39)).alloc (.cells #[.slice Ao (lookL n s.L).length co] 39)).alloc (.cells #[.bool b] 4)) (fun k => ok k ∧ k < w.heap.size) sb s) := HSB.out.keep (Keeps.below HB4.out.1)
  clear hlk hnil hdat hoc k1 k2 hb hB2
  have hmf : ∀ (fn : Fn) (first cap : Array Value) (w : World), (Instr.makeFunc fn first cap).run Try.prog w = .ok (.func fn first cap) w := fun _ _ _ _ => rfl
  by_cases h0 : E = 0
  · subst h0
    go_enter Try.func18, Try.ntmps18
    go_wp2_with (first
      | (go_at_call 38; refine (ask.calls HS4.out 2 n 39 #[.pointer (some ⟨w.heap.size + 1 + 1 + 1, 0, none⟩), .pointer (some ⟨w.heap.size, 0, none⟩), .pointer (some ⟨w.heap.size + 1, 0, none⟩), .pointer (some ⟨w.heap.size + 1 + 1, 0, none⟩)] (lkW s n d) (by decide) HALL.out (enter39 _) (fun fm rest hb hf => writeLook.calls HG.out hb hf (HBB.out ▸ HB4.out.2.2.2.2.1) HB4.out.2.1 HB4.out.2.2.1 HB4.out.2.2.2.1 hd)).mono ?_; rintro e w1 ⟨rfl, hs1, hb1, hdt1⟩; rw [HE.out] at hs1 ⊢
         have HS1 := Lib.hid hs1
         have HBT := Lib.hid hb1
         have HD1 : Hid (∀ okd v bs, DataAt w okd v bs → DataAt w1 okd v bs) := fun okd v bs h => hdt1 _ _ _ (h.keep (Keeps.below HB4.out.1))
         clear hs1 hb1 hdt1 c0 hlk0)
      | fail)
    have HX1 : Hid (Blk w1 w.heap.size 27 [.pointer (some ⟨sb, 0, none⟩)] ∧ Blk w1 (w.heap.size + 1) 39 [.slice Ad d.length cd] ∧ Blk w1 (w.heap.size + 1 + 1) 39 [.slice Ao (lookL n s.L).length co]) :=
      ⟨HB4.out.2.1.but HBT.out (fun h => by have := h.2; omega), HB4.out.2.2.1.but HBT.out (fun h => by have := h.2; omega), HB4.out.2.2.2.1.but HBT.out (fun h => by have := h.2; omega)⟩
    have HSG : Hid (w.heap.size ≤ w1.heap.size ∧ w.heap.size + 4 ≤ w1.heap.size) := by
      have := HBT.out.size
      have := HB4.out.2.2.2.2.2
      exact ⟨by omega, by omega⟩
    obtain ⟨fm1, pm1, am1, cv1, hbk, hfm, hpm, ham, hrow, hoks, hne⟩ := HS1.out.out
    have hfm' : FMap w1 _ fm1 s.L := hfm
    have c0 : w1.cell? ⟨sb, 0, none⟩ = some (.map (some fm1)) := hbk.cell 0
    obtain ⟨u, hu⟩ : ∃ u, szL s.L = u := ⟨_, rfl⟩
    have c2 : w1.cell? ⟨sb, 2, none⟩ = some (.int .i64 (u : Nat)) := hu ▸ hbk.cell 2
    have cf : w1.frozen? ⟨sb, 2, none⟩ = false := hbk.frozen 2
    have c3 : w1.cell? ⟨w.heap.size, 0, none⟩ = some (.pointer (some ⟨sb, 0, none⟩)) := HX1.out.1.cell 0
    have c4 : w1.cell? ⟨w.heap.size + 1, 0, none⟩ = some (.slice Ad d.length cd) := HX1.out.2.1.cell 0
    have c5 : w1.cell? ⟨w.heap.size + 1 + 1, 0, none⟩ = some (.slice Ao (lookL n s.L).length co) := HX1.out.2.2.cell 0
    have hfit := lkW_ok (askE_ok HE.out).2
    have hadd := szBut_add (n := n) HG.out.rises
    have hput := szL_putL (n := n) (d := d) HG.out.rises
    obtain ⟨t, ht⟩ : ∃ t, szL (putL n d s.L) = t := ⟨_, rfl⟩
    rw [hu] at hadd
    rw [ht] at hput
    have hr1 := HG.out.room1
    have hfi := HG.out.fits
    rw [hu] at hfi
    have hw1 : IntKind.i64.wrap ((d.length : Int) - ((lookL n s.L).length : Int)) = (d.length : Int) - ((lookL n s.L).length : Int) := IntWalk.i64_in _ (by omega)
    have hw2 : IntKind.i64.wrap ((u : Int) + ((d.length : Int) - ((lookL n s.L).length : Int))) = (t : Int) := by rw [IntWalk.i64_in _ (by omega)]; omega
    have HDL : Hid (d.length ≤ 16777216) := by show _ ≤ _; omega
    have HTT := Lib.hid ht
    have nsb : No5 w1 (some sb) := No5.blk hbk (by decide)
    have fsb : fm1 ≠ sb := hfm.ne hbk
    have HK : Hid (But (fun k => k = sb) w1 (w1.setCell ⟨sb, 2, none⟩ (.int .i64 (t : Nat))).drew) := (But.of_grown (grown_setCell w1 _ _) fun k e => by cases e; rfl).trans2 (But.of_below (Below.refl _ _).drew)
    have HM2 : Hid (FMap (w1.setCell ⟨sb, 2, none⟩ (.int .i64 (t : Nat))).drew (fun k => (ok k ∧ k < w.heap.size) ∨ ((((w.alloc (.cells #[.pointer (some ⟨sb, 0, none⟩)] 27)).alloc (.cells #[.slice Ad d.length cd] 39)).alloc (.cells #[.slice Ao (lookL n s.L).length co] 39)).alloc (.cells #[.bool b] 4)).heap.size ≤ k) fm1 s.L) := hfm'.but HK.out fsb (fun b hb => by cases hb; exact nsb)
    have HB2 : Hid (Blk (w1.setCell ⟨sb, 2, none⟩ (.int .i64 (t : Nat))).drew sb 84 [.map (some fm1), .int .i64 s.room, .int .i64 (t : Nat), .map (some pm1), .map (some am1), cv1]) := hbk.setCell 2 _
    have HX2 : Hid (Blk (w1.setCell ⟨sb, 2, none⟩ (.int .i64 (t : Nat))).drew w.heap.size 27 [.pointer (some ⟨sb, 0, none⟩)] ∧ Blk (w1.setCell ⟨sb, 2, none⟩ (.int .i64 (t : Nat))).drew (w.heap.size + 1) 39 [.slice Ad d.length cd]) := ⟨HX1.out.1.but HK.out (HX1.out.1.ne hbk (by decide)), HX1.out.2.1.but HK.out (HX1.out.2.1.ne hbk (by decide))⟩
    have hsbok : ok sb ∨ w.heap.size ≤ sb := hoks.1.imp (fun h => h.1) fun h => by have := HB4.out.2.2.2.2.2; omega
    have HC2 : Hid (Kd.C (Kd.int .u8) (w1.setCell ⟨sb, 2, none⟩ (.int .i64 (t : Nat))).drew Ad d.length d) :=
      HD.out _ (But.old (((But.of_below HB4.out.1).trans2 (HBT.out.imp fun k hk => .inl hk.1)).trans2 (HK.out.imp fun k hk => by cases hk; exact hsbok))) fun okd v bs h => (HD1.out okd v bs h).but HK.out fun b hb => by cases hb; exact nsb
    have HEND : Hid (∀ w5 w6, Below (w1.setCell ⟨sb, 2, none⟩ (.int .i64 (t : Nat))).drew.heap.size (w1.setCell ⟨sb, 2, none⟩ (.int .i64 (t : Nat))).drew w5 → FMap w6 (fun k => (ok k ∧ k < w.heap.size) ∨ ((((w.alloc (.cells #[.pointer (some ⟨sb, 0, none⟩)] 27)).alloc (.cells #[.slice Ad d.length cd] 39)).alloc (.cells #[.slice Ao (lookL n s.L).length co] 39)).alloc (.cells #[.bool b] 4)).heap.size ≤ k) fm1 (putL n d s.L) → w5.mapTurned w6 fm1 →
        ShelfAt w6 (fun k => (ok k ∧ k < w.heap.size) ∨ ((((w.alloc (.cells #[.pointer (some ⟨sb, 0, none⟩)] 27)).alloc (.cells #[.slice Ad d.length cd] 39)).alloc (.cells #[.slice Ao (lookL n s.L).length co] 39)).alloc (.cells #[.bool b] 4)).heap.size ≤ k) sb { s.note 2 n 0 with L := putL n d s.L } ∧ But (fun k => k = sb ∨ k = fm1) w1 w6) := fun w5 w6 hb hf6 ht6 =>
      store_end (s := s.note 2 n 0) (L' := putL n d s.L) hbk hfm hpm ham hrow hoks hne (w2 := w5) (HK.out.trans2 (But.of_below hb)) (by rw [ht]; exact HB2.out.below hb HB2.out.lt) hf6 ht6
    have HOK : Hid (∀ k, (k = sb ∨ k = fm1) → ok k ∨ w.heap.size ≤ k) := fun k hk => by
      have hsz := HB4.out.2.2.2.2.2
      have q : ∀ k, ((ok k ∧ k < w.heap.size) ∨ ((((w.alloc (.cells #[.pointer (some ⟨sb, 0, none⟩)] 27)).alloc (.cells #[.slice Ad d.length cd] 39)).alloc (.cells #[.slice Ao (lookL n s.L).length co] 39)).alloc (.cells #[.bool b] 4)).heap.size ≤ k) → ok k ∨ w.heap.size ≤ k := fun k h => h.imp (fun h => h.1) fun h => by omega
      rcases hk with rfl | rfl
      · exact q _ hoks.1
      · exact q _ hoks.2.1
    have HN5 : Hid (∀ b, (b = sb ∨ b = fm1) → No5 w1 (some b)) := fun b hb => by
      rcases hb with rfl | rfl
      · exact nsb
      · exact hfm.no5
    have HRI : Hid (Rises s.L ∧ s.L.length < maxLen) := ⟨HG.out.rises, by have := HG.out.few; simp only [maxLen]; omega⟩
    clear hsbok hbk hfm hfm' hpm ham hrow hoks hne nsb fsb hfit hadd hput hr1 hfi ht
    go_region
    clear c0 c2 c3 c4 c5 cf hw1 hw2
    generalize (w1.setCell ⟨sb, 2, none⟩ (.int .i64 (t : Nat))).drew = w2 at *
    have c0 : w2.cell? ⟨sb, 0, none⟩ = some (.map (some fm1)) := HB2.out.cell 0
    have c3 : w2.cell? ⟨w.heap.size, 0, none⟩ = some (.pointer (some ⟨sb, 0, none⟩)) := HX2.out.1.cell 0
    have c4 : w2.cell? ⟨w.heap.size + 1, 0, none⟩ = some (.slice Ad d.length cd) := HX2.out.2.cell 0
    go_wp2
    go_region_held3 (fun w' => w'.cell? ⟨sb, 0, none⟩ = some (.map (some fm1)) ∧ w'.cell? ⟨w.heap.size, 0, none⟩ = some (.pointer (some ⟨sb, 0, none⟩)) ∧ w'.cell? ⟨w.heap.size + 1, 0, none⟩ = some (.slice Ad d.length cd))
      (first
        | with_reducible exact ⟨q0, q1, q2⟩
        | with_reducible exact ⟨p0, p1, p2⟩
        | go_keep)
      (first
        | (go_at_call 32; refine (fresh.calls Ad cd d _ (Kd.C_below HC2.out (Below.refl _ w2).drew) (by have := HDL.out; omega)).mono ?_; rintro e w5 ⟨v5, rfl, hdat, hbl⟩
           have HB5 : Hid (Below w2.heap.size w2 w5) := (Below.refl _ w2).drew.trans hbl
           have p0 := Below.cellS HB5.out c0
           have p1 := Below.cellS HB5.out c3
           have p2 := Below.cellS HB5.out c4
           have HM5 : Hid (FMap w5 (fun k => (ok k ∧ k < w.heap.size) ∨ ((((w.alloc (.cells #[.pointer (some ⟨sb, 0, none⟩)] 27)).alloc (.cells #[.slice Ad d.length cd] 39)).alloc (.cells #[.slice Ao (lookL n s.L).length co] 39)).alloc (.cells #[.bool b] 4)).heap.size ≤ k) fm1 s.L) := HM2.out.below HB5.out
           obtain ⟨Av, cw, rfl, _, _⟩ := hdat.slice
           obtain ⟨w6, hrun6, hfm6, htu6⟩ := HM5.out.store HRI.out.1 HRI.out.2 hn (hdat.mono fun k hk => .inr (by
             have z1 := HB4.out.2.2.2.2.2
             have z2 := HSG.out.2
             have z3 := HK.out.size
             have z4 : w2.heap.size ≤ k := hk
             omega))
           have hne1 : ¬ sb = fm1 := fun e => HM5.out.ne (HB2.out.below HB5.out HB2.out.lt) e.symm
           have hne2 : ¬ w.heap.size = fm1 := fun e => HM5.out.ne (HX2.out.1.below HB5.out HX2.out.1.lt) e.symm
           have hne3 : ¬ w.heap.size + 1 = fm1 := fun e => HM5.out.ne (HX2.out.2.below HB5.out HX2.out.2.lt) e.symm
           have q0 := but_cell (mapTurned_but htu6) p0 hne1
           have q1 := but_cell (mapTurned_but htu6) p1 hne2
           have q2 := but_cell (mapTurned_but htu6) p2 hne3
           have HF6 := Lib.hid (HEND.out w5 w6 HB5.out hfm6 htu6)
           clear hdat hbl hfm6 htu6 hne1 hne2 hne3))
    rename _ ∧ _ ∧ _ => hHeld
    clear hHeld c0 c3 c4 p0 p1 p2 q0 q1 q2 hrun6
    have ht := told.calls 0 w6
    go_wp2_with (first
      | (go_at_call 40; refine ht.mono ?_; rintro e w7 ⟨rfl, rfl⟩)
      | fail)
    go_ret
    refine ⟨by rw [HE.out]; rfl, ?_, But.old (((But.of_below HB4.out.1).trans2 (HBT.out.imp fun k hk => .inl hk.1)).trans2 (HF6.out.2.imp HOK.out)), fun okd v bs h => (HD1.out okd v bs h).but HF6.out.2 HN5.out⟩
    have hrem : s.wr n d = { s.note 2 n 0 with L := putL n d s.L } := by rw [Sh.wr, HE.out, if_pos rfl]
    rw [hrem]
    exact HF6.out.1.mono fun k hk => hk.imp (fun h => h.1) fun h => by have := HB4.out.2.2.2.2.2; omega
  · have e1 : (E == 0) = false := by simpa using h0
    have HNE := Lib.hid h0; clear h0
    go_enter Try.func18, Try.ntmps18
    go_wp2_with (first
      | (go_at_call 38; refine (ask.calls HS4.out 2 n 39 #[.pointer (some ⟨w.heap.size + 1 + 1 + 1, 0, none⟩), .pointer (some ⟨w.heap.size, 0, none⟩), .pointer (some ⟨w.heap.size + 1, 0, none⟩), .pointer (some ⟨w.heap.size + 1 + 1, 0, none⟩)] (lkW s n d) (by decide) HALL.out (enter39 _) (fun fm rest hb hf => writeLook.calls HG.out hb hf (HBB.out ▸ HB4.out.2.2.2.2.1) HB4.out.2.1 HB4.out.2.2.1 HB4.out.2.2.2.1 hd)).mono ?_; rintro e w1 ⟨rfl, hs1, hb1, hdt1⟩; rw [HE.out] at hs1 ⊢
         have HS1 := Lib.hid hs1
         have HBT := Lib.hid hb1
         have HT := Lib.hid (told.calls E w1)
         have HDT := Lib.hid hdt1
         clear hs1 hb1 hdt1 c0 hlk0)
      | (go_at_call 40; refine HT.out.mono ?_; rintro e w4 ⟨rfl, rfl⟩; rw [if_neg HNE.out])
      | fail)
    go_ret
    refine ⟨by rw [HE.out, errV, if_neg HNE.out]; rfl, ?_, (But.of_below HB4.out.1).trans2 (HBT.out.imp fun k hk => hk.1), fun okd v bs h => HDT.out okd v bs (h.keep (Keeps.below HB4.out.1))⟩
    have hrem : s.wr n d = s.note 2 n E := by rw [Sh.wr, HE.out, if_neg HNE.out]; rfl
    rw [hrem]
    exact HS1.out.mono fun k hk => hk.imp (fun h => h.1) fun h => by have := HB4.out.2.2.2.2.2; omega
end Go.Proofs.Ytplknppmaepinaa.S
/- The book's Number: the number of an error. -/
namespace Go.Proofs.Ytplknppmaepinaa.S
open Go Go.RowKit Go.X Go.Proofs.YtplknppmaepinaaW.PrintWords Go.Proofs.Ytplknppmaepinaa.F
set_option maxRecDepth 100000 in
set_option maxHeartbeats 2000000 in
theorem number.calls (e : Int) (h : 0 ≤ e ∧ e < 400) (w : World) : Calls Try.prog 35 #[errV e] w fun r w' => r = .returned (.int .i64 e) ∧ w' = w := by
  by_cases h0 : e = 0
  · subst h0
    have hu46 := Try.underlying46
    have hn : ∀ W : World, (binOp .eql 46 .nilIface .nilIface).run Try.prog W = .ok (.bool true) W := fun W => by kernel_rfl
    show Calls Try.prog 35 #[.nilIface] w _
    go_enter Try.func35, Try.ntmps35
    go_wp2
    go_ret
    exact ⟨rfl, rfl⟩
  · have hv : errV e = .iface 42 (.int .i64 e) := if_neg h0
    rw [hv]
    have hn : ∀ W : World, (binOp .eql 46 (.iface 42 (.int .i64 e)) .nilIface).run Try.prog W = .ok (.bool false) W := fun W => by kernel_rfl
    have HE : Hid (1 ≤ e ∧ e < 400) := ⟨by omega, h.2⟩
    clear hv h h0
    go_enter Try.func35, Try.ntmps35
    go_wp2
    go_loopg [3, 4] 399 (fun q f v wr => ∃ k : Nat, q + k = 399 ∧ v = .int .i64 ((k : Int) + 1) ∧ f = .int .i64 (if e ≤ k then e else -1) ∧ wr = w)
    case atStart => exact ⟨0, by omega, rfl, by have := HE.out.1; rw [if_neg (by simp; omega)], rfl⟩
    case round =>
      obtain ⟨k, hk, rfl, rfl, rfl⟩ := hrel
      by_cases hlt : k < 399
      · have hk0 : (k : Int) + 1 < 400 := by omega
        have hkw : wrap64 ((k : Int) + 1 + 1) = ((k + 1 : Nat) : Int) + 1 := by rw [IntWalk.wrap64_in _ (by omega)]; omega
        have hc := errIs.calls e ((k : Int) + 1) wr
        by_cases he : e = (k : Int) + 1
        · have hb : (e == (k : Int) + 1) = true := by simpa using he
          rw [hb] at hc
          rw [if_neg (by omega)]
          have HH := Lib.hid he
          have HC := Lib.hid hc
          clear he hb hc
          go_wp2_with (first
            | (go_at_call 59; refine HC.out.mono ?_; rintro r w' ⟨rfl, rfl⟩)
            | fail)
          go_roundg (399 - (k + 1))
          case measure => clear hkw; omega
          case rel => exact ⟨k + 1, by clear hkw; omega, by first | rfl | rw [hkw], by have := HH.out; rw [if_pos (by omega), this], rfl⟩
        · have hb : (e == (k : Int) + 1) = false := by simpa using he
          rw [hb] at hc
          have hf : (if e ≤ ((k + 1 : Nat) : Int) then e else -1) = if e ≤ (k : Int) then e else -1 := by
            by_cases h1 : e ≤ (k : Int)
            · rw [if_pos h1, if_pos (by omega)]
            · rw [if_neg h1, if_neg (by omega)]
          obtain ⟨y, hy⟩ : ∃ y, (if e ≤ (k : Int) then e else -1) = y := ⟨_, rfl⟩
          rw [hy] at hf ⊢
          have HF := Lib.hid hf
          have HC := Lib.hid hc
          clear he hb hc hf hy
          go_wp2_with (first
            | (go_at_call 59; refine HC.out.mono ?_; rintro r w' ⟨rfl, rfl⟩)
            | fail)
          go_roundg (399 - (k + 1))
          case measure => clear hkw; omega
          case rel => exact ⟨k + 1, by clear hkw; omega, by first | rfl | rw [hkw], by rw [HF.out], rfl⟩
      · obtain rfl : k = 399 := by omega
        rw [if_pos (by have := HE.out.2; omega)]
        go_wp2
        go_ret
        exact ⟨rfl, rfl⟩
end Go.Proofs.Ytplknppmaepinaa.S
/- What a shelf keeps: names rise and are names, few files, all within the room. -/
namespace Go.Proofs.Ytplknppmaepinaa.S
open Go Go.RowKit Go.X Go.Proofs.YtplknppmaepinaaW.PrintWords Go.Proofs.Ytplknppmaepinaa.F

theorem Good.note {s : Sh} (h : Good s) (c : Int) (n : ByteArray) (e : Int) : Good (s.note c n e) := ⟨h.rises, h.names, h.few, h.fits, h.room0, h.room1⟩
theorem Good.rem {s : Sh} (h : Good s) (n : ByteArray) : Good (s.rem n) := by
  unfold Sh.rem
  by_cases h0 : askE s 3 n (lkE s n) = 0
  · rw [if_pos h0]
    have hin := lkE_ok (askE_ok h0).2
    have h1 := length_delL hin
    have h2 := szL_delL (n := n) (L := s.L)
    have h3 := h.few
    have h4 := h.fits
    exact ⟨h.rises.del, fun f hf => h.names f (mem_delL hf), by show (delL n s.L).length ≤ 64; omega, by show (szL (delL n s.L) : Int) ≤ s.room; omega, h.room0, h.room1⟩
  · rw [if_neg h0]
    exact h.note 3 n _
theorem lkW_few {s : Sh} {n : ByteArray} {d : List Int} (h : lkW s n d = 0) : ¬ (hasN s.L n = false ∧ s.L.length = 64) := by
  unfold lkW at h
  split at h
  · cases h
  · rename_i h0
    exact fun h => h0 (.inl h)
theorem Good.wr {s : Sh} (h : Good s) (n : ByteArray) (d : List Int) : Good (s.wr n d) := by
  unfold Sh.wr
  by_cases h0 : askE s 2 n (lkW s n d) = 0
  · rw [if_pos h0]
    obtain ⟨hn, hl⟩ := askE_ok h0
    have h1 := length_putL (n := n) (d := d) h.rises
    have h2 := szL_putL (n := n) (d := d) h.rises
    have h3 := h.few
    have h4 := lkW_ok hl
    have h5 := lkW_few hl
    refine ⟨h.rises.put, fun f hf => ?_, ?_, ?_, h.room0, h.room1⟩
    · rcases mem_putL hf with e | hf
      · rw [e]; exact hn
      · exact h.names f hf
    · show (putL n d s.L).length ≤ 64
      cases hh : hasN s.L n
      · rw [hh] at h1 h5
        simp at h1 h5
        omega
      · rw [hh] at h1
        simp at h1
        omega
    · show (szL (putL n d s.L) : Int) ≤ s.room
      omega
  · rw [if_neg h0]
    exact h.note 2 n _
end Go.Proofs.Ytplknppmaepinaa.S
/- The law's total: the bytes of files whose names rise. -/
namespace Go.Proofs.Ytplknppmaepinaa.S
open Go Go.RowKit Go.X Go.Proofs.YtplknppmaepinaaW.PrintWords Go.Proofs.Ytplknppmaepinaa.F

theorem szL_take {L : List S73} {i : Nat} {f : S73} (h : L[i]? = some f) : szL (L.take (i + 1)) = szL (L.take i) + f.f1.length := by
  rw [take_next h]
  have : ∀ (xs : List S73) (g : S73), szL (xs ++ [g]) = szL xs + g.f1.length := fun xs g => by
    induction xs with
    | nil => simp [szL]
    | cons x r ih => simp only [List.cons_append, szL, ih]; omega
  exact this _ _
theorem total_l0 {L : List S73} (hr : Rises L) (hl : L.length ≤ 1000000) (hs : szL L ≤ 1000000000) : ∀ (k i : Nat), L.length < k + i → i ≤ L.length → dowellaw01_total.l0 k L (szL (L.take i) : Int) true (i : Int) = some ((szL L : Int), true)
  | 0, i, hk, hi => by omega
  | k + 1, i, hk, hi => by
    unfold dowellaw01_total.l0
    by_cases hlt : i < L.length
    · have hf : L[i]? = some L[i] := List.getElem?_eq_getElem hlt
      have e : rd_T73 L (i : Int) = L[i] := by simp [rd_T73, List.getD_eq_getElem?_getD, List.getElem?_eq_getElem hlt]
      have ih := total_l0 hr hl hs k (i + 1) (by omega) (by omega)
      rw [szL_take hf] at ih
      have hle : szL (L.take i) + L[i].f1.length ≤ szL L := by
        have h1 := szL_take hf
        have h2 : ∀ (xs ys : List S73), szL (xs ++ ys) = szL xs + szL ys := fun xs ys => by
          induction xs with
          | nil => simp [szL]
          | cons x r ih => simp only [List.cons_append, szL, ih]; omega
        have h3 := h2 (L.take (i + 1)) (L.drop (i + 1))
        rw [List.take_append_drop] at h3
        omega
      have w1 : wrap64 (((szL (L.take i) : Nat) : Int) + (L[i].f1.length : Int)) = ((szL (L.take i) + L[i].f1.length : Nat) : Int) := by rw [wrap_in (by omega) (by omega)]; omega
      have w2 : wrap64 ((i : Int) + 1) = ((i + 1 : Nat) : Int) := by rw [wrap_in (by omega) (by omega)]; omega
      rw [if_pos (by omega), if_pos (by omega), if_pos rfl, e, w1, w2]
      by_cases h0 : i = 0
      · subst h0
        rw [if_pos (by simp)]
        exact ih
      · obtain ⟨j, rfl⟩ : ∃ j, i = j + 1 := ⟨i - 1, by omega⟩
        have w3 : wrap64 (((j + 1 : Nat) : Int) - 1) = (j : Int) := by rw [wrap_in (by omega) (by omega)]; omega
        have hj : j < L.length := by omega
        have ej : rd_T73 L (j : Int) = L[j] := by simp [rd_T73, List.getD_eq_getElem?_getD, List.getElem?_eq_getElem hj]
        have hlt2 : ky L[j].f0 < ky L[j + 1].f0 := List.pairwise_iff_getElem.1 hr j (j + 1) hj hlt (by omega)
        rw [if_neg (by omega), w3, if_pos (by omega), if_pos (by omega), ej, less_ky, decide_eq_true hlt2]
        exact ih
    · obtain rfl : i = L.length := by omega
      rw [if_neg (by omega), List.take_length]
theorem total_f {L : List S73} (hr : Rises L) (hl : L.length ≤ 1000000) (hs : szL L ≤ 1000000000) : dowellaw01_total.f (L.length + 1) L = some ((szL L : Int), true) := by
  have := total_l0 hr hl hs (L.length + 1) 0 (by omega) (by omega)
  simpa [dowellaw01_total.f, szL] using this
end Go.Proofs.Ytplknppmaepinaa.S
/- A step of a script, in plain Lean: what it leaves, what it answers. -/
namespace Go.Proofs.Ytplknppmaepinaa.S
open Go Go.RowKit Go.X Go.Proofs.YtplknppmaepinaaW.PrintWords Go.Proofs.Ytplknppmaepinaa.F

/-- The answer's number. -/
def opE (s : Sh) (o : S41) : Int := if o.f0 = 1 then askE s 1 o.f1 (lkE s o.f1) else if o.f0 = 2 then askE s 2 o.f1 (lkW s o.f1 o.f2) else if o.f0 = 3 then askE s 3 o.f1 (lkE s o.f1) else 0
/-- The shelf behind it. -/
def opS (s : Sh) (o : S41) : Sh := if o.f0 = 1 then s.note 1 o.f1 (askE s 1 o.f1 (lkE s o.f1)) else if o.f0 = 2 then s.wr o.f1 o.f2 else if o.f0 = 3 then s.rem o.f1 else s
/-- How many calls it is. -/
def opN (o : S41) : Nat := if o.f0 = 1 ∨ o.f0 = 2 ∨ o.f0 = 3 then 1 else 0
theorem opS_good {s : Sh} (h : Good s) (o : S41) : Good (opS s o) := by
  unfold opS
  split
  · exact h.note _ _ _
  · split
    · exact h.wr _ _
    · split
      · exact h.rem _
      · exact h
theorem opS_room (s : Sh) (o : S41) : (opS s o).room = s.room := by
  unfold opS
  split
  · rfl
  · split
    · rfl
    · split <;> rfl
theorem opS_all (s : Sh) (o : S41) : (opS s o).all.length = s.all.length + opN o := by
  unfold opS opN
  by_cases h1 : o.f0 = 1
  · rw [if_pos h1, if_pos (.inl h1)]
    simp [Sh.note]
  · rw [if_neg h1]
    by_cases h2 : o.f0 = 2
    · rw [if_pos h2, if_pos (.inr (.inl h2))]
      simp [Sh.wr, Sh.note]
    · rw [if_neg h2]
      by_cases h3 : o.f0 = 3
      · rw [if_pos h3, if_pos (.inr (.inr h3))]
        simp [Sh.rem, Sh.note]
      · rw [if_neg h3, if_neg (fun h => h.elim h1 fun h => h.elim h2 h3)]
        simp
theorem opS_same {s : Sh} {o : S41} (h : o.f0 = 1 ∨ opE s o ≠ 0) : (opS s o).L = s.L := by
  unfold opS
  by_cases h1 : o.f0 = 1
  · rw [if_pos h1]
    rfl
  · rw [if_neg h1]
    have h := h.resolve_left h1
    unfold opE at h
    rw [if_neg h1] at h
    by_cases h2 : o.f0 = 2
    · rw [if_pos h2] at h ⊢
      show (if askE s 2 o.f1 (lkW s o.f1 o.f2) = 0 then putL o.f1 o.f2 s.L else s.L) = _
      rw [if_neg h]
    · rw [if_neg h2] at h ⊢
      by_cases h3 : o.f0 = 3
      · rw [if_pos h3] at h ⊢
        show (if askE s 3 o.f1 (lkE s o.f1) = 0 then delL o.f1 s.L else s.L) = _
        rw [if_neg h]
      · rw [if_neg h3]
end Go.Proofs.Ytplknppmaepinaa.S
/- The law's works: a file is written, read, told and removed. -/
namespace Go.Proofs.Ytplknppmaepinaa.S
open Go Go.RowKit Go.X Go.Maps Go.Proofs.YtplknppmaepinaaW.PrintWords Go.Proofs.Ytplknppmaepinaa.F
set_option maxRecDepth 100000
def nA : ByteArray := ⟨#[97]⟩
def nB : ByteArray := ⟨#[98]⟩
def wFs : List S73 := [⟨nA, [120, 121, 122]⟩]
def wPs : List S76 := [⟨1, 2, 12⟩]
def wS0 : Sh := newS wFs 9 wPs
def wS1 : Sh := wS0.note 1 nA 0
def wS2 : Sh := wS1.note 1 nA 12
def wS3 : Sh := wS2.wr nB [49, 50]
def wS4 : Sh := wS3.rem nA
theorem w_new : newE wFs 9 wPs = 0 := by kernel_rfl
theorem w_read1 : askE wS0 1 nA (lkE wS0 nA) = 0 := by kernel_rfl
theorem w_look1 : lookL nA wS0.L = [120, 121, 122] := by kernel_rfl
theorem w_read2 : askE wS1 1 nA (lkE wS1 nA) = 12 := by kernel_rfl
theorem w_write : askE wS2 2 nB (lkW wS2 nB [49, 50]) = 0 := by kernel_rfl
theorem w_rem : askE wS3 3 nA (lkE wS3 nA) = 0 := by kernel_rfl
theorem w_len : wS3.L = [⟨nA, [120, 121, 122]⟩, ⟨nB, [49, 50]⟩] := by kernel_rfl
theorem w_left : wS3.room - (szL wS3.L : Int) = 4 := by kernel_rfl
theorem w_calls : wS4.all.length = 4 := by kernel_rfl

/-- Bytes of a constant: their row bears the run-time's mark; its cells read as ever. -/
theorem C_mark {w : World} {b : Nat} {bs : List Int} {fr : Nat × Nat} (h : w.heap[b]? = some (.cells (nums .u8 bs).toArray 5 fr)) (hm : bs.length ≤ 9223372036854775807) : Kd.C (Kd.int .u8) w (some ⟨b, 0, none⟩) bs.length bs := by
  refine ⟨rfl, hm, fun _ => ⟨_, rfl, fun j p hj => ⟨[.int .u8 p], rfl, rfl, fun i u hu => ?_⟩⟩⟩
  cases i with
  | succ i => simp at hu
  | zero =>
    simp at hu
    subst hu
    have e : w.cell? ⟨b, j, none⟩ = (nums .u8 bs)[j]? := by simp [World.cell?, h]
    rw [add_plain]
    have e2 : (⟨b, j * (Kd.int .u8).sz + 0, none⟩ : Addr) = ⟨b, j, none⟩ := by
      show (⟨b, j * 1 + 0, none⟩ : Addr) = _
      simp
    rw [e2, e]
    simp [nums, hj]
def abc (w : World) : World := ((w.alloc (.cells #[.int .u8 120, .int .u8 121, .int .u8 122] 5 (3, 4))).alloc (.cells #[.string nA, .slice (some ⟨w.heap.size, 0, none⟩) 3 3] 73)).alloc (.cells #[.int .i64 1, .int .i64 2, .int .i64 12] 76)
/-- What works makes first: three bytes, a file, a trouble. -/
theorem works_made (w : World) : Below w.heap.size w (abc w) ∧ Kd.C k73 (abc w) (some ⟨w.heap.size + 1, 0, none⟩) wFs.length wFs ∧ Kd.C k76 (abc w) (some ⟨w.heap.size + 1 + 1, 0, none⟩) wPs.length wPs := by
  have e1 : (w.alloc (.cells #[.int .u8 120, .int .u8 121, .int .u8 122] 5 (3, 4))).heap.size = w.heap.size + 1 := by simp
  have e2 : ((w.alloc (.cells #[.int .u8 120, .int .u8 121, .int .u8 122] 5 (3, 4))).alloc (.cells #[.string nA, .slice (some ⟨w.heap.size, 0, none⟩) 3 3] 73)).heap.size = w.heap.size + 1 + 1 := by simp
  have k0 := heap_alloc_new w (.cells #[.int .u8 120, .int .u8 121, .int .u8 122] 5 (3, 4))
  have k1 := Blk.alloc (w.alloc (.cells #[.int .u8 120, .int .u8 121, .int .u8 122] 5 (3, 4))) #[.string nA, .slice (some ⟨w.heap.size, 0, none⟩) 3 3] 73
  have k2 := Blk.alloc ((w.alloc (.cells #[.int .u8 120, .int .u8 121, .int .u8 122] 5 (3, 4))).alloc (.cells #[.string nA, .slice (some ⟨w.heap.size, 0, none⟩) 3 3] 73)) #[.int .i64 1, .int .i64 2, .int .i64 12] 76
  rw [e1] at k1
  rw [e2] at k2
  have b1 := (Below.refl _ (w.alloc (.cells #[.int .u8 120, .int .u8 121, .int .u8 122] 5 (3, 4)))).alloc (Nat.le_refl _) (.cells #[.string nA, .slice (some ⟨w.heap.size, 0, none⟩) 3 3] 73)
  have b2 := (Below.refl _ ((w.alloc (.cells #[.int .u8 120, .int .u8 121, .int .u8 122] 5 (3, 4))).alloc (.cells #[.string nA, .slice (some ⟨w.heap.size, 0, none⟩) 3 3] 73))).alloc (Nat.le_refl _) (.cells #[.int .i64 1, .int .i64 2, .int .i64 12] 76)
  have j0 : (abc w).heap[w.heap.size]? = some (.cells (nums .u8 [120, 121, 122]).toArray 5 (3, 4)) := (b2.block _ (by rw [e2]; omega)).trans ((b1.block _ (by rw [e1]; omega)).trans k0)
  have j1 := k1.below b2 k1.lt
  refine ⟨(((Below.refl _ w).alloc (Nat.le_refl _) _).alloc (by simp) _).alloc (by simp; omega) _, C_of_blk (cs := [.string nA, .slice (some ⟨w.heap.size, 0, none⟩) 3 3]) (rest := []) j1 ⟨rfl, fun j f hj => ?_⟩ (by decide), C_of_blk (cs := troubleCells wPs) (rest := []) k2 (troubleCells_reps _ wPs) (by decide)⟩
  cases j with
  | succ j => simp [wFs] at hj
  | zero =>
    simp [wFs] at hj
    subst hj
    exact k73_mk (abc w) ⟨nA, [120, 121, 122]⟩ (A1 := some ⟨w.heap.size, 0, none⟩) (c1 := 3) (by decide) (C_mark j0 (by decide))
theorem data_abc {w : World} {ok : Nat → Prop} {A : Option Addr} {c : Nat} (h : DataAt w ok (.slice A 3 c) [120, 121, 122]) : (convert 39 9 (.slice A 3 c)).run Try.prog w = .ok (.string ⟨#[120, 121, 122]⟩) w := by
  rcases h with ⟨h, _⟩ | ⟨g, c', rest, e, _, _, _, hb⟩
  · cases h
  · cases e
    refine run_convert_bytes_back (P := Try.prog) w 39 9 5 ⟨g, 0, none⟩ c [120, 121, 122] Try.underlying39 Try.underlying5 Try.underlying9 fun j hj => ?_
    rw [Addr.add_mid, Nat.zero_add, hb.cell]
    match j, hj with
    | 0, _ => rfl
    | 1, _ => rfl
    | 2, _ => rfl
    | j + 3, h => simp at h; omega
set_option maxHeartbeats 8000000 in
theorem works.calls (w : World) : Calls Try.prog 16 #[] w fun e w' => e = .returned (.bool true) ∧ Below w.heap.size w w' := by
  have HM := Lib.hid (works_made w)
  have hG0 : Good wS0 := newS_good w_new
  have HG := Lib.hid (show Good wS0 ∧ Good wS1 ∧ Good wS2 ∧ Good wS3 ∧ Good wS4 from ⟨hG0, hG0.note _ _ _, (hG0.note _ _ _).note _ _ _, ((hG0.note _ _ _).note _ _ _).wr _ _, (((hG0.note _ _ _).note _ _ _).wr _ _).rem _⟩)
  clear hG0
  have hz : errV 0 = .nilIface := rfl
  have hnB : nB.toList = [98] := by rw [ByteArray.toList_eq]; rfl
  have hnn : ∀ W : World, (binOp .eql 46 .nilIface .nilIface).run Try.prog W = .ok (.bool true) W := fun W => by kernel_rfl
  have hcv := fun (w : World) (C : Array Value) (n c : Nat) => Go.Lib.run_convert_bytes_const (P := Try.prog) w 39 5 C n c Try.underlying39 Try.underlying5
  go_enter Try.func16, Try.ntmps16
  go_wp2_with (first
    | (go_at_call 17; refine (new.calls (some ⟨w.heap.size + 1, 0, none⟩) (some ⟨w.heap.size + 1 + 1, 0, none⟩) 1 1 wFs wPs 9 _ HM.out.2.1 HM.out.2.2 (by decide) (by decide) (by decide) (by decide) (by decide)).mono ?_; rintro e w1 hpost
       obtain ⟨hb1, sp, rfl, hsp, hsh⟩ := hpost.told
       obtain ⟨sb, rfl, hs⟩ := hsh w_new
       rw [w_new]
       have HB1 : Hid (Below w.heap.size w w1) := HM.out.1.trans (hb1.mono HM.out.1.size)
       have HS1 : Hid (ShelfAt w1 (fun k => w.heap.size ≤ k) sb wS0) := hs.mono fun k hk => Nat.le_trans HM.out.1.size hk
       clear hpost hb1 hsp hsh hs)
    | (go_at_call 20; refine (read.calls HS1.out HG.out.1 nA (by decide) (by decide)).mono ?_; rintro e w2 ⟨v2, rfl, hd2, hs2, hb2, -⟩
       rw [w_read1] at hd2 hs2 ⊢
       rw [if_pos rfl, w_look1] at hd2
       have HB2 : Hid (Below w.heap.size w w2) := HB1.out.trans (hb2.below (fun k hk => hk) HB1.out.size)
       have HS2 : Hid (ShelfAt w2 (fun k => w.heap.size ≤ k) sb wS1) := hs2.mono fun k hk => hk.elim id fun h => Nat.le_trans HB1.out.size h
       have HD2 : Hid (DataAt w2 (fun _ => True) v2 [120, 121, 122]) := hd2.mono fun _ _ => trivial
       obtain ⟨A2, c2, rfl, _, _⟩ := hd2.slice
       clear hd2 hs2 hb2)
    | (go_at_call 20; refine (read.calls HS2.out HG.out.2.1 nA (by decide) (by decide)).mono ?_; rintro e w3 ⟨v3, rfl, hd3, hs3, hb3, ht3⟩
       rw [w_read2] at hs3 ⊢
       have HB3 : Hid (Below w.heap.size w w3) := HB2.out.trans (hb3.below (fun k hk => hk) HB2.out.size)
       have HS3 : Hid (ShelfAt w3 (fun k => w.heap.size ≤ k) sb wS2) := hs3.mono fun k hk => hk.elim id fun h => Nat.le_trans HB2.out.size h
       have HS3b : Hid (ShelfAt (w3.alloc (.cells #[.int .u8 49, .int .u8 50] 5 (2, 3))) (fun k => w.heap.size ≤ k ∧ k < w3.heap.size) sb wS2) := HS3.out.bound.keep (Keeps.below ((Below.refl _ w3).alloc (Nat.le_refl _) _))
       have HK3 : Hid (∀ W, But (fun k => w.heap.size ≤ k ∧ k < w3.heap.size) (w3.alloc (.cells #[.int .u8 49, .int .u8 50] 5 (2, 3))) W → (∀ okd v bs, DataAt (w3.alloc (.cells #[.int .u8 49, .int .u8 50] 5 (2, 3))) okd v bs → DataAt W okd v bs) → Kd.C (Kd.int .u8) W (some ⟨w3.heap.size, 0, none⟩) [49, 50].length [49, 50]) := fun W hW _ =>
         C_mark (bs := [49, 50]) ((hW.block w3.heap.size (by simp) (fun h => by have := h.2; omega)).trans (heap_alloc_new w3 _)) (by decide)
       have HD3 : Hid (DataAt w3 (fun _ => True) (.slice A2 3 c2) [120, 121, 122]) := ht3 _ _ _ HD2.out
       clear hd3 hs3 hb3 ht3)
    | (go_at_call 18; refine (write.calls HS3b.out HG.out.2.2.1 nB (by decide) (by decide) (some ⟨w3.heap.size, 0, none⟩) 2 [49, 50] HK3.out (by decide)).mono ?_; rintro e w4 ⟨rfl, hs4, hb4, ht4⟩
       rw [w_write]
       have HB3b : Hid (Below w.heap.size w (w3.alloc (.cells #[.int .u8 49, .int .u8 50] 5 (2, 3)))) := HB3.out.alloc HB3.out.size _
       have HB4 : Hid (Below w.heap.size w w4) := HB3b.out.trans (hb4.below (fun k hk => hk.1) HB3b.out.size)
       have HS4 : Hid (ShelfAt w4 (fun k => w.heap.size ≤ k) sb wS3) := hs4.mono fun k hk => hk.elim (fun h => h.1) fun h => Nat.le_trans HB3b.out.size h
       have HD4 : Hid (DataAt w4 (fun _ => True) (.slice A2 3 c2) [120, 121, 122]) := ht4 _ _ _ (HD3.out.keep (Keeps.below ((Below.refl _ w3).alloc (Nat.le_refl _) _)))
       clear hs4 hb4 ht4)
    | (go_at_call 11; refine (files.calls HS4.out HG.out.2.2.2.1).mono ?_; rintro e w5 ⟨v5, rfl, hf5, hb5⟩
       have HB5 : Hid (Below w.heap.size w w5) := HB4.out.trans (hb5.mono HB4.out.size)
       have HS5 : Hid (ShelfAt w5 (fun k => w.heap.size ≤ k) sb wS3) := HS4.out.keep (Keeps.below hb5)
       obtain ⟨A5, c5, rfl, _, hC5⟩ := hf5.slice
       obtain ⟨g5, rfl⟩ : ∃ g5, A5 = some ⟨g5, 0, none⟩ := by
         obtain ⟨_, cs5, _, how5⟩ := hf5
         rcases how5.2 with ⟨h, h0⟩ | ⟨g5, cap, cur, h, _⟩
         · rw [w_len] at h0; cases h0
         · cases h; exact ⟨g5, rfl⟩
       rw [w_len] at hC5 ⊢
       obtain ⟨ad, _, _, e5, hx0, _⟩ := fs_at hC5 (i := 1) (f := ⟨nB, [49, 50]⟩) rfl
       cases e5
       have hx1 : w5.cell? ⟨g5, 2, none⟩ = some (.string nB) := hx0
       clear hx0
       have hst := data_abc (HD4.out.keep (Keeps.below hb5))
       clear hf5 hb5 hC5)
    | (go_at_call 35; refine (number.calls 12 (by decide) w5).mono ?_; rintro e w6 ⟨rfl, rfl⟩)
    | (go_at_call 13; refine (left.calls HS5.out HG.out.2.2.2.1).mono ?_; rintro e w6 ⟨rfl, hd6⟩; rw [w_left]
       have HB6 : Hid (Below w.heap.size w w6) := HB5.out.trans (hd6.below.mono HB5.out.size)
       have HS6 : Hid (ShelfAt w6 (fun k => w.heap.size ≤ k) sb wS3) := HS5.out.keep (Keeps.below hd6.below)
       clear hd6)
    | (go_at_call 19; refine (remove.calls HS6.out HG.out.2.2.2.1 nA (by decide) (by decide)).mono ?_; rintro e w7 ⟨rfl, hs7, hb7, -⟩
       rw [w_rem]
       have HB7 : Hid (Below w.heap.size w w7) := HB6.out.trans (hb7.below (fun k hk => hk) HB6.out.size)
       have HS7 : Hid (ShelfAt w7 (fun k => w.heap.size ≤ k) sb wS4) := hs7.mono fun k hk => hk.elim id fun h => Nat.le_trans HB6.out.size h
       clear hs7 hb7)
    | (go_at_call 15; refine (calls.calls HS7.out (by decide)).mono ?_; rintro e w8 ⟨v8, rfl, hr8, hb8⟩
       obtain ⟨A8, c8, rfl⟩ := own_slice hr8
       have HB8 : Hid (Below w.heap.size w w8) := HB7.out.trans (hb8.mono HB7.out.size)
       rw [w_calls]
       clear hr8 hb8)
    | fail)
  go_ret
  exact ⟨rfl, HB8.out⟩
end Go.Proofs.Ytplknppmaepinaa.S
/- ShelfMakes: the walk. -/
namespace Go.Proofs.Ytplknppmaepinaa.S
open Go Go.RowKit Go.X Go.Maps Go.Proofs.YtplknppmaepinaaW.PrintWords Go.Proofs.Ytplknppmaepinaa.F
set_option maxRecDepth 100000

theorem FilesAt.same {w w' : World} {ok ok' : Nat → Prop} {v u : Value} {L : List S73} (h : FilesAt w ok v L) (h' : FilesAt w' ok' u L) (hb : Below w.heap.size w w') (hl : L.length ≤ 67108864) (hm : ∀ f ∈ L, f.f1.length ≤ 67108864) :
    Calls Try.prog 10 #[v, u] w' fun e w'' => e = .returned (.bool true) ∧ Drawn0 w' w'' := by
  obtain ⟨A, c, rfl, k1, k2⟩ := h.slice
  obtain ⟨A', c', rfl, k3, k4⟩ := h'.slice
  exact dowellaw01_sameFiles.calls (L.length + 67108864 + 2) A c L A' c' L true w' (Kd.C_below k2 hb) k1 k4 k3 (same_f L 67108864 (by omega) hm (by omega))
end Go.Proofs.Ytplknppmaepinaa.S
/- Single operations, run. -/
namespace Go.Proofs.Ytplknppmaepinaa.S
open Go Go.RowKit Go.X Go.Proofs.YtplknppmaepinaaW.PrintWords Go.Proofs.Ytplknppmaepinaa.F
theorem add3 {x y z : Int} {w : World} (h : IntKind.i64.wrap (x + y) = z) : (binOp .add 3 (.int .i64 x) (.int .i64 y)).run Try.prog w = .ok (.int .i64 z) w := by
  rw [show (binOp .add 3 (.int .i64 x) (.int .i64 y)).run Try.prog w = .ok (.int .i64 (IntKind.i64.wrap (x + y))) w from by go_simp, h]
theorem lss3 {x y : Int} {b : Bool} {w : World} (h : decide (x < y) = b) : (binOp .lss 3 (.int .i64 x) (.int .i64 y)).run Try.prog w = .ok (.bool b) w := by
  rw [show (binOp .lss 3 (.int .i64 x) (.int .i64 y)).run Try.prog w = .ok (.bool (decide (x < y))) w from by go_simp, h]
theorem gtr3 {x y : Int} {b : Bool} {w : World} (h : decide (y < x) = b) : (binOp .gtr 3 (.int .i64 x) (.int .i64 y)).run Try.prog w = .ok (.bool b) w := by
  rw [show (binOp .gtr 3 (.int .i64 x) (.int .i64 y)).run Try.prog w = .ok (.bool (decide (y < x))) w from by go_simp, h]
theorem neq3 {x y : Int} {b : Bool} {w : World} (h : (x != y) = b) : (binOp .neq 3 (.int .i64 x) (.int .i64 y)).run Try.prog w = .ok (.bool b) w := by
  rw [show (binOp .neq 3 (.int .i64 x) (.int .i64 y)).run Try.prog w = .ok (.bool (x != y)) w from by go_simp, h]
end Go.Proofs.Ytplknppmaepinaa.S
