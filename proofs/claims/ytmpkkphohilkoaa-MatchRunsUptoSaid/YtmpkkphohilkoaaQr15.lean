/- Texts joined and shortened (wip/tools/shrink.py): MKept, MLawB, MRunsLaw. -/
import Derived.Test.YtmpkkphohilkoaaQr14
import Derived.Test.YtmpkkphohilkoaaQr11
/- dowelbook.KeptCore of a core grammar as it was lent: true; nothing old is written. Cores, Outcomes of what is alike. -/
namespace Go.Proofs.Ytmpkkphohilkoaa.B
open Go Go.RowKit Go.X Go.Ma Go.Proofs.YtmpkkphohilkoaaW.PrintWords Go.Proofs.Ytmpkkphohilkoaa.F
set_option linter.unusedSimpArgs false

theorem bodies_l0 (xs : List S55) (hl : xs.length ≤ 1048576) : ∀ (d k i : Nat), xs.length - i = d → d < k → i ≤ xs.length → dowelbook_CoreBodies.l0 k xs xs i = some true
  | 0, k, i, hd, hk, hi => by
    obtain ⟨k, rfl⟩ : ∃ m, k = m + 1 := ⟨k - 1, by omega⟩
    rw [dowelbook_CoreBodies.l0, if_neg (by omega)]
  | d + 1, k, i, hd, hk, hi => by
    obtain ⟨k, rfl⟩ : ∃ m, k = m + 1 := ⟨k - 1, by omega⟩
    have hw : wrap64 ((i : Int) + 1) = ((i + 1 : Nat) : Int) := by rw [IntWalk.wrap64_in _ (by omega)]; rfl
    rw [dowelbook_CoreBodies.l0, if_pos (by omega), if_pos (by omega), if_pos (by omega), if_neg (by simp), hw]
    exact bodies_l0 xs hl d k (i + 1) (by omega) (by omega) (by omega)
theorem bodies_f (xs : List S55) (hl : xs.length ≤ 1048576) (k : Nat) (hk : xs.length < k) : dowelbook_CoreBodies.f k xs xs = some true := by
  unfold dowelbook_CoreBodies.f
  rw [if_pos rfl]
  exact bodies_l0 xs hl xs.length k 0 rfl hk (Nat.zero_le _)
theorem cores_l0 (rs : List S45) (st : Int) (hl : rs.length ≤ 1048576) (B : Nat) (hb : ∀ i, i < rs.length → (cr rs i).f1.length ≤ 1048576 ∧ (cr rs i).f1.length ≤ B) : ∀ (d k i : Nat), rs.length - i = d → d + B < k → i ≤ rs.length → dowelbook_Cores.l0 k i rs st rs st = some true
  | 0, k, i, hd, hk, hi => by
    obtain ⟨k, rfl⟩ : ∃ m, k = m + 1 := ⟨k - 1, by omega⟩
    rw [dowelbook_Cores.l0, if_neg (by omega)]
  | d + 1, k, i, hd, hk, hi => by
    obtain ⟨k, rfl⟩ : ∃ m, k = m + 1 := ⟨k - 1, by omega⟩
    have hw : wrap64 ((i : Int) + 1) = ((i + 1 : Nat) : Int) := by rw [IntWalk.wrap64_in _ (by omega)]; rfl
    have hbi := hb i (by omega)
    rw [dowelbook_Cores.l0, if_pos (by omega), if_pos (by omega), if_pos (by omega), if_pos rfl, rd_cr, bodies_f _ hbi.1 _ (by omega), Option.bind_some, if_pos rfl, hw]
    exact cores_l0 rs st hl B hb d k (i + 1) (by omega) (by omega) (by omega)
theorem cores_f (rs : List S45) (st : Int) (hl : rs.length ≤ 1048576) (hb : ∀ x ∈ rs, x.f1.length ≤ 1048576) (k : Nat) (hk : rs.length + 1048577 < k) : dowelbook_Cores.f k rs st rs st = some true := by
  obtain ⟨k, rfl⟩ : ∃ m, k = m + 1 := ⟨k - 1, by omega⟩
  unfold dowelbook_Cores.f
  rw [if_pos rfl, dowelbook_Cores.j0, if_neg (by simp)]
  exact cores_l0 rs st hl 1048576 (fun i hi => ⟨hb _ (cr_mem hi), hb _ (cr_mem hi)⟩) rs.length k 0 rfl (by omega) (Nat.zero_le _)
theorem caps_l0 (xs : List S63) (hl : xs.length ≤ 4000000) : ∀ (d k i : Nat), xs.length - i = d → d < k → i ≤ xs.length → dowelbook_Captures.l0 k xs xs i = some true
  | 0, k, i, hd, hk, hi => by
    obtain ⟨k, rfl⟩ : ∃ m, k = m + 1 := ⟨k - 1, by omega⟩
    rw [dowelbook_Captures.l0, if_neg (by omega)]
  | d + 1, k, i, hd, hk, hi => by
    obtain ⟨k, rfl⟩ : ∃ m, k = m + 1 := ⟨k - 1, by omega⟩
    have hw : wrap64 ((i : Int) + 1) = ((i + 1 : Nat) : Int) := by rw [IntWalk.wrap64_in _ (by omega)]; rfl
    rw [dowelbook_Captures.l0, if_pos (by omega), if_pos (by omega), if_pos (by omega), if_neg (by simp), hw]
    exact caps_l0 xs hl d k (i + 1) (by omega) (by omega) (by omega)
theorem outcomes_f (a b : Int) (s : ByteArray) (xs : List S63) (hl : xs.length ≤ 4000000) (k : Nat) (hk : xs.length < k) : dowelbook_Outcomes.f k a b s xs a b s xs = some true := by
  unfold dowelbook_Outcomes.f dowelbook_Captures.f
  have := caps_l0 xs hl xs.length k 0 rfl hk (Nat.zero_le _)
  rw [show ((0 : Nat) : Int) = 0 from rfl] at this
  rw [if_pos rfl, if_pos rfl, if_pos rfl, if_pos rfl, this]
  rfl
/-- Two outcomes that are alike, in memory. -/
theorem outcomes.calls (A1 A2 : Option Addr) (c1 c2 : Nat) (k : Int) (en : Nat) (lb : ByteArray) (F : List Cap) (b1 b2 : Nat) (w : World) (h1 : OwnF w b1 (.slice A1 F.length c1) F) (h2 : OwnF w b2 (.slice A2 F.length c2) F) (hm : F.length ≤ 4000000) :
    Calls Try.prog 10 #[.agg #[.int .i64 k, .int .i64 (en : Nat), .string lb, .slice A1 F.length c1], .agg #[.int .i64 k, .int .i64 (en : Nat), .string lb, .slice A2 F.length c2]] w fun e w' => e = .returned (.bool true) ∧ Below w.heap.size w w' := by
  have cap_le : ∀ {A : Option Addr} {c b : Nat}, OwnF w b (.slice A F.length c) F → F.length ≤ c := fun h => by
    rcases h.2 with ⟨e, h0⟩ | ⟨g, cap, cur, e, _, _, h4, _⟩
    · injection e with e1 e2 e3; omega
    · injection e with e1 e2 e3; omega
  have e : (F.map toS).length = F.length := List.length_map _
  have := dowelbook_Outcomes.calls 4000001 k en lb A1 c1 (F.map toS) k en lb A2 c2 (F.map toS) true w (by rw [e]; have := caps_C h1 hm; rwa [e] at this) (by rw [e]; exact cap_le h1) (by rw [e]; have := caps_C h2 hm; rwa [e] at this) (by rw [e]; exact cap_le h2) (outcomes_f k en lb _ (by rw [e]; exact hm) _ (by rw [e]; omega))
  rw [e] at this
  exact this
theorem rowsTo_get (rs : List S45) (P : Nat → Nat) (n i j : Nat) (h : i < n) (hj : j < 2) (r : List Value) : (rowsTo rs P n ++ r)[i * 2 + j]? = (ruleAt (cr rs i) (P i))[j]? := by
  rw [List.getElem?_append_left (by rw [rowsTo_length]; omega)]
  induction n with
  | zero => omega
  | succ n ih =>
    rw [rowsTo]
    by_cases hi : i < n
    · rw [List.getElem?_append_left (by rw [rowsTo_length]; omega)]
      exact ih hi
    · obtain rfl : i = n := by omega
      rw [List.getElem?_append_right (by rw [rowsTo_length]; omega), rowsTo_length, Nat.add_sub_cancel_left]
theorem Reps_rows {w : World} {base : Nat} {rs : List S45} {P : Nat → Nat} {N : Nat} (h : RulesIn w base rs P N) (hb : ∀ i, i < N → (cr rs i).f1.length ≤ 1048576) : ∀ n, n ≤ N → n ≤ rs.length → Reps (k45.K w) k45.sz (rs.take n) (rowsTo rs P n)
  | 0, _, _ => Reps.none _ _
  | n + 1, hn, hl => by
    rw [List.take_succ_eq_append_getElem (by omega), rowsTo]
    obtain ⟨_, a3, _⟩ := h n (by omega)
    have hbn := hb n (by omega)
    have e : rs[n]'(by omega) = cr rs n := by rw [cr, List.getD_eq_getElem?_getD, List.getElem?_eq_getElem (by omega)]; rfl
    rw [e]
    exact (Reps_rows h hb n (by omega) (by omega)).snoc (k45_mk w (cr rs n) (by omega) (Lent.C a3 (by omega))) rfl
/-- A lent core grammar is read as what it was made of. -/
theorem CoreAt.C {w : World} {base br : Nat} {rs : List S45} {P : Nat → Nat} (h : CoreAt w base br rs P) (hl : rs.length ≤ 1048576) (hb : ∀ x ∈ rs, x.f1.length ≤ 1048576) : Kd.C k45 w (some ⟨br, 0, none⟩) rs.length rs := by
  have := Reps_rows h.rules (fun i hi => hb _ (cr_mem hi)) rs.length (Nat.le_refl _) (Nat.le_refl _)
  rw [List.take_length] at this
  exact C_of_blk h.rows this (by omega)
/-- Within KeptCore. -/
structure KH (w wr : World) (br : Nat) (Ar : Option Addr) (c n : Nat) (s1 s2 : Int) : Prop where
  bel : Below w.heap.size w wr
  b0 : Blk wr w.heap.size 24 [.slice (some ⟨br, 0, none⟩) n (n + 1), .int .i64 s1]
  b1 : Blk wr (w.heap.size + 1) 24 [.slice Ar n c, .int .i64 s2]
theorem KH.below {w wr w' : World} {br : Nat} {Ar : Option Addr} {c n : Nat} {s1 s2 : Int} (h : KH w wr br Ar c n s1 s2) (hb : Below wr.heap.size wr w') : KH w w' br Ar c n s1 s2 :=
  ⟨h.bel.trans (hb.mono h.bel.size), h.b0.below hb h.b0.lt, h.b1.below hb h.b1.lt⟩
set_option maxRecDepth 100000 in
set_option maxHeartbeats 4000000 in
theorem KeptCore.calls (br base : Nat) (P : Nat → Nat) (Ar : Option Addr) (c : Nat) (start : Int) (rs : List S45) (w : World) (hg : CoreAt w base br rs P) (hr : Kd.C k45 w Ar rs.length rs) (hc : rs.length ≤ c) (mr : rs.length ≤ 1048576) (mb : ∀ x ∈ rs, x.f1.length ≤ 1048576) :
    Calls Try.prog 11 #[.agg #[.slice (some ⟨br, 0, none⟩) rs.length (rs.length + 1), .int .i64 start], .agg #[.slice Ar rs.length c, .int .i64 start]] w fun e w' => e = .returned (.bool true) ∧ Below w.heap.size w w' := by
  have HG := Lib.hid hg; clear hg
  have HR := Lib.hid hr; clear hr
  have HC := Lib.hid hc; clear hc
  have HMR := Lib.hid mr; clear mr
  have HMB := Lib.hid mb; clear mb
  go_enter Try.func11, Try.ntmps11
  go_wp2
  have HB : Hid (KH w ((w.alloc (.cells #[.slice (some ⟨br, 0, none⟩) rs.length (rs.length + 1), .int .i64 start] 24)).alloc (.cells #[.slice Ar rs.length c, .int .i64 start] 24)) br Ar c rs.length start start) :=
    ⟨((Below.refl _ w).alloc (Nat.le_refl _) _).alloc (by simp) _, (Blk.alloc w _ _).grown (World.grownBy_alloc _ _ none) (by simp), by have := Blk.alloc (w.alloc (.cells #[.slice (some ⟨br, 0, none⟩) rs.length (rs.length + 1), .int .i64 start] 24)) #[.slice Ar rs.length c, .int .i64 start] 24; simpa using this⟩
  generalize (w.alloc (.cells #[.slice (some ⟨br, 0, none⟩) rs.length (rs.length + 1), .int .i64 start] 24)).alloc (.cells #[.slice Ar rs.length c, .int .i64 start] 24) = wa at *
  have a0 : wa.cell? ⟨w.heap.size, 0, none⟩ = some (.slice (some ⟨br, 0, none⟩) rs.length (rs.length + 1)) := HB.out.b0.cell 0
  have a1 : wa.cell? ⟨w.heap.size, 1, none⟩ = some (.int .i64 start) := HB.out.b0.cell 1
  have b0 : wa.cell? ⟨w.heap.size + 1, 0, none⟩ = some (.slice Ar rs.length c) := HB.out.b1.cell 0
  have b1 : wa.cell? ⟨w.heap.size + 1, 1, none⟩ = some (.int .i64 start) := HB.out.b1.cell 1
  have HG' : Hid (CoreAt wa base br rs P) := HG.out.below HB.out.bel
  have h1 : wa.cell? ⟨br, rs.length * 2, none⟩ = some (.string holder) := by
    rw [HG'.out.rows.cell, List.getElem?_append_right (by rw [rowsTo_length]; omega), rowsTo_length, Nat.sub_self]; rfl
  have HBD : Hid (Below wa.heap.size wa wa.drew) := (Below.refl _ _).drew
  have s2 : IntKind.i64.wrap ((rs.length : Int) + 1) = (rs.length : Int) + 1 := IntWalk.i64_in _ (by have := HMR.out; omega)
  have p2 : (0 : Int) ≤ (rs.length : Int) + 1 := by omega
  have p4 : (rs.length : Int) < (rs.length : Int) + 1 := by omega
  have t2 : ((rs.length : Int) + 1).toNat = rs.length + 1 := by omega
  have hq : (holder.toList == [45, 104, 111, 108, 100, 101, 114, 45]) = true := by decide +kernel
  go_region_held3 (fun w' => w'.cell? ⟨w.heap.size, 0, none⟩ = some (.slice (some ⟨br, 0, none⟩) rs.length (rs.length + 1)) ∧ w'.cell? ⟨w.heap.size, 1, none⟩ = some (.int .i64 start) ∧ w'.cell? ⟨w.heap.size + 1, 0, none⟩ = some (.slice Ar rs.length c) ∧ w'.cell? ⟨w.heap.size + 1, 1, none⟩ = some (.int .i64 start) ∧ w'.cell? ⟨br, rs.length * 2, none⟩ = some (.string holder))
    (first
      | with_reducible exact ⟨Below.cell_some hbk.out a0, Below.cell_some hbk.out a1, Below.cell_some hbk.out b0, Below.cell_some hbk.out b1, Below.cell_some hbk.out h1⟩
      | go_keep)
    (first
      | (go_at_call 23; refine (dowelbook_Cores.calls (rs.length + 1048578) _ _ rs start _ _ rs start true _ (Kd.C_below (HG'.out.C HMR.out HMB.out) HBD.out) (by omega) (Kd.C_below HR.out (HB.out.bel.trans (HBD.out.mono HB.out.bel.size))) HC.out (cores_f rs start HMR.out HMB.out _ (by omega))).mono ?_; rintro e w5 ⟨rfl, hbl⟩
         have hbk : Hid (Below wa.heap.size wa w5) := HBD.out.trans hbl
         clear hbl))
  have HB5 : Hid (KH w w5 br Ar c rs.length start start) := HB.out.below hbk.out
  have HG5 : Hid (CoreAt w5 base br rs P) := HG'.out.below hbk.out
  clear s2 p2 p4 t2 a0 a1 b0 b1 h1 HB HG' HBD hbk
  go_wp2
  go_loopg [5] rs.length (fun q v wr => ∃ k : Nat, q + k = rs.length ∧ v = .int .i64 k ∧ Hid (KH w wr br Ar c rs.length start start ∧ CoreAt wr base br rs P))
  case atStart => exact ⟨0, by simp, rfl, HB5.out, HG5.out⟩
  case round =>
    clear HB5 HG5
    rename World => wo
    obtain ⟨k, hk, rfl, HW⟩ := hrel
    have b0 : wo.cell? ⟨w.heap.size + 1, 0, none⟩ = some (.slice Ar rs.length c) := HW.out.1.b1.cell 0
    by_cases hlt : k < rs.length
    · have a0 : wo.cell? ⟨w.heap.size, 0, none⟩ = some (.slice (some ⟨br, 0, none⟩) rs.length (rs.length + 1)) := HW.out.1.b0.cell 0
      obtain ⟨ad, A1, c1, eA, e0, e1, l1, g1⟩ := cr_at (Kd.C_below HR.out HW.out.1.bel) k hlt
      subst eA
      clear l1 g1 e0
      obtain ⟨_, u3, _⟩ := HW.out.2.rules k hlt
      have m1 : wo.cell? ⟨br, k * 2 + 1, none⟩ = some (.slice (some ⟨P k, 0, none⟩) (cr rs k).f1.length ((cr rs k).f1.length + 1)) := by
        rw [HW.out.2.rows.cell, rowsTo_get rs P _ k 1 hlt (by omega)]; rfl
      have m3 : wo.cell? ⟨P k, (cr rs k).f1.length * 7, none⟩ = some (.int .i64 (-77)) := Lent.hold u3 0 rfl
      have HX := Lib.hid (HMB.out _ (cr_mem hlt))
      generalize cr rs k = x at *
      have k0 : (0 : Int) ≤ (k : Int) := by omega
      have k1 : (k : Int) < (rs.length : Int) := by omega
      have q1 : IntKind.i64.wrap ((x.f1.length : Int) + 1) = (x.f1.length : Int) + 1 := IntWalk.i64_in _ (by have := HX.out; omega)
      have p1 : (0 : Int) ≤ (x.f1.length : Int) + 1 := by omega
      have t1 : ((x.f1.length : Int) + 1).toNat = x.f1.length + 1 := by omega
      go_wp2
      go_quiet (fail)
      clear q1 p1 t1
      have r1 : wrap64 (x.f1.length : Int) = (x.f1.length : Int) := IntWalk.wrap64_in _ (by have := HX.out; omega)
      go_wp2
      go_roundg (rs.length - (k + 1))
      case measure => omega
      case rel => exact ⟨k + 1, by clear r1; omega, by rw [IntWalk.wrap64_in _ (by clear r1; have := HMR.out; omega)]; rfl, HW.out.1.below (Below.drewQ ⟨_, rfl⟩), HW.out.2.below (Below.drewQ ⟨_, rfl⟩)⟩
    · go_wp2
      go_ret
      exact ⟨rfl, HW.out.1.bel⟩
end Go.Proofs.Ytmpkkphohilkoaa.B
/- What the laws of chapter 14 go on with: their boxes, what was lent, the answers that are kept. -/
namespace Go.Proofs.Ytmpkkphohilkoaa.B
open Go Go.RowKit Go.X Go.Ma Go.Proofs.YtmpkkphohilkoaaW.PrintWords Go.Proofs.Ytmpkkphohilkoaa.F

theorem eqA32 (d : Nat) (w : World) (x0 y0 : Int) (x1 y1 : Int) :
    (Op.equalIn (d + 2) 32 (.agg #[.int .i64 x0, .int .i64 x1]) (.agg #[.int .i64 y0, .int .i64 y1])).run Try.prog w = .ok (x0 == y0 && (x1 == y1)) w := by
  refine eqA_of Try.underlying32 (by kernel_rfl) ?_
  refine eqf_cons (by rfl) (by go_simp; rfl) (by go_simp; rfl) (by go_simp) ?_
  exact eqf_last (by rfl) (by go_simp; rfl) (by go_simp; rfl) (by go_simp)
/-- The law's boxes. -/
structure LB (w wk : World) (Ar : Option Addr) (n c : Nat) (start D S : Int) : Prop where
  bel : Below w.heap.size w wk
  b0 : Blk wk w.heap.size 24 [.slice Ar n c, .int .i64 start]
  b1 : Blk wk (w.heap.size + 1) 26 [.int .i64 D, .int .i64 S]
theorem LB.start (w : World) (Ar : Option Addr) (n c : Nat) (start D S : Int) : LB w ((w.alloc (.cells #[.slice Ar n c, .int .i64 start] 24)).alloc (.cells #[.int .i64 D, .int .i64 S] 26)) Ar n c start D S :=
  ⟨((Below.refl _ w).alloc (Nat.le_refl _) _).alloc (by simp) _, (Blk.alloc w _ _).grown (World.grownBy_alloc _ _ none) (by simp), by have := Blk.alloc (w.alloc (.cells #[.slice Ar n c, .int .i64 start] 24)) #[.int .i64 D, .int .i64 S] 26; simpa using this⟩
theorem LB.below {w wk w' : World} {Ar : Option Addr} {n c : Nat} {start D S : Int} (h : LB w wk Ar n c start D S) (hb : Below wk.heap.size wk w') : LB w w' Ar n c start D S :=
  ⟨h.bel.trans (hb.mono h.bel.size), h.b0.below hb h.b0.lt, h.b1.below hb h.b1.lt⟩
/-- What was lent, and its box. -/
structure OB (wk : World) (ob lo br : Nat) (start : Int) (rs : List S45) (P : Nat → Nat) : Prop where
  box : Blk wk ob 24 [.slice (some ⟨br, 0, none⟩) rs.length (rs.length + 1), .int .i64 start]
  core : CoreAt wk lo br rs P
theorem OB.below {wk w' : World} {ob lo br : Nat} {start : Int} {rs : List S45} {P : Nat → Nat} (h : OB wk ob lo br start rs P) (hb : Below wk.heap.size wk w') : OB w' ob lo br start rs P := ⟨h.box.below hb h.box.lt, h.core.below hb⟩
theorem OB.start {wk : World} {lo br : Nat} {start : Int} {rs : List S45} {P : Nat → Nat} (h : CoreAt wk lo br rs P) : OB (wk.alloc (.cells #[.slice (some ⟨br, 0, none⟩) rs.length (rs.length + 1), .int .i64 start] 24)) wk.heap.size lo br start rs P :=
  ⟨Blk.alloc wk _ _, h.below ((Below.refl _ _).alloc (Nat.le_refl _) _)⟩
/-- An answer that is kept. -/
structure KA (wk : World) (b lo hi : Nat) (k : Int) (en : Nat) (lb : ByteArray) (v : Value) (dp st : Nat) (F : List Cap) : Prop where
  c : Blk wk b 31 (rsC k en lb v)
  u : Blk wk (b + 1) 32 [.int .i64 (dp : Nat), .int .i64 (st : Nat)]
  own : OwnF wk lo v F
  hi : ∀ q, v.ownBlock = some q → q < hi
theorem KA.below {wk w' : World} {b lo hi : Nat} {k : Int} {en : Nat} {lb : ByteArray} {v : Value} {dp st : Nat} {F : List Cap} (h : KA wk b lo hi k en lb v dp st F) (hb : Below wk.heap.size wk w') : KA w' b lo hi k en lb v dp st F :=
  ⟨h.c.below hb h.c.lt, h.u.below hb h.u.lt, h.own.more (Go.X.grown_of_below hb none), h.hi⟩
def two (w : World) (k : Int) (en : Nat) (lb : ByteArray) (v : Value) (dp st : Nat) : World := (w.alloc (.cells #[.int .i64 k, .int .i64 (en : Nat), .string lb, v] 31)).alloc (.cells #[.int .i64 (dp : Nat), .int .i64 (st : Nat)] 32)
theorem two_below (w : World) (k : Int) (en : Nat) (lb : ByteArray) (v : Value) (dp st : Nat) : Below w.heap.size w (two w k en lb v dp st) := ((Below.refl _ w).alloc (Nat.le_refl _) _).alloc (by simp) _
theorem KA.start {w : World} {lo : Nat} {k : Int} {en : Nat} {lb : ByteArray} {v : Value} {dp st : Nat} {F : List Cap} (h : OwnF w lo v F) : KA (two w k en lb v dp st) w.heap.size lo w.heap.size k en lb v dp st F := by
  refine ⟨(Blk.alloc w _ _).grown (World.grownBy_alloc _ _ none) (by simp), ?_, h.more (Go.X.grown_of_below (two_below w k en lb v dp st) none), fun q hq => (World.ownsRow.lt h q hq).2⟩
  have := Blk.alloc (w.alloc (.cells #[.int .i64 k, .int .i64 (en : Nat), .string lb, v] 31)) #[.int .i64 (dp : Nat), .int .i64 (st : Nat)] 32
  simpa [two] using this
theorem RunAns.at {x : Res × St} {k : Int} {en : Nat} {lb : ByteArray} {F : List Cap} {t st dp : Nat} {er : Int} (h1 : ansRes x = ⟨k, en, lb, F, t⟩) (h2 : ansSt x = ⟨st, dp, er⟩) {w w' : World} {e : Ending} (h : RunAns w x e w') :
    ∃ A c, e = .returned (.tuple #[.agg #[.int .i64 k, .int .i64 (en : Nat), .string lb, .slice A F.length c], .agg #[.int .i64 (dp : Nat), .int .i64 (st : Nat)], .int .i64 er]) ∧ Below w.heap.size w w' ∧ OwnF w' w.heap.size (.slice A F.length c) F := by
  obtain ⟨v, he, hb, ho⟩ := h
  rw [h1] at he ho
  rw [h2] at he
  obtain ⟨A, c, rfl⟩ := Go.X.own_slice ho
  exact ⟨A, c, he, hb, ho⟩
theorem runOf_few (rs : List S45) (inp : ByteArray) (r p : Nat) (D S : Int) : (runOf rs inp r p D S).1.forest.length ≤ 1048576 := by
  have h := ev_ok (envOf rs inp) (clamp D S) (2 * (clamp D S).steps + 1) (tre rs r) p 1 st0 (by simp only [st0]; omega)
  have h1 := h.few
  have h2 := h.max (Nat.zero_le _)
  have h3 := (clamp_le D S).2
  unfold runOf
  omega
theorem atAns_few (rs : List S45) (start rule : Int) (inp : ByteArray) (at_ D S : Int) : (ansRes (atAns rs start rule inp at_ D S)).forest.length ≤ 1048576 := by
  have hz : ∀ e : Int, (ansRes ((.zero, ⟨0, 0, e⟩) : Res × St)).forest.length ≤ 1048576 := fun e => by
    rw [ansRes]
    split <;> exact Nat.zero_le _
  unfold atAns
  split
  · split
    · split
      · split
        · rw [ansRes]
          split
          · exact runOf_few _ _ _ _ _ _
          · exact Nat.zero_le _
        · exact hz 5
      · exact hz 1
    · exact hz 5
  · exact hz 6
theorem heavy_no {rs : List S45} (h : decide (4096 < rs.length ∨ 1048576 < sz rs) = false) : rs.length ≤ 1048576 ∧ ∀ x ∈ rs, x.f1.length ≤ 1048576 := by
  have h' := of_decide_eq_false h
  exact ⟨by omega, fun x hx => by have := sz_mem hx; omega⟩
end Go.Proofs.Ytmpkkphohilkoaa.B
/- The walk of the law MatchRuns (printed by wip/tools/genlaw14.py). -/
namespace Go.Proofs.Ytmpkkphohilkoaa.B
open Go Go.RowKit Go.X Go.Ma Go.Proofs.YtmpkkphohilkoaaW.PrintWords Go.Proofs.Ytmpkkphohilkoaa.F
attribute [local go_sem high] eqA32

set_option maxRecDepth 100000 in
set_option maxHeartbeats 4000000 in
theorem MatchRuns.calls (Ar : Option Addr) (c : Nat) (start : Int) (rs : List S45) (inp : ByteArray) (D S : Int) (w : World) (hr : Kd.C k45 w Ar rs.length rs) (hc : rs.length ≤ c) (hb : ∀ x ∈ rs, x.f1.length ≤ 140737488355328 ∧ x.f0.size ≤ 140737488355328) :
    Calls Try.prog 3 #[.agg #[.slice Ar rs.length c, .int .i64 start], .string inp, .agg #[.int .i64 D, .int .i64 S]] w fun e w' => e = .returned (.bool true) ∧ Below w.heap.size w w' := by
  have HR := Lib.hid hr; clear hr
  have HC := Lib.hid hc; clear hc
  have HBB := Lib.hid hb; clear hb
  have HQL := Lib.hid (atAns_few rs start start inp 0 D S)
  obtain ⟨q1, hq1⟩ : ∃ q, ansRes (atAns rs start start inp 0 D S) = q := ⟨_, rfl⟩
  obtain ⟨q2, hq2⟩ : ∃ q, ansSt (atAns rs start start inp 0 D S) = q := ⟨_, rfl⟩
  rw [hq1] at HQL
  obtain ⟨k, en, lb, F, t⟩ := q1
  obtain ⟨st, dp, er⟩ := q2
  have HQ := Lib.hid (And.intro hq1 hq2)
  clear hq1 hq2
  have L0 := Lib.hid (LB.start w Ar rs.length c start D S)
  go_enter Try.func3, Try.ntmps3
  go_wp2_with (fail)
  generalize ((w.alloc (.cells #[.slice Ar rs.length c, .int .i64 start] 24)).alloc (.cells #[.int .i64 D, .int .i64 S] 26)) = wa at *
  refine (dowellaw14_heavy.calls 4097 Ar c rs start _ wa (Kd.C_below HR.out L0.out.bel) HC.out (heavy_f rs start (fun x hx => (HBB.out x hx).1) _ (by omega))).mono ?_
  rintro e w1 ⟨rfl, hbw⟩
  have L1 := Lib.hid (L0.out.below hbw)
  clear L0
  clear hbw
  dsimp only
  by_cases hh : decide (4096 < rs.length ∨ 1048576 < sz rs) = true
  · rw [hh]
    go_wp2
    go_ret
    exact ⟨rfl, L1.out.bel⟩
  have hh' : decide (4096 < rs.length ∨ 1048576 < sz rs) = false := by simpa using hh
  have HM := Lib.hid (heavy_no hh')
  rw [hh']
  clear hh hh'
  have a0 : w1.cell? ⟨w.heap.size, 0, none⟩ = some (.slice Ar rs.length c) := L1.out.b0.cell 0
  have a1 : w1.cell? ⟨w.heap.size, 1, none⟩ = some (.int .i64 start) := L1.out.b0.cell 1
  go_wp2_with (fail)
  clear a0 a1
  refine (LendCore.calls Ar c start rs w1 (Kd.C_below HR.out L1.out.bel) HM.out.1 HM.out.2).mono ?_
  rintro e w2 ⟨br, Q, rfl, hcore, _, hbw⟩
  have L2 := Lib.hid (L1.out.below hbw)
  clear L1
  clear hbw
  dsimp only
  have HO' : ∀ wz : World, wz = w2.alloc (.cells #[.slice (some ⟨br, 0, none⟩) rs.length (rs.length + 1), .int .i64 start] 24) → Hid (LB w wz Ar rs.length c start D S ∧ OB wz w2.heap.size w1.heap.size br start rs Q ∧ w.heap.size ≤ w2.heap.size) := by
    rintro wz rfl
    exact ⟨L2.out.below ((Below.refl _ _).alloc (Nat.le_refl _) _), OB.start hcore, L2.out.bel.size⟩
  have o0 : (w2.alloc (.cells #[.slice (some ⟨br, 0, none⟩) rs.length (rs.length + 1), .int .i64 start] 24)).cell? ⟨w2.heap.size, 0, none⟩ = some (.slice (some ⟨br, 0, none⟩) rs.length (rs.length + 1)) := (HO' _ rfl).out.2.1.box.cell 0
  have o1 : (w2.alloc (.cells #[.slice (some ⟨br, 0, none⟩) rs.length (rs.length + 1), .int .i64 start] 24)).cell? ⟨w2.heap.size, 1, none⟩ = some (.int .i64 start) := (HO' _ rfl).out.2.1.box.cell 1
  have d0 : (w2.alloc (.cells #[.slice (some ⟨br, 0, none⟩) rs.length (rs.length + 1), .int .i64 start] 24)).cell? ⟨w.heap.size + 1, 0, none⟩ = some (.int .i64 D) := (HO' _ rfl).out.1.b1.cell 0
  have d1 : (w2.alloc (.cells #[.slice (some ⟨br, 0, none⟩) rs.length (rs.length + 1), .int .i64 start] 24)).cell? ⟨w.heap.size + 1, 1, none⟩ = some (.int .i64 S) := (HO' _ rfl).out.1.b1.cell 1
  clear hcore L2
  go_wp2_with (fail)
  clear o0 o1 d0 d1
  generalize hw3 : w2.alloc (.cells #[.slice (some ⟨br, 0, none⟩) rs.length (rs.length + 1), .int .i64 start] 24) = w3
  have HOO := HO' w3 hw3.symm
  clear HO' hw3
  generalize hob : w2.heap.size = ob at *
  clear hob
  have L3 := Lib.hid HOO.out.1
  have O3 := Lib.hid HOO.out.2.1
  have HOB := Lib.hid HOO.out.2.2
  clear HOO
  refine (mrun.calls (some ⟨br, 0, none⟩) (rs.length + 1) start rs inp D S w3 (O3.out.core.C HM.out.1 HM.out.2) (by omega) HBB.out).mono ?_
  rintro e w4 hans
  obtain ⟨A1, c1, rfl, hbw, hown1⟩ := RunAns.at HQ.out.1 HQ.out.2 hans
  clear hans
  have HS1 : Hid (w.heap.size ≤ w3.heap.size ∧ w3.heap.size ≤ w4.heap.size) := ⟨L3.out.bel.size, hbw.size⟩
  have L4 := Lib.hid (L3.out.below hbw)
  have O4 := Lib.hid (O3.out.below hbw)
  clear L3 O3
  clear hbw
  dsimp only
  have HK' : ∀ wz : World, wz = (w4.alloc (.cells #[.int .i64 k, .int .i64 (en : Nat), .string lb, .slice A1 F.length c1] 31)).alloc (.cells #[.int .i64 (dp : Nat), .int .i64 (st : Nat)] 32) → Hid (Below w4.heap.size w4 wz ∧ KA wz w4.heap.size w3.heap.size w4.heap.size k en lb (.slice A1 F.length c1) dp st F) := by
    rintro wz rfl
    exact ⟨two_below w4 k en lb (.slice A1 F.length c1) dp st, KA.start hown1⟩
  have o0 : ((w4.alloc (.cells #[.int .i64 k, .int .i64 (en : Nat), .string lb, .slice A1 F.length c1] 31)).alloc (.cells #[.int .i64 (dp : Nat), .int .i64 (st : Nat)] 32)).cell? ⟨ob, 0, none⟩ = some (.slice (some ⟨br, 0, none⟩) rs.length (rs.length + 1)) := (O4.out.below (HK' _ rfl).out.1).box.cell 0
  have o1 : ((w4.alloc (.cells #[.int .i64 k, .int .i64 (en : Nat), .string lb, .slice A1 F.length c1] 31)).alloc (.cells #[.int .i64 (dp : Nat), .int .i64 (st : Nat)] 32)).cell? ⟨ob, 1, none⟩ = some (.int .i64 start) := (O4.out.below (HK' _ rfl).out.1).box.cell 1
  have d0 : ((w4.alloc (.cells #[.int .i64 k, .int .i64 (en : Nat), .string lb, .slice A1 F.length c1] 31)).alloc (.cells #[.int .i64 (dp : Nat), .int .i64 (st : Nat)] 32)).cell? ⟨w.heap.size + 1, 0, none⟩ = some (.int .i64 D) := (L4.out.below (HK' _ rfl).out.1).b1.cell 0
  have d1 : ((w4.alloc (.cells #[.int .i64 k, .int .i64 (en : Nat), .string lb, .slice A1 F.length c1] 31)).alloc (.cells #[.int .i64 (dp : Nat), .int .i64 (st : Nat)] 32)).cell? ⟨w.heap.size + 1, 1, none⟩ = some (.int .i64 S) := (L4.out.below (HK' _ rfl).out.1).b1.cell 1
  go_wp2_with (fail)
  clear hown1 o0 o1 d0 d1
  generalize hw5 : (w4.alloc (.cells #[.int .i64 k, .int .i64 (en : Nat), .string lb, .slice A1 F.length c1] 31)).alloc (.cells #[.int .i64 (dp : Nat), .int .i64 (st : Nat)] 32) = w5
  have HKK := HK' w5 hw5.symm
  clear HK' hw5
  have L5 := Lib.hid (L4.out.below HKK.out.1)
  have O5 := Lib.hid (O4.out.below HKK.out.1)
  clear L4 O4
  have K15 := Lib.hid HKK.out.2
  clear HKK
  have HB1 : Hid (w.heap.size ≤ w3.heap.size ∧ w3.heap.size ≤ w4.heap.size) := HS1.out
  generalize hb1 : w4.heap.size = b1 at *
  generalize hl1 : w3.heap.size = lo1 at *
  clear hb1 hl1 HS1
  have HORD0 : Hid (b1 ≤ w5.heap.size) := Nat.le_of_lt K15.out.c.lt
  refine (mrun.calls (some ⟨br, 0, none⟩) (rs.length + 1) start rs inp D S w5 (O5.out.core.C HM.out.1 HM.out.2) (by omega) HBB.out).mono ?_
  rintro e w6 hans
  obtain ⟨A2, c2, rfl, hbw, hown2⟩ := RunAns.at HQ.out.1 HQ.out.2 hans
  clear hans
  have HS2 : Hid (w.heap.size ≤ w5.heap.size ∧ w5.heap.size ≤ w6.heap.size) := ⟨L5.out.bel.size, hbw.size⟩
  have L6 := Lib.hid (L5.out.below hbw)
  have O6 := Lib.hid (O5.out.below hbw)
  have K16 := Lib.hid (K15.out.below hbw)
  clear L5 O5 K15
  clear hbw
  dsimp only
  have HK' : ∀ wz : World, wz = (w6.alloc (.cells #[.int .i64 k, .int .i64 (en : Nat), .string lb, .slice A2 F.length c2] 31)).alloc (.cells #[.int .i64 (dp : Nat), .int .i64 (st : Nat)] 32) → Hid (Below w6.heap.size w6 wz ∧ KA wz w6.heap.size w5.heap.size w6.heap.size k en lb (.slice A2 F.length c2) dp st F) := by
    rintro wz rfl
    exact ⟨two_below w6 k en lb (.slice A2 F.length c2) dp st, KA.start hown2⟩
  have o0 : ((w6.alloc (.cells #[.int .i64 k, .int .i64 (en : Nat), .string lb, .slice A2 F.length c2] 31)).alloc (.cells #[.int .i64 (dp : Nat), .int .i64 (st : Nat)] 32)).cell? ⟨w.heap.size, 0, none⟩ = some (.slice Ar rs.length c) := (L6.out.below (HK' _ rfl).out.1).b0.cell 0
  have o1 : ((w6.alloc (.cells #[.int .i64 k, .int .i64 (en : Nat), .string lb, .slice A2 F.length c2] 31)).alloc (.cells #[.int .i64 (dp : Nat), .int .i64 (st : Nat)] 32)).cell? ⟨w.heap.size, 1, none⟩ = some (.int .i64 start) := (L6.out.below (HK' _ rfl).out.1).b0.cell 1
  have d0 : ((w6.alloc (.cells #[.int .i64 k, .int .i64 (en : Nat), .string lb, .slice A2 F.length c2] 31)).alloc (.cells #[.int .i64 (dp : Nat), .int .i64 (st : Nat)] 32)).cell? ⟨w.heap.size + 1, 0, none⟩ = some (.int .i64 D) := (L6.out.below (HK' _ rfl).out.1).b1.cell 0
  have d1 : ((w6.alloc (.cells #[.int .i64 k, .int .i64 (en : Nat), .string lb, .slice A2 F.length c2] 31)).alloc (.cells #[.int .i64 (dp : Nat), .int .i64 (st : Nat)] 32)).cell? ⟨w.heap.size + 1, 1, none⟩ = some (.int .i64 S) := (L6.out.below (HK' _ rfl).out.1).b1.cell 1
  go_wp2_with (fail)
  clear hown2 o0 o1 d0 d1
  generalize hw7 : (w6.alloc (.cells #[.int .i64 k, .int .i64 (en : Nat), .string lb, .slice A2 F.length c2] 31)).alloc (.cells #[.int .i64 (dp : Nat), .int .i64 (st : Nat)] 32) = w7
  have HKK := HK' w7 hw7.symm
  clear HK' hw7
  have L7 := Lib.hid (L6.out.below HKK.out.1)
  have O7 := Lib.hid (O6.out.below HKK.out.1)
  have K17 := Lib.hid (K16.out.below HKK.out.1)
  clear L6 O6 K16
  have K27 := Lib.hid HKK.out.2
  clear HKK
  have HB2 : Hid (w.heap.size ≤ w5.heap.size ∧ w5.heap.size ≤ w6.heap.size) := HS2.out
  have HORD : Hid (b1 ≤ w5.heap.size) := HORD0.out
  generalize hb2 : w6.heap.size = b2 at *
  generalize hl2 : w5.heap.size = lo2 at *
  clear hb2 hl2 HS2 HORD0
  refine (rrun.calls Ar c start rs inp D S w7 (Kd.C_below HR.out L7.out.bel) HC.out HBB.out).mono ?_
  rintro e w8 hans
  obtain ⟨A3, c3, rfl, hbw, hown3⟩ := RunAns.at HQ.out.1 HQ.out.2 hans
  clear hans
  have HS3 : Hid (w.heap.size ≤ w7.heap.size ∧ w7.heap.size ≤ w8.heap.size) := ⟨L7.out.bel.size, hbw.size⟩
  have L8 := Lib.hid (L7.out.below hbw)
  have O8 := Lib.hid (O7.out.below hbw)
  have K18 := Lib.hid (K17.out.below hbw)
  have K28 := Lib.hid (K27.out.below hbw)
  clear L7 O7 K17 K27
  clear hbw
  dsimp only
  have HK' : ∀ wz : World, wz = (w8.alloc (.cells #[.int .i64 k, .int .i64 (en : Nat), .string lb, .slice A3 F.length c3] 31)).alloc (.cells #[.int .i64 (dp : Nat), .int .i64 (st : Nat)] 32) → Hid (Below w8.heap.size w8 wz ∧ KA wz w8.heap.size w7.heap.size w8.heap.size k en lb (.slice A3 F.length c3) dp st F) := by
    rintro wz rfl
    exact ⟨two_below w8 k en lb (.slice A3 F.length c3) dp st, KA.start hown3⟩
  have u10 : ((w8.alloc (.cells #[.int .i64 k, .int .i64 (en : Nat), .string lb, .slice A3 F.length c3] 31)).alloc (.cells #[.int .i64 (dp : Nat), .int .i64 (st : Nat)] 32)).cell? ⟨b1 + 1, 0, none⟩ = some (.int .i64 (dp : Nat)) := (K18.out.below (HK' _ rfl).out.1).u.cell 0
  have u11 : ((w8.alloc (.cells #[.int .i64 k, .int .i64 (en : Nat), .string lb, .slice A3 F.length c3] 31)).alloc (.cells #[.int .i64 (dp : Nat), .int .i64 (st : Nat)] 32)).cell? ⟨b1 + 1, 1, none⟩ = some (.int .i64 (st : Nat)) := (K18.out.below (HK' _ rfl).out.1).u.cell 1
  have x10 : ((w8.alloc (.cells #[.int .i64 k, .int .i64 (en : Nat), .string lb, .slice A3 F.length c3] 31)).alloc (.cells #[.int .i64 (dp : Nat), .int .i64 (st : Nat)] 32)).cell? ⟨b1, 0, none⟩ = some (.int .i64 k) := (K18.out.below (HK' _ rfl).out.1).c.cell 0
  have x11 : ((w8.alloc (.cells #[.int .i64 k, .int .i64 (en : Nat), .string lb, .slice A3 F.length c3] 31)).alloc (.cells #[.int .i64 (dp : Nat), .int .i64 (st : Nat)] 32)).cell? ⟨b1, 1, none⟩ = some (.int .i64 (en : Nat)) := (K18.out.below (HK' _ rfl).out.1).c.cell 1
  have x12 : ((w8.alloc (.cells #[.int .i64 k, .int .i64 (en : Nat), .string lb, .slice A3 F.length c3] 31)).alloc (.cells #[.int .i64 (dp : Nat), .int .i64 (st : Nat)] 32)).cell? ⟨b1, 2, none⟩ = some (.string lb) := (K18.out.below (HK' _ rfl).out.1).c.cell 2
  have x13 : ((w8.alloc (.cells #[.int .i64 k, .int .i64 (en : Nat), .string lb, .slice A3 F.length c3] 31)).alloc (.cells #[.int .i64 (dp : Nat), .int .i64 (st : Nat)] 32)).cell? ⟨b1, 3, none⟩ = some (.slice A1 F.length c1) := (K18.out.below (HK' _ rfl).out.1).c.cell 3
  have u30 : ((w8.alloc (.cells #[.int .i64 k, .int .i64 (en : Nat), .string lb, .slice A3 F.length c3] 31)).alloc (.cells #[.int .i64 (dp : Nat), .int .i64 (st : Nat)] 32)).cell? ⟨w8.heap.size + 1, 0, none⟩ = some (.int .i64 (dp : Nat)) := (HK' _ rfl).out.2.u.cell 0
  have u31 : ((w8.alloc (.cells #[.int .i64 k, .int .i64 (en : Nat), .string lb, .slice A3 F.length c3] 31)).alloc (.cells #[.int .i64 (dp : Nat), .int .i64 (st : Nat)] 32)).cell? ⟨w8.heap.size + 1, 1, none⟩ = some (.int .i64 (st : Nat)) := (HK' _ rfl).out.2.u.cell 1
  have x30 : ((w8.alloc (.cells #[.int .i64 k, .int .i64 (en : Nat), .string lb, .slice A3 F.length c3] 31)).alloc (.cells #[.int .i64 (dp : Nat), .int .i64 (st : Nat)] 32)).cell? ⟨w8.heap.size, 0, none⟩ = some (.int .i64 k) := (HK' _ rfl).out.2.c.cell 0
  have x31 : ((w8.alloc (.cells #[.int .i64 k, .int .i64 (en : Nat), .string lb, .slice A3 F.length c3] 31)).alloc (.cells #[.int .i64 (dp : Nat), .int .i64 (st : Nat)] 32)).cell? ⟨w8.heap.size, 1, none⟩ = some (.int .i64 (en : Nat)) := (HK' _ rfl).out.2.c.cell 1
  have x32 : ((w8.alloc (.cells #[.int .i64 k, .int .i64 (en : Nat), .string lb, .slice A3 F.length c3] 31)).alloc (.cells #[.int .i64 (dp : Nat), .int .i64 (st : Nat)] 32)).cell? ⟨w8.heap.size, 2, none⟩ = some (.string lb) := (HK' _ rfl).out.2.c.cell 2
  have x33 : ((w8.alloc (.cells #[.int .i64 k, .int .i64 (en : Nat), .string lb, .slice A3 F.length c3] 31)).alloc (.cells #[.int .i64 (dp : Nat), .int .i64 (st : Nat)] 32)).cell? ⟨w8.heap.size, 3, none⟩ = some (.slice A3 F.length c3) := (HK' _ rfl).out.2.c.cell 3
  go_wp2_with (fail)
  clear hown3 u10 u11 x10 x11 x12 x13 u30 u31 x30 x31 x32 x33
  generalize hw9 : (w8.alloc (.cells #[.int .i64 k, .int .i64 (en : Nat), .string lb, .slice A3 F.length c3] 31)).alloc (.cells #[.int .i64 (dp : Nat), .int .i64 (st : Nat)] 32) = w9
  have HKK := HK' w9 hw9.symm
  clear HK' hw9
  have L9 := Lib.hid (L8.out.below HKK.out.1)
  have O9 := Lib.hid (O8.out.below HKK.out.1)
  have K19 := Lib.hid (K18.out.below HKK.out.1)
  have K29 := Lib.hid (K28.out.below HKK.out.1)
  clear L8 O8 K18 K28
  have K39 := Lib.hid HKK.out.2
  clear HKK
  have HB3 : Hid (w.heap.size ≤ w7.heap.size ∧ w7.heap.size ≤ w8.heap.size) := HS3.out
  generalize hb3 : w8.heap.size = b3 at *
  generalize hl3 : w7.heap.size = lo3 at *
  clear hb3 hl3 HS3
  refine (outcomes.calls A1 A3 c1 c3 k en lb F lo1 lo3 w9 K19.out.own K39.out.own (Nat.le_trans HQL.out (by decide))).mono ?_
  rintro e w10 ⟨rfl, hbw⟩
  have L10 := Lib.hid (L9.out.below hbw)
  have O10 := Lib.hid (O9.out.below hbw)
  have K110 := Lib.hid (K19.out.below hbw)
  have K210 := Lib.hid (K29.out.below hbw)
  have K310 := Lib.hid (K39.out.below hbw)
  clear L9 O9 K19 K29 K39
  clear hbw
  dsimp only
  have x20 : w10.cell? ⟨b2, 0, none⟩ = some (.int .i64 k) := K210.out.c.cell 0
  have x21 : w10.cell? ⟨b2, 1, none⟩ = some (.int .i64 (en : Nat)) := K210.out.c.cell 1
  have x22 : w10.cell? ⟨b2, 2, none⟩ = some (.string lb) := K210.out.c.cell 2
  have x23 : w10.cell? ⟨b2, 3, none⟩ = some (.slice A2 F.length c2) := K210.out.c.cell 3
  have x30 : w10.cell? ⟨b3, 0, none⟩ = some (.int .i64 k) := K310.out.c.cell 0
  have x31 : w10.cell? ⟨b3, 1, none⟩ = some (.int .i64 (en : Nat)) := K310.out.c.cell 1
  have x32 : w10.cell? ⟨b3, 2, none⟩ = some (.string lb) := K310.out.c.cell 2
  have x33 : w10.cell? ⟨b3, 3, none⟩ = some (.slice A3 F.length c3) := K310.out.c.cell 3
  go_wp2_with (fail)
  clear x20 x21 x22 x23 x30 x31 x32 x33
  refine (outcomes.calls A2 A3 c2 c3 k en lb F lo2 lo3 w10 K210.out.own K310.out.own (Nat.le_trans HQL.out (by decide))).mono ?_
  rintro e w11 ⟨rfl, hbw⟩
  have L11 := Lib.hid (L10.out.below hbw)
  have O11 := Lib.hid (O10.out.below hbw)
  have K111 := Lib.hid (K110.out.below hbw)
  have K211 := Lib.hid (K210.out.below hbw)
  have K311 := Lib.hid (K310.out.below hbw)
  clear L10 O10 K110 K210 K310
  clear hbw
  dsimp only
  have o0 : w11.cell? ⟨ob, 0, none⟩ = some (.slice (some ⟨br, 0, none⟩) rs.length (rs.length + 1)) := O11.out.box.cell 0
  have o1 : w11.cell? ⟨ob, 1, none⟩ = some (.int .i64 start) := O11.out.box.cell 1
  have a0 : w11.cell? ⟨w.heap.size, 0, none⟩ = some (.slice Ar rs.length c) := L11.out.b0.cell 0
  have a1 : w11.cell? ⟨w.heap.size, 1, none⟩ = some (.int .i64 start) := L11.out.b0.cell 1
  go_wp2_with (fail)
  clear o0 o1 a0 a1
  refine (KeptCore.calls br _ Q Ar c start rs w11 O11.out.core (Kd.C_below HR.out L11.out.bel) HC.out HM.out.1 HM.out.2).mono ?_
  rintro e w12 ⟨rfl, hbw⟩
  have L12 := Lib.hid (L11.out.below hbw)
  have O12 := Lib.hid (O11.out.below hbw)
  have K112 := Lib.hid (K111.out.below hbw)
  have K212 := Lib.hid (K211.out.below hbw)
  have K312 := Lib.hid (K311.out.below hbw)
  clear L11 O11 K111 K211 K311
  clear hbw
  dsimp only
  have x13 : w12.cell? ⟨b1, 3, none⟩ = some (.slice A1 F.length c1) := K112.out.c.cell 3
  have x23 : w12.cell? ⟨b2, 3, none⟩ = some (.slice A2 F.length c2) := K212.out.c.cell 3
  go_wp2_with (fail)
  clear x13 x23
  have hll : F.length ≤ 4000000 := Nat.le_trans HQL.out (by decide)
  have HE1 := Lib.hid (And.intro L12.out.bel (And.intro K112.out (And.intro K212.out (And.intro HB1.out (And.intro HB2.out HORD.out)))))
  have hpre : Fr.Pre (w12.alloc (.cells #[.slice A1 F.length c1, .slice A2 F.length c2] 29)) 0 63 4 [.slice A1 F.length c1, .slice A2 F.length c2] := by
    obtain ⟨_, hk1, hk2, _, _, hle⟩ := HE1.out
    have o1 : (w12.alloc (.cells #[.slice A1 F.length c1, .slice A2 F.length c2] 29)).ownsRow 0 63 4 (.slice A1 F.length c1) F.length (capsOf F) := ownsRow_low (World.ownsRow.alloc hk1.own _) (Nat.zero_le _)
    have o2 : (w12.alloc (.cells #[.slice A1 F.length c1, .slice A2 F.length c2] 29)).ownsRow 0 63 4 (.slice A2 F.length c2) F.length (capsOf F) := ownsRow_low (World.ownsRow.alloc hk2.own _) (Nat.zero_le _)
    have hne : ∀ k, (Value.slice A1 F.length c1).ownBlock = some k → (Value.slice A2 F.length c2).ownBlock ≠ some k := fun k h1 h2 => by
      have := hk1.hi k h1
      have := (World.ownsRow.lt hk2.own k h2).1
      omega
    refine ⟨fun j v hj => ?_, fun i j u v hij hu hv => ?_⟩
    · match j, hj with
      | 0, hj => obtain rfl := Option.some.inj hj; exact ⟨_, o1⟩
      | 1, hj => obtain rfl := Option.some.inj hj; exact ⟨_, o2⟩
    · match i, j, hu, hv with
      | 0, 0, _, _ => exact absurd rfl hij
      | 1, 1, _, _ => exact absurd rfl hij
      | 0, 1, hu, hv =>
        obtain rfl := Option.some.inj hu
        obtain rfl := Option.some.inj hv
        cases h : (Value.slice A1 F.length c1).ownBlock with
        | none => exact .inl rfl
        | some k => exact .inr fun e => hne k h e.symm
      | 1, 0, hu, hv =>
        obtain rfl := Option.some.inj hu
        obtain rfl := Option.some.inj hv
        cases h : (Value.slice A2 F.length c2).ownBlock with
        | none => exact .inl rfl
        | some k => exact .inr fun e => hne k e.symm h
  have hS : ∀ k, B.S [.slice A1 F.length c1, .slice A2 F.length c2] k → w.heap.size ≤ k := by
    rintro k ⟨v, hv, hk⟩
    obtain ⟨_, hk1, hk2, h1, h2, _⟩ := HE1.out
    rcases List.mem_cons.1 hv with rfl | hv
    · exact Nat.le_trans h1.1 (World.ownsRow.lt hk1.own k hk).1
    · obtain rfl : v = .slice A2 F.length c2 := by simpa using hv
      exact Nat.le_trans h2.1 (World.ownsRow.lt hk2.own k hk).1
  refine (FreeForests.calls w12.heap.size 2 [.slice A1 F.length c1, .slice A2 F.length c2] _ (Blk.alloc w12 _ _) hpre (by simp) (fun v hv => ?_)).mono ?_
  · rcases List.mem_cons.1 hv with rfl | hv
    · exact hll
    · obtain rfl : v = .slice A2 F.length c2 := by simpa using hv
      exact hll
  rintro e w13 ⟨rfl, hbt⟩
  have HE : Hid (Below w.heap.size w w13) := (HE1.out.1.alloc HE1.out.1.size _).trans (hbt.below hS (by have := HE1.out.1.size; simp; omega))
  clear hbt hpre hS
  dsimp only
  go_wp2
  go_ret
  exact ⟨rfl, HE.out⟩
end Go.Proofs.Ytmpkkphohilkoaa.B
