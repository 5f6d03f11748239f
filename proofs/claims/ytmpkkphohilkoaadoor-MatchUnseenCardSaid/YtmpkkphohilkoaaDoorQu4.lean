/- Texts joined and shortened (wip/tools/shrink.py): MLaid, MBound, MRun0, MRun1, DBase, XStep. -/
import Derived.Test.YtmpkkphohilkoaaDoorQu2
import Derived.Test.YtmpkkphohilkoaaDoorQu3
import Derived.Deep.AppendLies
/- match.laid: a body laid as a tree by a stack. -/
namespace Go.X
open Go Go.RowKit
/-- The last element is taken off a row of the call's own. -/
theorem own_pop {w : World} {base n c : Nat} {e : TypeId} {a : Option Addr} {xs : List Value} {x : Value} (h : w.ownsRow base e 1 (.slice a (n + 1) c) (n + 1) (xs ++ [x])) :
    w.ownsRow base e 1 (.slice a n c) n xs ∧ ∃ g, a = some ⟨g, 0, none⟩ ∧ n + 1 ≤ c ∧ w.cell? ⟨g, n, none⟩ = some x := by
  have hl : xs.length = n := by have := h.1; simp at this; omega
  rcases h.2 with ⟨_, h0⟩ | ⟨g, cap, cur, hv, hb, hh, h1, h2, h3, h4⟩
  · omega
  · simp at hv
    obtain ⟨rfl, rfl⟩ := hv
    have hc := h.cellAt n (by omega)
    refine ⟨⟨by omega, .inr ⟨g, c, cur, rfl, hb, hh, by omega, h2, h3, ?_⟩⟩, g, rfl, h1, ?_⟩
    · have := congrArg (List.take n) h4
      rw [List.take_take, Nat.min_eq_left (by omega)] at this
      rw [Nat.mul_one, this, List.take_append_of_le_length (by omega), List.take_of_length_le (by omega)]
    · rw [hc, List.getElem?_append_right (by omega), hl, Nat.sub_self]
      rfl
end Go.X
namespace Go.Proofs.YtmpkkphohilkoaaDoor.B
open Go Go.RowKit Go.X Go.Ma Go.Proofs.YtmpkkphohilkoaaDoorW.PrintWords Go.Proofs.YtmpkkphohilkoaaDoor.F

/-- A stack of values in a cell. -/
structure Stk (w : World) (base hb : Nat) (l : List Value) : Prop where
  cell : ∃ a c, Blk w hb 68 [.slice a l.length c] ∧ w.ownsRow base 72 1 (.slice a l.length c) l.length l
set_option maxRecDepth 100000 in
set_option maxHeartbeats 4000000 in
theorem pop.calls (base hb : Nat) (l : List Value) (x : Value) (w : World) (hs : Stk w base hb (l ++ [x])) (hn : l.length ≤ 1048576) :
    Calls Tryd.prog 37 #[.pointer (some ⟨hb, 0, none⟩)] w fun e w' => e = .returned x ∧ w.grownBy w' (some hb) ∧ Stk w' base hb l := by
  obtain ⟨a, c, h1, h2⟩ := hs.cell
  rw [List.length_append, List.length_singleton] at h1 h2
  obtain ⟨h3, g, rfl, hc, hx⟩ := own_pop h2
  have c0 : w.cell? ⟨hb, 0, none⟩ = some (.slice (some ⟨g, 0, none⟩) (l.length + 1) c) := h1.cell 0
  have f0 := h1.frozen 0
  have H1 := Lib.hid h1
  have H3 := Lib.hid h3
  clear h1 h2 h3 hs
  have hw : wrap64 ((l.length : Int) + 1 - 1) = (l.length : Int) := by rw [IntWalk.wrap64_in _ (by omega)]; omega
  go_enter Tryd.func37, Tryd.ntmps37
  go_wp2
  go_ret
  exact ⟨rfl, grown_setCell w ⟨hb, 0, none⟩ _, ⟨_, _, H1.out.setCell 0 _, H3.out.kept (grown_setCell w ⟨hb, 0, none⟩ _) (.inr (own_other H3.out H1.out (by decide)))⟩⟩
/-- A node of a core body, as its cells read. -/
def cnOf (x : S47) : CN := ⟨x.f0, ⟨x.f1.f0, x.f1.f1, x.f1.f2, x.f1.f3⟩, x.f2, x.f3⟩
def cd (xs : List S47) (i : Nat) : S47 := xs.getD i z47
theorem cn_cd (xs : List S47) (i : Nat) (h : i < xs.length) : cn (xs.map cnOf) i = cnOf (cd xs i) := by
  rw [cn, cd, List.getD_eq_getElem?_getD, List.getD_eq_getElem?_getD, List.getElem?_map, List.getElem?_eq_getElem h]
  rfl
theorem cd_at {w : World} {A : Option Addr} {xs : List S47} (h : Kd.C k47 w A xs.length xs) (k : Nat) (hk : k < xs.length) :
    ∃ ad, A = some ad ∧ w.cell? (ad.add (k * 7)) = some (.int .i64 (cd xs k).f0) ∧ w.cell? ⟨(ad.add (k * 7)).block, (ad.add (k * 7)).off + 1, none⟩ = some (.int .u64 (cd xs k).f1.f0) ∧ w.cell? ⟨(ad.add (k * 7)).block, (ad.add (k * 7)).off + 2, none⟩ = some (.int .u64 (cd xs k).f1.f1) ∧
      w.cell? ⟨(ad.add (k * 7)).block, (ad.add (k * 7)).off + 3, none⟩ = some (.int .u64 (cd xs k).f1.f2) ∧ w.cell? ⟨(ad.add (k * 7)).block, (ad.add (k * 7)).off + 4, none⟩ = some (.int .u64 (cd xs k).f1.f3) ∧ w.cell? ⟨(ad.add (k * 7)).block, (ad.add (k * 7)).off + 5, none⟩ = some (.int .i64 (cd xs k).f2) ∧ w.cell? ⟨(ad.add (k * 7)).block, (ad.add (k * 7)).off + 6, none⟩ = some (.string (cd xs k).f3) := by
  have := at_T47 h (k : Int) (by omega) (by omega)
  simpa only [Int.toNat_natCast, rd_T47, cd] using this
theorem info72 : (Tryd.prog.info? 72).map (fun i => (i.zero, i.size, i.bytes)) = some (some .nilIface, 1, 16) := by kernel_rfl
/-- The stack's cells, the top last. -/
def stv (b : List CN) (i : Nat) : List Value := ((tstk b i).map tv).reverse
theorem istk_short (b : List CN) : ∀ i, (istk b i).length ≤ i
  | 0 => Nat.le_refl _
  | i + 1 => by
    have := istk_short b i
    rw [istk, List.length_cons, List.length_drop]
    omega
theorem tstk_len {b : List CN} {i : Nat} (h : fits b i) : (tstk b i).length = (istk b i).length := by rw [tstk_istk h, List.length_map]
theorem stv_len {b : List CN} {i : Nat} (h : fits b i) : (stv b i).length ≤ i := by
  rw [stv, List.length_reverse, List.length_map, tstk_len h]
  exact istk_short b i
theorem stv0 {b : List CN} {i : Nat} (ha : ar (cn b i).op = 0) : stv b (i + 1) = stv b i ++ [tv (mk (cn b i) .emp .emp)] := by
  rw [stv, stv, tstk, push, if_neg (by rw [ha]; decide), if_neg (by rw [ha]; decide), List.map_cons, List.reverse_cons]
theorem stv1 {b : List CN} {i : Nat} (h : fits b (i + 1)) (ha : ar (cn b i).op = 1) : ∃ x r, stv b i = r ++ [tv x] ∧ stv b (i + 1) = r ++ [tv (mk (cn b i) x .emp)] := by
  have hk := h i (Nat.lt_succ_self i)
  rw [ha, ← tstk_len (h.low (Nat.le_succ i))] at hk
  rw [stv, stv, tstk, push, if_neg (by rw [ha]; decide), if_pos ha]
  match ht : tstk b i, hk with
  | [], hk => simp at hk
  | x :: r, _ =>
    refine ⟨x, (r.map tv).reverse, by rw [List.map_cons, List.reverse_cons], ?_⟩
    rw [List.map_cons, List.reverse_cons, List.drop_succ_cons, List.drop_zero, hd]
theorem stv2 {b : List CN} {i : Nat} (h : fits b (i + 1)) (ha : ar (cn b i).op = 2) : ∃ x y r, stv b i = (r ++ [tv x]) ++ [tv y] ∧ stv b (i + 1) = r ++ [tv (mk (cn b i) x y)] := by
  have hk := h i (Nat.lt_succ_self i)
  rw [ha, ← tstk_len (h.low (Nat.le_succ i))] at hk
  rw [stv, stv, tstk, push, if_pos ha]
  match ht : tstk b i, hk with
  | [], hk => simp at hk
  | [_], hk => simp at hk
  | y :: x :: r, _ =>
    refine ⟨x, y, (r.map tv).reverse, by rw [List.map_cons, List.map_cons, List.reverse_cons, List.reverse_cons], ?_⟩
    rw [List.map_cons, List.reverse_cons]
    simp only [List.drop_succ_cons, List.drop_zero, hd]
theorem stv_one {b : List CN} {n : Nat} (h : fits b (n + 1)) (h1 : (istk b (n + 1)).length = 1) : stv b (n + 1) = [tv (tr b n)] := by
  have := tstk_len h
  rw [stv, tr]
  match ht : tstk b (n + 1), this with
  | [], hk => rw [h1] at hk; simp at hk
  | [x], _ => rfl
  | x :: y :: r, hk => rw [h1] at hk; simp at hk
/-- Between the rounds. -/
structure LR (w wr : World) (l : List Value) : Prop where
  bel : Below w.heap.size w wr
  stk : Stk wr w.heap.size w.heap.size l
theorem Stk.kept {w w' : World} {base hb : Nat} {l : List Value} (h : Stk w base hb l) (hg : w.grownBy w' none) : Stk w' base hb l := by
  obtain ⟨a, c, h1, h2⟩ := h.cell
  exact ⟨a, c, h1.grown hg (by simp), World.ownsRow.kept h2 hg (by simp [Value.ownBlock]; cases a <;> simp)⟩
theorem LR.more {w wr w' : World} {l : List Value} (h : LR w wr l) (hg : wr.grownBy w' none) : LR w w' l :=
  ⟨h.bel.grown hg h.bel.size (fun k hk => by cases hk), h.stk.kept hg⟩
theorem LR.pop {w wr w' : World} {l l' : List Value} (h : LR w wr l) (hg : wr.grownBy w' (some w.heap.size)) (hs : Stk w' w.heap.size w.heap.size l') : LR w w' l' :=
  ⟨h.bel.grown hg h.bel.size (fun k hk => by injection hk with hk; omega), hs⟩
theorem LR.push {w wr w3 : World} {l : List Value} {x v' : Value} {a : Option Addr} {c : Nat} (h : LR w wr l) (hb : Blk wr w.heap.size 68 [.slice a l.length c]) (ho : wr.ownsRow w.heap.size 72 1 (.slice a l.length c) l.length l)
    (hown : w3.ownsRow w.heap.size 72 1 v' (l.length + 1) (l ++ [x])) (hap : Appended (wr.alloc (.cells #[x] 72)) w3 72 1 (.slice a l.length c) v' l.length) :
    ∃ a' c', v' = .slice a' (l.length + 1) c' ∧ LR w (w3.setCell ⟨w.heap.size, 0, none⟩ v') (l ++ [x]) ∧ w3.cell? ⟨w.heap.size, 0, none⟩ = some (.slice a l.length c) ∧ w3.frozen? ⟨w.heap.size, 0, none⟩ = false := by
  obtain ⟨a', c', hv⟩ := Go.X.own_slice hown
  subst hv
  have g := World.grownBy_alloc wr (.cells #[x] 72) none
  have hb2 := hap.keeps_lt (hb.grown g (by simp)) (fun e => own_other (ho.alloc _) (hb.grown g (by simp)) (by decide) e.symm)
  have gs := grown_setCell w3 ⟨w.heap.size, 0, none⟩ (.slice a' (l.length + 1) c')
  refine ⟨a', c', rfl, ⟨?_, a', c', ?_, ?_⟩, hb2.cell 0, hb2.frozen 0⟩
  · have b1 : Below w.heap.size w (wr.alloc (.cells #[x] 72)) := h.bel.alloc h.bel.size _
    have b2 := b1.grown hap.grown b1.size (fun k hk => (ho.lt k hk).1)
    exact b2.setCell (by simp) _
  · rw [List.length_append, List.length_singleton]
    exact hb2.setCell 0 _
  · rw [List.length_append, List.length_singleton]
    exact hown.kept gs (.inr (own_other hown hb2 (by decide)))
set_option maxRecDepth 100000 in
set_option maxHeartbeats 4000000 in
theorem laid.calls (A : Option Addr) (c : Nat) (xs : List S47) (w : World) (hx : Kd.C k47 w A xs.length xs) (hn : xs.length ≤ 1048576) (hf : fits (xs.map cnOf) xs.length) (hone : (istk (xs.map cnOf) xs.length).length = 1)
    (hop : ∀ i, i < xs.length → 0 ≤ (cd xs i).f0 ∧ (cd xs i).f0 ≤ 8 ∧ 0 ≤ (cd xs i).f2) :
    Calls Tryd.prog 28 #[.slice A xs.length c] w fun e w' => e = .returned (tv (tr (xs.map cnOf) (xs.length - 1))) ∧ Below w.heap.size w w' := by
  have HX := Lib.hid hx; clear hx
  have HF := Lib.hid hf; clear hf
  have HO := Lib.hid hone; clear hone
  have HOP := Lib.hid hop; clear hop
  go_enter Tryd.func28, Tryd.ntmps28
  have HST : Hid (LR w (w.alloc (.cells #[.slice none 0 0] 68)) (stv (xs.map cnOf) 0)) :=
    ⟨(Below.refl _ w).alloc (Nat.le_refl _) _, none, 0, Blk.alloc w _ _, World.ownsRow_nil _ _ _ _⟩
  go_wp2
  go_loopg [13] xs.length (fun q v wr => ∃ i : Nat, q + i = xs.length ∧ v = .int .i64 (i : Nat) ∧ Hid (LR w wr (stv (xs.map cnOf) i)))
  case atStart => exact ⟨0, by simp, rfl, HST.out⟩
  case round =>
    clear HST
    obtain ⟨i, hi, rfl, HI⟩ := hrel
    by_cases hlt : i < xs.length
    · obtain ⟨ad, eA, c0, c1, c2, c3, c4, c5, c6⟩ := cd_at (Kd.C_below HX.out HI.out.bel) i hlt
      subst eA
      have HCN : Hid (cn (xs.map cnOf) i = cnOf (cd xs i)) := cn_cd xs i hlt
      have HFI : Hid (fits (xs.map cnOf) (i + 1)) := HF.out.low hlt
      have HQ := Lib.hid (HOP.out i hlt)
      have HLEN : Hid ((stv (xs.map cnOf) i).length ≤ 1048576) := Nat.le_trans (stv_len (HF.out.low (Nat.le_of_lt hlt))) (by omega)
      have hiw : wrap64 ((i : Int) + 1) = ((i + 1 : Nat) : Int) := by rw [IntWalk.wrap64_in _ (by omega)]; rfl
      obtain ⟨s, hs⟩ : ∃ s, cd xs i = s := ⟨_, rfl⟩
      rw [hs] at c0 c1 c2 c3 c4 c5 c6 HCN HQ
      clear hs
      have HWA : ∀ wa : World, wa = wr.alloc (.cells #[.int .i64 s.f0, .int .u64 s.f1.f0, .int .u64 s.f1.f1, .int .u64 s.f1.f2, .int .u64 s.f1.f3, .int .i64 s.f2, .string s.f3] 47) →
          Hid (LR w wa (stv (xs.map cnOf) i) ∧ Blk wa wr.heap.size 47 [.int .i64 s.f0, .int .u64 s.f1.f0, .int .u64 s.f1.f1, .int .u64 s.f1.f2, .int .u64 s.f1.f3, .int .i64 s.f2, .string s.f3] ∧ w.heap.size < wr.heap.size) := by
        rintro wa rfl
        obtain ⟨a, c, hb, _⟩ := HI.out.stk.cell
        exact ⟨HI.out.more (World.grownBy_alloc _ _ none), Blk.alloc wr _ _, hb.lt⟩
      go_upto_region 7 with (fail)
      generalize hwa : wr.alloc (.cells #[.int .i64 s.f0, .int .u64 s.f1.f0, .int .u64 s.f1.f1, .int .u64 s.f1.f2, .int .u64 s.f1.f3, .int .i64 s.f2, .string s.f3] 47) = wa
      have HA := HWA wa hwa.symm
      clear HWA hwa HI c0 c1 c2 c3 c4 c5 c6
      generalize wr.heap.size = bs at *
      have c0 : wa.cell? ⟨bs, 0, none⟩ = some (.int .i64 s.f0) := HA.out.2.1.cell 0
      have c1 : wa.cell? ⟨bs, 1, none⟩ = some (.int .u64 s.f1.f0) := HA.out.2.1.cell 1
      have c2 : wa.cell? ⟨bs, 2, none⟩ = some (.int .u64 s.f1.f1) := HA.out.2.1.cell 2
      have c3 : wa.cell? ⟨bs, 3, none⟩ = some (.int .u64 s.f1.f2) := HA.out.2.1.cell 3
      have c4 : wa.cell? ⟨bs, 4, none⟩ = some (.int .u64 s.f1.f3) := HA.out.2.1.cell 4
      have c5 : wa.cell? ⟨bs, 5, none⟩ = some (.int .i64 s.f2) := HA.out.2.1.cell 5
      have c6 : wa.cell? ⟨bs, 6, none⟩ = some (.string s.f3) := HA.out.2.1.cell 6
      have hcase : s.f0 = 0 ∨ s.f0 = 1 ∨ s.f0 = 2 ∨ s.f0 = 3 ∨ s.f0 = 4 ∨ s.f0 = 5 ∨ s.f0 = 6 ∨ s.f0 = 7 ∨ s.f0 = 8 := by have := HQ.out; omega
      rcases hcase with e0 | e0 | e0 | e0 | e0 | e0 | e0 | e0 | e0
      · have HEQ : Hid (stv (xs.map cnOf) (i + 1) = stv (xs.map cnOf) i ++ [.iface 87 (.agg #[])]) := by
          show _ = _
          rw [stv0 (by rw [HCN.out]; simp [cnOf, ar, e0]), HCN.out]
          simp [cnOf, mk, e0, tv]
        have HLN : Hid ((stv (xs.map cnOf) i).length ≤ 1048576) := HLEN.out
        have HAX : Hid (LR w wa (stv (xs.map cnOf) i)) := HA.out.1
        obtain ⟨a9, c9, hbk, hown0⟩ := (HAX.out).stk.cell
        have HB9 := Lib.hid hbk
        have HO9 := Lib.hid hown0
        have p0 : wa.cell? ⟨w.heap.size, 0, none⟩ = some (.slice a9 (stv (xs.map cnOf) i).length c9) := hbk.cell 0
        clear hbk hown0
        go_wp2_with (first
          | (at_builtin; refine Go.X.append1 rfl (.tmp 79) (.tmp 81) 68 72 rfl w.heap.size _ 1 16 Tryd.underlying68 info72 rfl _ (stv (xs.map cnOf) i).length _ rfl HO9.out [.iface 87 (.agg #[])] rfl rfl ?_ ?_ ?_ ?_ ?_)
          | fail)
        · first
            | rfl
            | (intro u hu; simp at hu; subst hu; rfl)
        · have := HLN.out; simp only [maxLen]; omega
        · have := HLN.out; omega
        · exact (HAX.out).bel.size
        intro v' w3 hown hap
        obtain ⟨a8, c8, hv8, hLR, p1, p2⟩ := (HAX.out).push HB9.out HO9.out hown hap
        subst hv8
        have HLR : Hid (LR w (w3.setCell ⟨w.heap.size, 0, none⟩ (.slice a8 ((stv (xs.map cnOf) i).length + 1) c8)) (stv (xs.map cnOf) (i + 1))) := by show LR _ _ _; rw [HEQ.out]; exact hLR
        clear hown hap hLR HB9 HO9 p0
        go_wp2
        go_roundg (xs.length - (i + 1))
        case measure => clear hiw; omega
        case rel => exact ⟨i + 1, by clear hiw; omega, by first | rfl | rw [hiw], HLR.out⟩
      · have HEQ : Hid (stv (xs.map cnOf) (i + 1) = stv (xs.map cnOf) i ++ [.iface 89 (.agg #[.int .u64 s.f1.f0, .int .u64 s.f1.f1, .int .u64 s.f1.f2, .int .u64 s.f1.f3])]) := by
          show _ = _
          rw [stv0 (by rw [HCN.out]; simp [cnOf, ar, e0]), HCN.out]
          simp [cnOf, mk, e0, tv]
        have HLN : Hid ((stv (xs.map cnOf) i).length ≤ 1048576) := HLEN.out
        have HAX : Hid (LR w wa (stv (xs.map cnOf) i)) := HA.out.1
        obtain ⟨a9, c9, hbk, hown0⟩ := (HAX.out).stk.cell
        have HB9 := Lib.hid hbk
        have HO9 := Lib.hid hown0
        have p0 : wa.cell? ⟨w.heap.size, 0, none⟩ = some (.slice a9 (stv (xs.map cnOf) i).length c9) := hbk.cell 0
        clear hbk hown0
        go_wp2_with (first
          | (at_builtin; refine Go.X.append1 rfl (.tmp 79) (.tmp 81) 68 72 rfl w.heap.size _ 1 16 Tryd.underlying68 info72 rfl _ (stv (xs.map cnOf) i).length _ rfl HO9.out [.iface 89 (.agg #[.int .u64 s.f1.f0, .int .u64 s.f1.f1, .int .u64 s.f1.f2, .int .u64 s.f1.f3])] rfl rfl ?_ ?_ ?_ ?_ ?_)
          | fail)
        · first
            | rfl
            | (intro u hu; simp at hu; subst hu; rfl)
        · have := HLN.out; simp only [maxLen]; omega
        · have := HLN.out; omega
        · exact (HAX.out).bel.size
        intro v' w3 hown hap
        obtain ⟨a8, c8, hv8, hLR, p1, p2⟩ := (HAX.out).push HB9.out HO9.out hown hap
        subst hv8
        have HLR : Hid (LR w (w3.setCell ⟨w.heap.size, 0, none⟩ (.slice a8 ((stv (xs.map cnOf) i).length + 1) c8)) (stv (xs.map cnOf) (i + 1))) := by show LR _ _ _; rw [HEQ.out]; exact hLR
        clear hown hap hLR HB9 HO9 p0
        go_wp2
        go_roundg (xs.length - (i + 1))
        case measure => clear hiw; omega
        case rel => exact ⟨i + 1, by clear hiw; omega, by first | rfl | rw [hiw], HLR.out⟩
      · have HEQ : Hid (stv (xs.map cnOf) (i + 1) = stv (xs.map cnOf) i ++ [.iface 91 (.agg #[.int .i64 s.f2])]) := by
          show _ = _
          rw [stv0 (by rw [HCN.out]; simp [cnOf, ar, e0]), HCN.out]
          have h2 := HQ.out.2.2
          simp [cnOf, mk, e0, tv]
          omega
        have HLN : Hid ((stv (xs.map cnOf) i).length ≤ 1048576) := HLEN.out
        have HAX : Hid (LR w wa (stv (xs.map cnOf) i)) := HA.out.1
        obtain ⟨a9, c9, hbk, hown0⟩ := (HAX.out).stk.cell
        have HB9 := Lib.hid hbk
        have HO9 := Lib.hid hown0
        have p0 : wa.cell? ⟨w.heap.size, 0, none⟩ = some (.slice a9 (stv (xs.map cnOf) i).length c9) := hbk.cell 0
        clear hbk hown0
        go_wp2_with (first
          | (at_builtin; refine Go.X.append1 rfl (.tmp 79) (.tmp 81) 68 72 rfl w.heap.size _ 1 16 Tryd.underlying68 info72 rfl _ (stv (xs.map cnOf) i).length _ rfl HO9.out [.iface 91 (.agg #[.int .i64 s.f2])] rfl rfl ?_ ?_ ?_ ?_ ?_)
          | fail)
        · first
            | rfl
            | (intro u hu; simp at hu; subst hu; rfl)
        · have := HLN.out; simp only [maxLen]; omega
        · have := HLN.out; omega
        · exact (HAX.out).bel.size
        intro v' w3 hown hap
        obtain ⟨a8, c8, hv8, hLR, p1, p2⟩ := (HAX.out).push HB9.out HO9.out hown hap
        subst hv8
        have HLR : Hid (LR w (w3.setCell ⟨w.heap.size, 0, none⟩ (.slice a8 ((stv (xs.map cnOf) i).length + 1) c8)) (stv (xs.map cnOf) (i + 1))) := by show LR _ _ _; rw [HEQ.out]; exact hLR
        clear hown hap hLR HB9 HO9 p0
        go_wp2
        go_roundg (xs.length - (i + 1))
        case measure => clear hiw; omega
        case rel => exact ⟨i + 1, by clear hiw; omega, by first | rfl | rw [hiw], HLR.out⟩
      · have HEQ : Hid (stv (xs.map cnOf) (i + 1) = stv (xs.map cnOf) i ++ [.iface 93 (.agg #[.string s.f3])]) := by
          show _ = _
          rw [stv0 (by rw [HCN.out]; simp [cnOf, ar, e0]), HCN.out]
          simp [cnOf, mk, e0, tv]
        have HLN : Hid ((stv (xs.map cnOf) i).length ≤ 1048576) := HLEN.out
        have HAX : Hid (LR w wa (stv (xs.map cnOf) i)) := HA.out.1
        obtain ⟨a9, c9, hbk, hown0⟩ := (HAX.out).stk.cell
        have HB9 := Lib.hid hbk
        have HO9 := Lib.hid hown0
        have p0 : wa.cell? ⟨w.heap.size, 0, none⟩ = some (.slice a9 (stv (xs.map cnOf) i).length c9) := hbk.cell 0
        clear hbk hown0
        go_wp2_with (first
          | (at_builtin; refine Go.X.append1 rfl (.tmp 79) (.tmp 81) 68 72 rfl w.heap.size _ 1 16 Tryd.underlying68 info72 rfl _ (stv (xs.map cnOf) i).length _ rfl HO9.out [.iface 93 (.agg #[.string s.f3])] rfl rfl ?_ ?_ ?_ ?_ ?_)
          | fail)
        · first
            | rfl
            | (intro u hu; simp at hu; subst hu; rfl)
        · have := HLN.out; simp only [maxLen]; omega
        · have := HLN.out; omega
        · exact (HAX.out).bel.size
        intro v' w3 hown hap
        obtain ⟨a8, c8, hv8, hLR, p1, p2⟩ := (HAX.out).push HB9.out HO9.out hown hap
        subst hv8
        have HLR : Hid (LR w (w3.setCell ⟨w.heap.size, 0, none⟩ (.slice a8 ((stv (xs.map cnOf) i).length + 1) c8)) (stv (xs.map cnOf) (i + 1))) := by show LR _ _ _; rw [HEQ.out]; exact hLR
        clear hown hap hLR HB9 HO9 p0
        go_wp2
        go_roundg (xs.length - (i + 1))
        case measure => clear hiw; omega
        case rel => exact ⟨i + 1, by clear hiw; omega, by first | rfl | rw [hiw], HLR.out⟩
      · obtain ⟨x, y, r, hr1, hr2⟩ := stv2 HFI.out (by rw [HCN.out]; simp [cnOf, ar, e0])
        have HAX : Hid (LR w wa ((r ++ [tv x]) ++ [tv y])) := by rw [← hr1]; exact HA.out.1
        have HEQ : Hid (stv (xs.map cnOf) (i + 1) = r ++ [.iface 95 (.agg #[tv x, tv y])]) := by
          show _ = _
          rw [hr2, HCN.out]
          simp [cnOf, mk, e0, tv]
        have HLN : Hid (r.length ≤ 1048576 ∧ (r ++ [tv x]).length ≤ 1048576) := by
          have := HLEN.out
          rw [hr1] at this
          simp at this
          show _ ∧ _
          simp
          omega
        clear hr1 hr2 HA
        rw [tv_eq x] at HLN
        rw [tv_eq x, tv_eq y] at HAX HEQ
        generalize ty x = tx at *
        generalize ty y = ty' at *
        generalize pt x = px at *
        generalize pt y = py at *
        go_wp2_with (fail)
        refine (pop.calls w.heap.size w.heap.size (r ++ [(.iface tx px)]) (.iface ty' py) wa HAX.out.stk HLN.out.2).mono ?_
        rintro e w2 ⟨rfl, hg, hs⟩
        have H2 := Lib.hid (HAX.out.pop hg hs)
        clear hg hs HAX c0 c1 c2 c3 c4 c5 c6
        dsimp only
        go_wp2_with (fail)
        refine (pop.calls w.heap.size w.heap.size r (.iface tx px) w2 H2.out.stk HLN.out.1).mono ?_
        rintro e w4 ⟨rfl, hg, hs⟩
        have H3 := Lib.hid (H2.out.pop hg hs)
        have HLN := Lib.hid HLN.out.1
        clear hg hs H2
        dsimp only
        obtain ⟨a9, c9, hbk, hown0⟩ := (H3.out).stk.cell
        have HB9 := Lib.hid hbk
        have HO9 := Lib.hid hown0
        have p0 : w4.cell? ⟨w.heap.size, 0, none⟩ = some (.slice a9 (r).length c9) := hbk.cell 0
        clear hbk hown0
        go_wp2_with (first
          | (at_builtin; refine Go.X.append1 rfl (.tmp 79) (.tmp 81) 68 72 rfl w.heap.size _ 1 16 Tryd.underlying68 info72 rfl _ (r).length _ rfl HO9.out [.iface 95 (.agg #[(.iface tx px), (.iface ty' py)])] rfl rfl ?_ ?_ ?_ ?_ ?_)
          | fail)
        · first
            | rfl
            | (intro u hu; simp at hu; subst hu; rfl)
        · have := HLN.out; simp only [maxLen]; omega
        · have := HLN.out; omega
        · exact (H3.out).bel.size
        intro v' w3 hown hap
        obtain ⟨a8, c8, hv8, hLR, p1, p2⟩ := (H3.out).push HB9.out HO9.out hown hap
        subst hv8
        have HLR : Hid (LR w (w3.setCell ⟨w.heap.size, 0, none⟩ (.slice a8 ((r).length + 1) c8)) (stv (xs.map cnOf) (i + 1))) := by show LR _ _ _; rw [HEQ.out]; exact hLR
        clear hown hap hLR HB9 HO9 p0
        go_wp2
        go_roundg (xs.length - (i + 1))
        case measure => clear hiw; omega
        case rel => exact ⟨i + 1, by clear hiw; omega, by first | rfl | rw [hiw], HLR.out⟩
      · obtain ⟨x, y, r, hr1, hr2⟩ := stv2 HFI.out (by rw [HCN.out]; simp [cnOf, ar, e0])
        have HAX : Hid (LR w wa ((r ++ [tv x]) ++ [tv y])) := by rw [← hr1]; exact HA.out.1
        have HEQ : Hid (stv (xs.map cnOf) (i + 1) = r ++ [.iface 96 (.agg #[tv x, tv y])]) := by
          show _ = _
          rw [hr2, HCN.out]
          simp [cnOf, mk, e0, tv]
        have HLN : Hid (r.length ≤ 1048576 ∧ (r ++ [tv x]).length ≤ 1048576) := by
          have := HLEN.out
          rw [hr1] at this
          simp at this
          show _ ∧ _
          simp
          omega
        clear hr1 hr2 HA
        rw [tv_eq x] at HLN
        rw [tv_eq x, tv_eq y] at HAX HEQ
        generalize ty x = tx at *
        generalize ty y = ty' at *
        generalize pt x = px at *
        generalize pt y = py at *
        go_wp2_with (fail)
        refine (pop.calls w.heap.size w.heap.size (r ++ [(.iface tx px)]) (.iface ty' py) wa HAX.out.stk HLN.out.2).mono ?_
        rintro e w2 ⟨rfl, hg, hs⟩
        have H2 := Lib.hid (HAX.out.pop hg hs)
        clear hg hs HAX c0 c1 c2 c3 c4 c5 c6
        dsimp only
        go_wp2_with (fail)
        refine (pop.calls w.heap.size w.heap.size r (.iface tx px) w2 H2.out.stk HLN.out.1).mono ?_
        rintro e w4 ⟨rfl, hg, hs⟩
        have H3 := Lib.hid (H2.out.pop hg hs)
        have HLN := Lib.hid HLN.out.1
        clear hg hs H2
        dsimp only
        obtain ⟨a9, c9, hbk, hown0⟩ := (H3.out).stk.cell
        have HB9 := Lib.hid hbk
        have HO9 := Lib.hid hown0
        have p0 : w4.cell? ⟨w.heap.size, 0, none⟩ = some (.slice a9 (r).length c9) := hbk.cell 0
        clear hbk hown0
        go_wp2_with (first
          | (at_builtin; refine Go.X.append1 rfl (.tmp 79) (.tmp 81) 68 72 rfl w.heap.size _ 1 16 Tryd.underlying68 info72 rfl _ (r).length _ rfl HO9.out [.iface 96 (.agg #[(.iface tx px), (.iface ty' py)])] rfl rfl ?_ ?_ ?_ ?_ ?_)
          | fail)
        · first
            | rfl
            | (intro u hu; simp at hu; subst hu; rfl)
        · have := HLN.out; simp only [maxLen]; omega
        · have := HLN.out; omega
        · exact (H3.out).bel.size
        intro v' w3 hown hap
        obtain ⟨a8, c8, hv8, hLR, p1, p2⟩ := (H3.out).push HB9.out HO9.out hown hap
        subst hv8
        have HLR : Hid (LR w (w3.setCell ⟨w.heap.size, 0, none⟩ (.slice a8 ((r).length + 1) c8)) (stv (xs.map cnOf) (i + 1))) := by show LR _ _ _; rw [HEQ.out]; exact hLR
        clear hown hap hLR HB9 HO9 p0
        go_wp2
        go_roundg (xs.length - (i + 1))
        case measure => clear hiw; omega
        case rel => exact ⟨i + 1, by clear hiw; omega, by first | rfl | rw [hiw], HLR.out⟩
      · obtain ⟨x, r, hr1, hr2⟩ := stv1 HFI.out (by rw [HCN.out]; simp [cnOf, ar, e0])
        have HAX : Hid (LR w wa (r ++ [tv x])) := by rw [← hr1]; exact HA.out.1
        have HEQ : Hid (stv (xs.map cnOf) (i + 1) = r ++ [.iface 98 (.agg #[tv x])]) := by
          show _ = _
          rw [hr2, HCN.out]
          simp [cnOf, mk, e0, tv]
        have HLN : Hid (r.length ≤ 1048576) := by
          have := HLEN.out
          rw [hr1] at this
          simp at this
          show _ ≤ _
          omega
        clear hr1 hr2 HA
        rw [tv_eq x] at HAX HEQ
        generalize ty x = tx at *
        generalize pt x = px at *
        go_wp2_with (fail)
        refine (pop.calls w.heap.size w.heap.size r (.iface tx px) wa HAX.out.stk HLN.out).mono ?_
        rintro e w4 ⟨rfl, hg, hs⟩
        have H3 := Lib.hid (HAX.out.pop hg hs)
        clear hg hs HAX c0 c1 c2 c3 c4 c5 c6
        dsimp only
        obtain ⟨a9, c9, hbk, hown0⟩ := (H3.out).stk.cell
        have HB9 := Lib.hid hbk
        have HO9 := Lib.hid hown0
        have p0 : w4.cell? ⟨w.heap.size, 0, none⟩ = some (.slice a9 (r).length c9) := hbk.cell 0
        clear hbk hown0
        go_wp2_with (first
          | (at_builtin; refine Go.X.append1 rfl (.tmp 79) (.tmp 81) 68 72 rfl w.heap.size _ 1 16 Tryd.underlying68 info72 rfl _ (r).length _ rfl HO9.out [.iface 98 (.agg #[(.iface tx px)])] rfl rfl ?_ ?_ ?_ ?_ ?_)
          | fail)
        · first
            | rfl
            | (intro u hu; simp at hu; subst hu; rfl)
        · have := HLN.out; simp only [maxLen]; omega
        · have := HLN.out; omega
        · exact (H3.out).bel.size
        intro v' w3 hown hap
        obtain ⟨a8, c8, hv8, hLR, p1, p2⟩ := (H3.out).push HB9.out HO9.out hown hap
        subst hv8
        have HLR : Hid (LR w (w3.setCell ⟨w.heap.size, 0, none⟩ (.slice a8 ((r).length + 1) c8)) (stv (xs.map cnOf) (i + 1))) := by show LR _ _ _; rw [HEQ.out]; exact hLR
        clear hown hap hLR HB9 HO9 p0
        go_wp2
        go_roundg (xs.length - (i + 1))
        case measure => clear hiw; omega
        case rel => exact ⟨i + 1, by clear hiw; omega, by first | rfl | rw [hiw], HLR.out⟩
      · obtain ⟨x, r, hr1, hr2⟩ := stv1 HFI.out (by rw [HCN.out]; simp [cnOf, ar, e0])
        have HAX : Hid (LR w wa (r ++ [tv x])) := by rw [← hr1]; exact HA.out.1
        have HEQ : Hid (stv (xs.map cnOf) (i + 1) = r ++ [.iface 99 (.agg #[tv x])]) := by
          show _ = _
          rw [hr2, HCN.out]
          simp [cnOf, mk, e0, tv]
        have HLN : Hid (r.length ≤ 1048576) := by
          have := HLEN.out
          rw [hr1] at this
          simp at this
          show _ ≤ _
          omega
        clear hr1 hr2 HA
        rw [tv_eq x] at HAX HEQ
        generalize ty x = tx at *
        generalize pt x = px at *
        go_wp2_with (fail)
        refine (pop.calls w.heap.size w.heap.size r (.iface tx px) wa HAX.out.stk HLN.out).mono ?_
        rintro e w4 ⟨rfl, hg, hs⟩
        have H3 := Lib.hid (HAX.out.pop hg hs)
        clear hg hs HAX c0 c1 c2 c3 c4 c5 c6
        dsimp only
        obtain ⟨a9, c9, hbk, hown0⟩ := (H3.out).stk.cell
        have HB9 := Lib.hid hbk
        have HO9 := Lib.hid hown0
        have p0 : w4.cell? ⟨w.heap.size, 0, none⟩ = some (.slice a9 (r).length c9) := hbk.cell 0
        clear hbk hown0
        go_wp2_with (first
          | (at_builtin; refine Go.X.append1 rfl (.tmp 79) (.tmp 81) 68 72 rfl w.heap.size _ 1 16 Tryd.underlying68 info72 rfl _ (r).length _ rfl HO9.out [.iface 99 (.agg #[(.iface tx px)])] rfl rfl ?_ ?_ ?_ ?_ ?_)
          | fail)
        · first
            | rfl
            | (intro u hu; simp at hu; subst hu; rfl)
        · have := HLN.out; simp only [maxLen]; omega
        · have := HLN.out; omega
        · exact (H3.out).bel.size
        intro v' w3 hown hap
        obtain ⟨a8, c8, hv8, hLR, p1, p2⟩ := (H3.out).push HB9.out HO9.out hown hap
        subst hv8
        have HLR : Hid (LR w (w3.setCell ⟨w.heap.size, 0, none⟩ (.slice a8 ((r).length + 1) c8)) (stv (xs.map cnOf) (i + 1))) := by show LR _ _ _; rw [HEQ.out]; exact hLR
        clear hown hap hLR HB9 HO9 p0
        go_wp2
        go_roundg (xs.length - (i + 1))
        case measure => clear hiw; omega
        case rel => exact ⟨i + 1, by clear hiw; omega, by first | rfl | rw [hiw], HLR.out⟩
      · obtain ⟨x, r, hr1, hr2⟩ := stv1 HFI.out (by rw [HCN.out]; simp [cnOf, ar, e0])
        have HAX : Hid (LR w wa.drew (r ++ [tv x])) := by rw [← hr1]; exact HA.out.1.more (Go.X.grown_of_below (Below.drewQ ⟨1, rfl⟩) none)
        have HEQ : Hid (stv (xs.map cnOf) (i + 1) = r ++ [.iface 101 (.agg #[.string s.f3, tv x])]) := by
          show _ = _
          rw [hr2, HCN.out]
          simp [cnOf, mk, e0, tv]
        have HLN : Hid (r.length ≤ 1048576) := by
          have := HLEN.out
          rw [hr1] at this
          simp at this
          show _ ≤ _
          omega
        have HBB : Hid (Blk wa.drew bs 47 [.int .i64 s.f0, .int .u64 s.f1.f0, .int .u64 s.f1.f1, .int .u64 s.f1.f2, .int .u64 s.f1.f3, .int .i64 s.f2, .string s.f3] ∧ w.heap.size < bs) := ⟨HA.out.2.1.below (Below.drewQ ⟨1, rfl⟩) HA.out.2.1.lt, HA.out.2.2⟩
        clear hr1 hr2 HA c1 c2 c3 c4 c5
        rw [tv_eq x] at HAX HEQ
        generalize ty x = tx at *
        generalize pt x = px at *
        go_upto_region 27 with (fail)
        go_region_held3 (fun w' => w'.cell? ⟨bs, 6, none⟩ = some (.string s.f3))
          (first
            | with_reducible exact k6
            | go_keep)
          (first
            | (go_at_call 37; refine (pop.calls w.heap.size w.heap.size r (.iface tx px) _ HAX.out.stk HLN.out).mono ?_; rintro e w4 ⟨rfl, hg, hs⟩
               have H3 := Lib.hid (HAX.out.pop hg hs)
               have k6 : w4.cell? ⟨bs, 6, none⟩ = some (.string s.f3) := (HBB.out.1.grown hg (by have := HBB.out.2; intro e; injection e with e; omega)).cell 6
               clear hg hs))
        rename_i hHeld
        clear hHeld HAX c0 c6 k6
        obtain ⟨a9, c9, hbk, hown0⟩ := (H3.out).stk.cell
        have HB9 := Lib.hid hbk
        have HO9 := Lib.hid hown0
        have p0 : w4.cell? ⟨w.heap.size, 0, none⟩ = some (.slice a9 (r).length c9) := hbk.cell 0
        clear hbk hown0
        go_wp2_with (first
          | (at_builtin; refine Go.X.append1 rfl (.tmp 79) (.tmp 81) 68 72 rfl w.heap.size _ 1 16 Tryd.underlying68 info72 rfl _ (r).length _ rfl HO9.out [.iface 101 (.agg #[.string s.f3, (.iface tx px)])] rfl rfl ?_ ?_ ?_ ?_ ?_)
          | fail)
        · first
            | rfl
            | (intro u hu; simp at hu; subst hu; rfl)
        · have := HLN.out; simp only [maxLen]; omega
        · have := HLN.out; omega
        · exact (H3.out).bel.size
        intro v' w3 hown hap
        obtain ⟨a8, c8, hv8, hLR, p1, p2⟩ := (H3.out).push HB9.out HO9.out hown hap
        subst hv8
        have HLR : Hid (LR w (w3.setCell ⟨w.heap.size, 0, none⟩ (.slice a8 ((r).length + 1) c8)) (stv (xs.map cnOf) (i + 1))) := by show LR _ _ _; rw [HEQ.out]; exact hLR
        clear hown hap hLR HB9 HO9 p0
        go_wp2
        go_roundg (xs.length - (i + 1))
        case measure => clear hiw; omega
        case rel => exact ⟨i + 1, by clear hiw; omega, by first | rfl | rw [hiw], HLR.out⟩
    · have HE : Hid (xs.length = (xs.length - 1) + 1) := by
        have h1 := HO.out
        have : 0 < xs.length := by
          rcases Nat.eq_zero_or_pos xs.length with h | h
          · rw [h] at h1
            simp [istk] at h1
          · exact h
        show _ = _
        omega
      have hie : i = xs.length := by omega
      rw [hie] at HI
      have HV : Hid (stv (xs.map cnOf) xs.length = [tv (tr (xs.map cnOf) (xs.length - 1))]) := by
        have h1 := HE.out
        have h2 := HF.out
        have h3 := HO.out
        rw [h1] at h2 h3
        show _ = _
        have := stv_one h2 h3
        rw [← h1] at this
        exact this
      rw [HV.out] at HI
      obtain ⟨a9, c9, hbk, hown0⟩ := HI.out.stk.cell
      obtain ⟨_, g, rfl, _, hc⟩ := own_pop (xs := []) hown0
      have p0 : wr.cell? ⟨w.heap.size, 0, none⟩ = some (.slice (some ⟨g, 0, none⟩) 1 c9) := hbk.cell 0
      clear hbk hown0
      have hc' : wr.cell? ⟨g, 0, none⟩ = some (tv (tr (xs.map cnOf) (xs.length - 1))) := hc
      clear hc
      generalize hvt : tv (tr (xs.map cnOf) (xs.length - 1)) = vt at *
      have HVT := Lib.hid hvt; clear hvt
      go_wp2
      go_ret
      rw [HVT.out]
      exact ⟨rfl, HI.out.bel⟩
end Go.Proofs.YtmpkkphohilkoaaDoor.B
/- match.bounded, dowelref14.Clamp: limits as they are taken. -/
namespace Go.Proofs.YtmpkkphohilkoaaDoor.B
open Go Go.RowKit Go.X Go.Ma Go.Proofs.YtmpkkphohilkoaaDoorW.PrintWords Go.Proofs.YtmpkkphohilkoaaDoorW.PrintLast Go.Proofs.YtmpkkphohilkoaaDoorW.PrintMore Go.Proofs.YtmpkkphohilkoaaDoor.F
attribute [local go_sem] max2_int min2_int max_two min_two max_three min_three max_four min_four

/-- Limits as they are taken. -/
def clamp (D S : Int) : Lim := ⟨(max 0 (min D 32768)).toNat, (max 0 (min S 1048576)).toNat⟩
theorem clamp_le (D S : Int) : (clamp D S).depth ≤ 32768 ∧ (clamp D S).steps ≤ 1048576 := by
  simp only [clamp]
  omega
set_option maxRecDepth 100000 in
set_option maxHeartbeats 4000000 in
theorem bounded.calls (D S : Int) (w : World) : Calls Tryd.prog 27 #[.agg #[.int .i64 D, .int .i64 S]] w fun e w' => e = .returned (.agg #[.int .i64 ((clamp D S).depth : Nat), .int .i64 ((clamp D S).steps : Nat)]) ∧ w.grownBy w' none := by
  go_enter Tryd.func27, Tryd.ntmps27
  go_wp2
  all_goals
    refine bodyPost_ret (v := .agg #[.int .i64 ((clamp D S).depth : Nat), .int .i64 ((clamp D S).steps : Nat)]) ?_ rfl ⟨rfl, Fr4.grown2 (World.grownBy_alloc _ _ none) (World.grownBy_alloc _ _ none)⟩
    simp [results, Tryd.results27, go_sem, clamp]
    omega
end Go.Proofs.YtmpkkphohilkoaaDoor.B
/- match.evaluate: what it is handed, what it answers; the rules laid. -/
namespace Go.Ma
/-- What comes of an outcome in the end. -/
def Shape (r : Res) : Prop := (r.kind = 0 → r = .zero) ∧ (r.kind = 1 → r.label = ⟨#[]⟩) ∧ (r.kind = 2 → r.forest = [] ∧ r.trees = 0)
theorem shape_zero : Shape .zero := ⟨fun _ => rfl, fun h => by simp [Res.zero] at h, fun h => by simp [Res.zero] at h⟩
theorem shape_mat (p : Nat) : Shape (.mat p) := ⟨fun h => by simp [Res.mat] at h, fun _ => rfl, fun h => by simp [Res.mat] at h⟩
mutual
theorem ev_shape (e : Env) (l : Lim) : ∀ (f : Nat) (t : T) (p d : Nat) (s : St), Shape (ev e l f t p d s).1
  | 0, _, _, _, _ => by rw [ev]; exact shape_zero
  | f + 1, t, p, d, s => by
    by_cases hs : stop l d s = true
    · rw [ev_stop e l t hs]
      exact shape_zero
    · match t with
      | .emp => rw [ev_emp e l hs]; exact shape_mat p
      | .set c =>
        rw [ev_set e l c hs]
        split
        · exact shape_mat _
        · exact shape_zero
      | .rule n => rw [ev_rule e l n hs]; exact ev_shape e l f _ _ _ _
      | .thr x => rw [ev_thr e l x hs]; exact ⟨fun h => by simp at h, fun h => by simp at h, fun _ => ⟨rfl, rfl⟩⟩
      | .seq a b =>
        rw [ev_seq e l a b hs]
        split
        · exact ev_shape e l f a p _ _
        · have h2 := ev_shape e l f b (ev e l f a p (d + 1) (tick d s)).1.en (d + 1) (ev e l f a p (d + 1) (tick d s)).2
          split
          · rename_i hk
            exact ⟨fun h => by simp only at h; rw [hk] at h; exact absurd h (by decide), fun _ => h2.2.1 hk, fun h => by simp only at h; rw [hk] at h; exact absurd h (by decide)⟩
          · exact h2
      | .alt a b =>
        rw [ev_alt e l a b hs]
        split
        · exact ev_shape e l f a p _ _
        · exact ev_shape e l f b p _ _
      | .star a => rw [ev_star e l a hs]; exact lp_shape e l f a p [] 0 d _
      | .not a =>
        rw [ev_not e l a hs]
        split
        · exact shape_zero
        · exact shape_mat p
      | .cap nm a =>
        rw [ev_cap e l nm a hs]
        have h2 := ev_shape e l f a p (d + 1) (tick d s)
        split
        · exact h2
        · rename_i hk
          have hk' : (ev e l f a p (d + 1) (tick d s)).1.kind = 1 := by simpa using hk
          exact ⟨fun h => by simp only at h; rw [hk'] at h; exact absurd h (by decide), fun _ => h2.2.1 hk', fun h => by simp only at h; rw [hk'] at h; exact absurd h (by decide)⟩
theorem lp_shape (e : Env) (l : Lim) : ∀ (f : Nat) (a : T) (q : Nat) (fo : List Cap) (tr : Nat) (d : Nat) (s : St), Shape (lp e l f a q fo tr d s).1
  | 0, _, _, _, _, _, _ => by rw [lp]; exact shape_zero
  | f + 1, a, q, fo, tr, d, s => by
    by_cases he : s.err = 0
    · rw [lp_go e l a q fo tr he]
      split
      · exact ⟨fun h => by simp at h, fun _ => rfl, fun h => by simp at h⟩
      · split
        · exact ev_shape e l f a q _ _
        · exact lp_shape e l f a _ _ _ d _
    · rw [lp_err e l a q fo tr he]
      exact shape_zero
end
end Go.Ma
namespace Go.Proofs.YtmpkkphohilkoaaDoor.B
open Go Go.RowKit Go.X Go.Ma Go.Proofs.YtmpkkphohilkoaaDoorW.PrintWords Go.Proofs.YtmpkkphohilkoaaDoor.F

def cr (rs : List S42) (i : Nat) : S42 := rs.getD i z42
theorem cr_at {w : World} {A : Option Addr} {rs : List S42} (h : Kd.C k42 w A rs.length rs) (k : Nat) (hk : k < rs.length) :
    ∃ ad A1 c1, A = some ad ∧ w.cell? (ad.add (k * 2)) = some (.string (cr rs k).f0) ∧ w.cell? ⟨(ad.add (k * 2)).block, (ad.add (k * 2)).off + 1, none⟩ = some (.slice A1 (cr rs k).f1.length c1) ∧ (cr rs k).f1.length ≤ c1 ∧ Kd.C k47 w A1 (cr rs k).f1.length (cr rs k).f1 := by
  have := at_T42 h (k : Int) (by omega) (by omega)
  simpa only [Int.toNat_natCast, rd_T42, cr] using this
/-- A rule's body as nodes, and its tree. -/
def bod (rs : List S42) (i : Nat) : List CN := (cr rs i).f1.map cnOf
def tre (rs : List S42) (i : Nat) : T := tr (bod rs i) ((cr rs i).f1.length - 1)
/-- What Check lets pass, as the evaluation needs it. -/
structure Good (rs : List S42) : Prop where
  few : 0 < rs.length ∧ rs.length ≤ 1048576
  len : ∀ i, i < rs.length → (cr rs i).f1.length ≤ 1048576
  fits : ∀ i, i < rs.length → fits (bod rs i) (cr rs i).f1.length
  one : ∀ i, i < rs.length → (istk (bod rs i) (cr rs i).f1.length).length = 1
  op : ∀ i, i < rs.length → ∀ j, j < (cr rs i).f1.length → 0 ≤ (cd (cr rs i).f1 j).f0 ∧ (cd (cr rs i).f1 j).f0 ≤ 8 ∧ 0 ≤ (cd (cr rs i).f1 j).f2
  low : ∀ i, i < rs.length → low rs.length (tre rs i)
/-- The evaluation's surroundings. -/
def envOf (rs : List S42) (inp : ByteArray) : Env := ⟨tre rs, inp.size, fun c p => if h : p < inp.size then clsHas c ((inp[p]'h).toNat : Int) else false⟩
theorem fix_of (rs : List S42) (inp : ByteArray) (A : Addr) (cR rb : Nat) (D S : Int) (hg : Good rs) (hi : inp.size ≤ 1048576) : Fix ⟨inp, A, rs.length, cR, rb, clamp D S, envOf rs inp⟩ where
  steps := (clamp_le D S).2
  depth := Nat.le_trans (clamp_le D S).1 (by decide)
  len := rfl
  short := hi
  low := hg.low
  has := fun c p h => by simp only [envOf]; rw [dif_pos h]
def st0 : St := ⟨0, 0, 0⟩
/-- The whole run. -/
def runOf (rs : List S42) (inp : ByteArray) (rule p : Nat) (D S : Int) : Res × St := ev (envOf rs inp) (clamp D S) (2 * (clamp D S).steps + 1) (tre rs rule) p 1 st0
/-- What a run answers: kind, end, label, forest; what was used; the error. -/
def ansRes (x : Res × St) : Res := if x.2.err = 0 then x.1 else .zero
def ansSt (x : Res × St) : St := if x.2.err = 0 then x.2 else ⟨0, 0, x.2.err⟩
def RunAns (w : World) (x : Res × St) (e : Ending) (w' : World) : Prop :=
  ∃ v, e = .returned (.tuple #[.agg #[.int .i64 (ansRes x).kind, .int .i64 ((ansRes x).en : Nat), .string (ansRes x).label, v], .agg #[.int .i64 ((ansSt x).depth : Nat), .int .i64 ((ansSt x).steps : Nat)], .int .i64 (ansSt x).err]) ∧ Below w.heap.size w w' ∧ OwnF w' w.heap.size v (ansRes x).forest
end Go.Proofs.YtmpkkphohilkoaaDoor.B
/- match.evaluate, walked. -/
namespace Go.Proofs.YtmpkkphohilkoaaDoor.B
open Go Go.RowKit Go.X Go.Ma Go.Proofs.YtmpkkphohilkoaaDoorW.PrintWords Go.Proofs.YtmpkkphohilkoaaDoor.F

/-- The run's record while the rules are laid. -/
def recCells (inp : ByteArray) (v : Value) (l : Lim) : List Value := [.string inp, v, .int .i64 (l.depth : Nat), .int .i64 (l.steps : Nat), .int .i64 0, .int .i64 0, .int .i64 0]
/-- Within evaluate. -/
structure EV (w wr : World) (A0 : Option Addr) (N cr : Nat) (start D S : Int) (rb : Nat) (inp : ByteArray) (v : Value) (l : Lim) (vs : List Value) : Prop where
  bel : Below w.heap.size w wr
  b5 : Blk wr w.heap.size 24 [.slice A0 N cr, .int .i64 start]
  b10 : Blk wr (w.heap.size + 1 + 1) 31 [.int .i64 0, .int .i64 0, .string ⟨#[]⟩, .slice none 0 0]
  b11 : Blk wr (w.heap.size + 1 + 1 + 1) 32 [.int .i64 0, .int .i64 0]
  rec_ : Blk wr rb 70 (recCells inp v l)
  own : wr.ownsRow w.heap.size 72 1 v vs.length vs
  lt : w.heap.size + 1 + 1 + 1 < rb
theorem EV.more {w wr w' : World} {A0 : Option Addr} {N cr : Nat} {start D S : Int} {rb : Nat} {inp : ByteArray} {v : Value} {l : Lim} {vs : List Value} (h : EV w wr A0 N cr start D S rb inp v l vs) (hg : wr.grownBy w' none) : EV w w' A0 N cr start D S rb inp v l vs :=
  ⟨h.bel.grown hg h.bel.size (fun k hk => by cases hk), h.b5.grown hg (by simp), h.b10.grown hg (by simp), h.b11.grown hg (by simp), h.rec_.grown hg (by simp), h.own.kept hg (by cases hv : v.ownBlock <;> simp), h.lt⟩
theorem EV.push {w wr w5 : World} {A0 : Option Addr} {N cr : Nat} {start D S : Int} {rb : Nat} {inp : ByteArray} {v v' x : Value} {l : Lim} {vs : List Value} (h : EV w wr A0 N cr start D S rb inp v l vs)
    (hown : w5.ownsRow w.heap.size 72 1 v' (vs.length + 1) (vs ++ [x])) (hg : (wr.alloc (.cells #[x] 72)).grownBy w5 v.ownBlock) :
    EV w (w5.setCell ⟨rb, 1, none⟩ v') A0 N cr start D S rb inp v' l (vs ++ [x]) ∧ w5.cell? ⟨rb, 1, none⟩ = some v ∧ w5.frozen? ⟨rb, 1, none⟩ = false := by
  have h1 := h.more (World.grownBy_alloc wr (.cells #[x] 72) none)
  have k : ∀ {b : Nat} {t : TypeId} {cs : List Value}, Blk (wr.alloc (.cells #[x] 72)) b t cs → t ≠ 72 → Blk w5 b t cs := fun hb ht => hb.grown hg (fun e => own_other h1.own hb ht e.symm)
  have r5 := k h1.rec_ (by decide)
  have gs := grown_setCell w5 ⟨rb, 1, none⟩ v'
  have k2 : ∀ {b : Nat} {t : TypeId} {cs : List Value}, Blk w5 b t cs → b ≠ rb → Blk (w5.setCell ⟨rb, 1, none⟩ v') b t cs := fun hb hne => hb.grown gs (by intro e; injection e with e; exact hne e)
  have hlt := h.lt
  have bb := h1.bel.grown hg h1.bel.size (fun q hq => (h1.own.lt q hq).1)
  exact ⟨⟨bb.setCell (by simp only; omega) _, k2 (k h1.b5 (by decide)) (by omega), k2 (k h1.b10 (by decide)) (by omega), k2 (k h1.b11 (by decide)) (by omega), r5.setCell 1 _, by
    rw [List.length_append, List.length_singleton]
    exact hown.kept gs (.inr (own_other hown r5 (by decide))), h.lt⟩, r5.cell 1, r5.frozen 1⟩
/-- Behind the step. -/
structure E2 (w wr : World) (rb : Nat) (inp : ByteArray) (A : Addr) (N cR : Nat) (l : Lim) (s : St) : Prop where
  bel : Below w.heap.size w wr
  b10 : Blk wr (w.heap.size + 1 + 1) 31 [.int .i64 0, .int .i64 0, .string ⟨#[]⟩, .slice none 0 0]
  b11 : Blk wr (w.heap.size + 1 + 1 + 1) 32 [.int .i64 0, .int .i64 0]
  rec_ : Blk wr rb 70 (runCells inp A N cR l s)
  lt : w.heap.size + 1 + 1 + 1 < rb
theorem E2.more {w wr w' : World} {rb : Nat} {inp : ByteArray} {A : Addr} {N cR : Nat} {l : Lim} {s : St} (h : E2 w wr rb inp A N cR l s) (hg : wr.grownBy w' none) : E2 w w' rb inp A N cR l s :=
  ⟨h.bel.grown hg h.bel.size (fun k hk => by cases hk), h.b10.grown hg (by simp), h.b11.grown hg (by simp), h.rec_.grown hg (by simp), h.lt⟩
theorem E2.own {w wr w' : World} {rb b : Nat} {inp : ByteArray} {A : Addr} {N cR : Nat} {l : Lim} {s : St} (h : E2 w wr rb inp A N cR l s) (hg : wr.grownBy w' (some b)) (hb : rb < b) : E2 w w' rb inp A N cR l s :=
  have := h.lt
  ⟨h.bel.grown hg h.bel.size (fun k hk => by injection hk with hk; omega), h.b10.grown hg (by intro e; injection e with e; omega), h.b11.grown hg (by intro e; injection e with e; omega), h.rec_.grown hg (by intro e; injection e with e; omega), h.lt⟩
theorem farD {w : World} {p : Addr} {v : Value} (h : w.cell? p = some v) : w.drew.cell? p = some v := h
theorem far1 {w : World} {b i : Nat} {p : Addr} {v x : Value} (h : b ≠ p.block) (hp : w.cell? p = some v) : (w.setCell ⟨b, i, none⟩ x).cell? p = some v := (World.cell?_setCell_far w ⟨b, i, none⟩ p x h).trans hp
theorem farA4 {w : World} {b : Nat} {p : Addr} {v x0 x1 x2 x3 : Value} (h : b ≠ p.block) (hp : w.cell? p = some v) : ((((w.setCell ⟨b, 0, none⟩ x0).setCell ⟨b, 1, none⟩ x1).setCell ⟨b, 2, none⟩ x2).setCell ⟨b, 3, none⟩ x3).drew.cell? p = some v := farD (far1 h (far1 h (far1 h (far1 h hp))))
theorem farA6 {w : World} {b b' : Nat} {p : Addr} {v x0 x1 x2 x3 y0 y1 : Value} (h : b ≠ p.block) (h' : b' ≠ p.block) (hp : w.cell? p = some v) : ((((((w.setCell ⟨b, 0, none⟩ x0).setCell ⟨b, 1, none⟩ x1).setCell ⟨b, 2, none⟩ x2).setCell ⟨b, 3, none⟩ x3).setCell ⟨b', 0, none⟩ y0).setCell ⟨b', 1, none⟩ y1).drew.cell? p = some v := farD (far1 h' (far1 h' (far1 h (far1 h (far1 h (far1 h hp))))))
def set4 (w : World) (b : Nat) (x0 x1 x2 x3 : Value) : World := (((w.setCell ⟨b, 0, none⟩ x0).setCell ⟨b, 1, none⟩ x1).setCell ⟨b, 2, none⟩ x2).setCell ⟨b, 3, none⟩ x3
def set2 (w : World) (b : Nat) (y0 y1 : Value) : World := (w.setCell ⟨b, 0, none⟩ y0).setCell ⟨b, 1, none⟩ y1
theorem E2.fin {w wr wz : World} {rb : Nat} {inp : ByteArray} {A : Addr} {N cR : Nat} {l : Lim} {s : St} {v x0 x1 x2 x3 y0 y1 : Value} {F : List Cap} (h : E2 w wr rb inp A N cR l s) (ho : OwnF wr w.heap.size v F) (hwz : wz = (set2 (set4 wr (w.heap.size + 1 + 1) x0 x1 x2 x3) (w.heap.size + 1 + 1 + 1) y0 y1).drew) :
    Below w.heap.size w wz ∧ OwnF wz w.heap.size v F ∧ Blk wz (w.heap.size + 1 + 1) 31 [x0, x1, x2, x3] ∧ Blk wz (w.heap.size + 1 + 1 + 1) 32 [y0, y1] := by
  subst hwz
  have g1 : wr.grownBy (set4 wr (w.heap.size + 1 + 1) x0 x1 x2 x3) (some (w.heap.size + 1 + 1)) := Fr4.grown2 (Fr4.grown2 (Fr4.grown2 (grown_setCell wr ⟨w.heap.size + 1 + 1, 0, none⟩ x0) (grown_setCell _ ⟨w.heap.size + 1 + 1, 1, none⟩ x1)) (grown_setCell _ ⟨w.heap.size + 1 + 1, 2, none⟩ x2)) (grown_setCell _ ⟨w.heap.size + 1 + 1, 3, none⟩ x3)
  have b1 : Blk (set4 wr (w.heap.size + 1 + 1) x0 x1 x2 x3) (w.heap.size + 1 + 1) 31 [x0, x1, x2, x3] := (((h.b10.setCell 0 x0).setCell 1 x1).setCell 2 x2).setCell 3 x3
  have c1 := h.b11.grown g1 (by intro e; injection e with e; omega)
  have o1 := ho.kept g1 h.b10 (by decide)
  have l1 := h.bel.grown g1 h.bel.size (fun k hk => by injection hk with hk; omega)
  generalize set4 wr (w.heap.size + 1 + 1) x0 x1 x2 x3 = w1 at g1 b1 c1 o1 l1
  have g2 : w1.grownBy (set2 w1 (w.heap.size + 1 + 1 + 1) y0 y1) (some (w.heap.size + 1 + 1 + 1)) := Fr4.grown2 (grown_setCell w1 ⟨w.heap.size + 1 + 1 + 1, 0, none⟩ y0) (grown_setCell _ ⟨w.heap.size + 1 + 1 + 1, 1, none⟩ y1)
  have c2 : Blk (set2 w1 (w.heap.size + 1 + 1 + 1) y0 y1) (w.heap.size + 1 + 1 + 1) 32 [y0, y1] := (c1.setCell 0 y0).setCell 1 y1
  have b2 := b1.grown g2 (by intro e; injection e with e; omega)
  have o2 := o1.kept g2 c1 (by decide)
  have l2 := l1.grown g2 l1.size (fun k hk => by injection hk with hk; omega)
  have hq := Below.drewQ (w := set2 w1 (w.heap.size + 1 + 1 + 1) y0 y1) ⟨1, rfl⟩
  exact ⟨l2.trans (hq.mono l2.size), o2.more (Go.X.grown_of_below hq none), b2.below hq b2.lt, c2.below hq c2.lt⟩
set_option maxRecDepth 100000 in
set_option maxHeartbeats 4000000 in
theorem evaluate.calls (Ar : Option Addr) (c : Nat) (start : Int) (rs : List S42) (rule at_ : Nat) (inp : ByteArray) (D S : Int) (w : World) (hr : Kd.C k42 w Ar rs.length rs) (hg : Good rs) (hru : rule < rs.length) (hi : inp.size ≤ 1048576) (hat : at_ ≤ inp.size) :
    Calls Tryd.prog 17 #[.agg #[.slice Ar rs.length c, .int .i64 start], .int .i64 (rule : Nat), .string inp, .int .i64 (at_ : Nat), .agg #[.int .i64 D, .int .i64 S]] w (RunAns w (runOf rs inp rule at_ D S)) := by
  have HR := Lib.hid hr; clear hr
  have HG := Lib.hid hg; clear hg
  have HI := Lib.hid (And.intro hru (And.intro hi hat)); clear hru hi hat
  go_enter Tryd.func17, Tryd.ntmps17
  go_wp2_with (fail)
  have HW : ∀ wa : World, wa = (((w.alloc (.cells #[.slice Ar rs.length c, .int .i64 start] 24)).alloc (.cells #[.int .i64 D, .int .i64 S] 26)).alloc (.cells #[.int .i64 0, .int .i64 0, .string ⟨#[]⟩, .slice none 0 0] 31)).alloc (.cells #[.int .i64 0, .int .i64 0] 32) →
      Hid (Below w.heap.size w wa ∧ Blk wa w.heap.size 24 [.slice Ar rs.length c, .int .i64 start] ∧ Blk wa (w.heap.size + 1 + 1) 31 [.int .i64 0, .int .i64 0, .string ⟨#[]⟩, .slice none 0 0] ∧ Blk wa (w.heap.size + 1 + 1 + 1) 32 [.int .i64 0, .int .i64 0]) := by
    rintro wa rfl
    generalize hw1 : w.alloc (.cells #[.slice Ar rs.length c, .int .i64 start] 24) = w1
    have z1 : w1.heap.size = w.heap.size + 1 := by rw [← hw1]; simp
    have g1 : Below w.heap.size w w1 ∧ Blk w1 w.heap.size 24 [.slice Ar rs.length c, .int .i64 start] := by rw [← hw1]; exact ⟨(Below.refl _ w).alloc (Nat.le_refl _) _, Blk.alloc w _ _⟩
    generalize hw2 : w1.alloc (.cells #[.int .i64 D, .int .i64 S] 26) = w2
    have z2 : w2.heap.size = w.heap.size + 1 + 1 := by rw [← hw2]; simp [z1]
    have g2 : w1.grownBy w2 none := by rw [← hw2]; exact World.grownBy_alloc _ _ none
    generalize hw3 : w2.alloc (.cells #[.int .i64 0, .int .i64 0, .string ⟨#[]⟩, .slice none 0 0] 31) = w3
    have z3 : w3.heap.size = w.heap.size + 1 + 1 + 1 := by rw [← hw3]; simp [z2]
    have g3 : w2.grownBy w3 none := by rw [← hw3]; exact World.grownBy_alloc _ _ none
    have k3 : Blk w3 (w.heap.size + 1 + 1) 31 [.int .i64 0, .int .i64 0, .string ⟨#[]⟩, .slice none 0 0] := by rw [← hw3, ← z2]; exact Blk.alloc w2 _ _
    have g4 := World.grownBy_alloc w3 (.cells #[.int .i64 0, .int .i64 0] 32) none
    have k4 := Blk.alloc w3 #[.int .i64 0, .int .i64 0] 32
    rw [z3] at k4
    have g := Fr4.grown2 (Fr4.grown2 g2 g3) g4
    exact ⟨g1.1.grown g g1.1.size (fun k hk => by cases hk), g1.2.grown g (by simp), k3.grown g4 (by simp), k4⟩
  generalize hwa : (((w.alloc (.cells #[.slice Ar rs.length c, .int .i64 start] 24)).alloc (.cells #[.int .i64 D, .int .i64 S] 26)).alloc (.cells #[.int .i64 0, .int .i64 0, .string ⟨#[]⟩, .slice none 0 0] 31)).alloc (.cells #[.int .i64 0, .int .i64 0] 32) = wa
  have HA := HW wa hwa.symm
  clear HW hwa
  refine (bounded.calls D S wa).mono ?_
  rintro e w1 ⟨rfl, hg⟩
  have HB : Hid (EV w (w1.alloc (.cells #[.string inp, .slice none 0 0, .int .i64 ((clamp D S).depth : Nat), .int .i64 ((clamp D S).steps : Nat), .int .i64 0, .int .i64 0, .int .i64 0] 70)) Ar rs.length c start D S w1.heap.size inp (.slice none 0 0) (clamp D S) []) := by
    obtain ⟨h1, h2, h3, h4⟩ := HA.out
    have g := Fr4.grown2 hg (World.grownBy_alloc w1 (.cells #[.string inp, .slice none 0 0, .int .i64 ((clamp D S).depth : Nat), .int .i64 ((clamp D S).steps : Nat), .int .i64 0, .int .i64 0, .int .i64 0] 70) none)
    exact ⟨h1.grown g h1.size (fun k hk => by cases hk), h2.grown g (by simp), h3.grown g (by simp), h4.grown g (by simp), Blk.alloc w1 _ _, World.ownsRow_nil _ _ _ _, Nat.lt_of_lt_of_le h4.lt hg.size⟩
  clear hg HA
  dsimp only
  go_upto_region 2 with (fail)
  generalize hwb : w1.alloc (.cells #[.string inp, .slice none 0 0, .int .i64 ((clamp D S).depth : Nat), .int .i64 ((clamp D S).steps : Nat), .int .i64 0, .int .i64 0, .int .i64 0] 70) = wb
  rw [hwb] at HB
  clear hwb
  generalize w1.heap.size = rb at *
  have a0 : wb.cell? ⟨w.heap.size, 0, none⟩ = some (.slice Ar rs.length c) := HB.out.b5.cell 0
  go_wp2
  go_loopg [26] rs.length (fun q v wr => ∃ (i : Nat) (vv : Value), q + i = rs.length ∧ v = .int .i64 (i : Nat) ∧ Hid (EV w wr Ar rs.length c start D S rb inp vv (clamp D S) ((List.range i).map fun n => tv (tre rs n))))
  case atStart => exact ⟨0, _, by simp, rfl, HB.out⟩
  case round =>
    clear HB a0
    obtain ⟨i, vv, hi, rfl, HE⟩ := hrel
    by_cases hlt : i < rs.length
    · obtain ⟨ad, A1, c1, eA, e0, e1, hl1, hc1⟩ := cr_at (Kd.C_below HR.out HE.out.bel) i hlt
      subst eA
      have HC1 := Lib.hid hc1; clear hc1 hl1
      have HGI := Lib.hid (And.intro (HG.out.len i hlt) (And.intro (HG.out.fits i hlt) (And.intro (HG.out.one i hlt) (HG.out.op i hlt))))
      have HIN : Hid (i < rs.length ∧ rs.length ≤ 1048576) := ⟨hlt, HG.out.few.2⟩
      obtain ⟨av, cv, hvv⟩ := Go.X.own_slice HE.out.own
      subst hvv
      rw [List.length_map, List.length_range] at HE
      have HWA : ∀ wa : World, wa = wr.alloc (.cells #[.string (cr rs i).f0, .slice A1 (cr rs i).f1.length c1] 42) → Hid (EV w wa (some ad) rs.length c start D S rb inp (.slice av i cv) (clamp D S) ((List.range i).map fun n => tv (tre rs n)) ∧ Blk wa wr.heap.size 42 [.string (cr rs i).f0, .slice A1 (cr rs i).f1.length c1] ∧ Kd.C k47 wa A1 (cr rs i).f1.length (cr rs i).f1) := by
        rintro wa rfl
        have g := World.grownBy_alloc wr (.cells #[.string (cr rs i).f0, .slice A1 (cr rs i).f1.length c1] 42) none
        exact ⟨HE.out.more g, Blk.alloc wr _ _, Kd.C_below HC1.out (below_of_grown g)⟩
      go_upto_region 5 with (fail)
      generalize hwa : wr.alloc (.cells #[.string (cr rs i).f0, .slice A1 (cr rs i).f1.length c1] 42) = wq
      have HA := HWA wq hwa.symm
      clear HWA hwa HE e0 e1 HC1
      generalize wr.heap.size = bs at *
      have hVS : ((List.range i).map fun n => tv (tre rs n)).length = i := by rw [List.length_map, List.length_range]
      obtain ⟨vs, hvs⟩ : ∃ vs, ((List.range i).map fun n => tv (tre rs n)) = vs := ⟨_, rfl⟩
      rw [hvs] at HA hVS
      have HVS := Lib.hid (And.intro hvs hVS)
      clear hvs hVS
      obtain ⟨tx, px, htx⟩ : ∃ tx px, tv (tre rs i) = .iface tx px := ⟨_, _, tv_eq _⟩
      have HTV := Lib.hid htx; clear htx
      obtain ⟨i74, hi74⟩ : ∃ i74, Tryd.prog.info? 72 = some i74 ∧ i74.zero = some .nilIface ∧ i74.size = 1 ∧ i74.bytes = 16 := by
        obtain ⟨j, h1, h2⟩ := Option.map_eq_some_iff.1 info72
        simp only [Prod.mk.injEq] at h2
        exact ⟨j, h1, h2.1, h2.2.1, h2.2.2⟩
      have H74 := Lib.hid hi74; clear hi74
      have HD : Hid (EV w wq.drew (some ad) rs.length c start D S rb inp (.slice av i cv) (clamp D S) vs ∧ Kd.C k47 wq.drew A1 (cr rs i).f1.length (cr rs i).f1) :=
        ⟨HA.out.1.more (Go.X.grown_of_below (Below.drewQ ⟨1, rfl⟩) none), Kd.C_below HA.out.2.2 (Below.drewQ ⟨1, rfl⟩)⟩
      have p0 : wq.cell? ⟨rb, 1, none⟩ = some (.slice av i cv) := HA.out.1.rec_.cell 1
      have p1 : wq.cell? ⟨bs, 1, none⟩ = some (.slice A1 (cr rs i).f1.length c1) := HA.out.2.1.cell 1
      go_region_law (first
        | (refine step_append_lies (w4.alloc (.cells #[.iface tx px] 72)) rfl (.tmp 34) (.tmp 38) 68 rfl w.heap.size 72 i74 .nilIface 1 16 Tryd.underlying68 H74.out.1 H74.out.2.1 H74.out.2.2.1 H74.out.2.2.2 rfl (by decide) (.slice av i cv) i vs (by simp [Act.eval]) HO4.out ⟨w4.heap.size, 0, none⟩ 1 1 [.iface tx px] (by simp [Act.eval]) rfl HNW.out (by intro u hu; simp at hu; subst hu; rfl) (by decide) (by have := HIN.out; simp only [maxLen]; omega) (by have := HIN.out; omega) HB4.out _ rfl ?_; intro g cap w5 hown hgr _ _
           obtain ⟨hE5, q1, q2⟩ := HE4.out.push (by rw [HVS.out.2]; exact hown) hgr
           have HE5 := Lib.hid hE5
           clear hE5 hown hgr)
        | (go_simp; go_at_call 28; refine (laid.calls A1 c1 (cr rs i).f1 _ HD.out.2 HGI.out.1 HGI.out.2.1 HGI.out.2.2.1 HGI.out.2.2.2).mono ?_; rintro e w4 ⟨he, hb4⟩
           have hq : e = .returned (.iface tx px) := he.trans (by rw [← HTV.out]; rfl)
           clear he
           subst hq
           have HE4 : Hid (EV w w4 (some ad) rs.length c start D S rb inp (.slice av i cv) (clamp D S) vs) := HD.out.1.more (Go.X.grown_of_below hb4 none)
           have HO4 : Hid ((w4.alloc (.cells #[.iface tx px] 72)).ownsRow w.heap.size 72 1 (.slice av i cv) i vs) := by have := HE4.out.own.alloc (.cells #[.iface tx px] 72); rw [HVS.out.2] at this; exact this
           have HNW : Hid (∀ j u, [Value.iface tx px][j]? = some u → (w4.alloc (.cells #[.iface tx px] 72)).cell? ((⟨w4.heap.size, 0, none⟩ : Addr).add j) = some u) := World.news_of_block (heap_alloc_new w4 (.cells #[.iface tx px] 72))
           have HB4 : Hid (w.heap.size ≤ (w4.alloc (.cells #[.iface tx px] 72)).heap.size) := (HE4.out.bel.alloc HE4.out.bel.size _).size
           have p4 : w4.cell? ⟨rb, 1, none⟩ = some (.slice av i cv) := HE4.out.rec_.cell 1
           have p5 : (w4.alloc (.cells #[.iface tx px] 72)).cell? ⟨rb, 1, none⟩ = some (.slice av i cv) := (HE4.out.more (World.grownBy_alloc w4 _ none)).rec_.cell 1
           clear hb4))
      all_goals
        have HE6 : Hid (EV w (w5.setCell ⟨rb, 1, none⟩ (.slice (some ⟨g, 0, none⟩) (i + 1) cap)) (some ad) rs.length c start D S rb inp (.slice (some ⟨g, 0, none⟩) (i + 1) cap) (clamp D S) ((List.range (i + 1)).map fun n => tv (tre rs n))) := by
          rw [List.range_succ, List.map_append, HVS.out.1]
          have := HTV.out
          simp only [List.map_cons, List.map_nil, this]
          exact HE5.out
        clear HE5 HE4 HO4 HNW HB4 p4 p5 p0 p1 q1 q2 HD HA
        have hiw : wrap64 ((i : Int) + 1) = ((i + 1 : Nat) : Int) := by have := HIN.out; rw [IntWalk.wrap64_in _ (by omega)]; rfl
        go_wp2
        go_roundg (rs.length - (i + 1))
        case measure => clear hiw; omega
        case rel => exact ⟨i + 1, _, by clear hiw; omega, by first | rfl | rw [hiw], HE6.out⟩
    · have hie : i = rs.length := by omega
      rw [hie] at HE
      have HVL : Hid (((List.range rs.length).map fun n => tv (tre rs n)).length = rs.length) := by show _ = _; rw [List.length_map, List.length_range]
      obtain ⟨av, cv, hvv⟩ := Go.X.own_slice HE.out.own
      subst hvv
      rw [HVL.out] at HE
      obtain ⟨A, ha⟩ : ∃ A, av = some ⟨A, 0, none⟩ := by
        rcases HE.out.own.2 with ⟨_, h0⟩ | ⟨g, cap, cur, hv, _⟩
        · have := HG.out.few.1; rw [HVL.out] at h0; omega
        · simp at hv; exact ⟨g, hv.1⟩
      subst ha
      have HRN : Hid (Rn ⟨inp, ⟨A, 0, none⟩, rs.length, cv, rb, clamp D S, envOf rs inp⟩ st0 wr) := by
        refine ⟨HE.out.rec_, fun n hn => ?_, ?_⟩
        · have ho := HE.out.own
          rw [HVL.out] at ho
          have h1 : (((List.range rs.length).map fun n => tv (tre rs n)))[n]? = some (tv (tre rs n)) := by rw [List.getElem?_map, List.getElem?_range hn]; rfl
          exact ho.cells rfl n _ h1
        · have h1 := own_other HE.out.own HE.out.rec_ (by decide)
          simp only [Value.ownBlock] at h1
          exact fun e => h1 (congrArg some e)
      have HFX := Lib.hid (fix_of rs inp ⟨A, 0, none⟩ cv rb D S HG.out HI.out.2.1)
      have HST := step.calls _ HFX.out (2 * (clamp D S).steps + 1) (2 * (clamp D S).steps + 1) (Nat.le_refl _) (tre rs rule) at_ 1 st0 wr (by simp only [st0]; omega) (HG.out.low rule HI.out.1) HI.out.2.2 (by omega) (Nat.zero_le _) (Nat.zero_le _) HRN.out
      have HSTH := Lib.hid HST; clear HST
      have r1 : wr.cell? ⟨rb, 1, none⟩ = some (.slice (some ⟨A, 0, none⟩) rs.length cv) := HE.out.rec_.cell 1
      have hru : (rule : Int) < (rs.length : Int) := Int.ofNat_lt.2 HI.out.1
      have hru0 : (0 : Int) ≤ (rule : Int) := Int.natCast_nonneg _
      have hn1 : wr.cell? ⟨A, rule, none⟩ = some (tv (tre rs rule)) := by
        have := HRN.out.rules rule HI.out.1
        rwa [Addr.add_lit, Nat.zero_add] at this
      have hat0 : ((1 : Nat) : Int) = (1 : Int) := rfl
      go_wp2_with (fail)
      refine HSTH.out.mono ?_
      rintro e w2 ⟨v1, rfl, hg, hr, ho⟩
      have HRUN : Hid (runOf rs inp rule at_ D S = ev (envOf rs inp) (clamp D S) (2 * (clamp D S).steps + 1) (tre rs rule) at_ 1 st0) := rfl
      have HKO : Hid ((ev (envOf rs inp) (clamp D S) (2 * (clamp D S).steps + 1) (tre rs rule) at_ 1 st0).1.kind = 0 ∨ (ev (envOf rs inp) (clamp D S) (2 * (clamp D S).steps + 1) (tre rs rule) at_ 1 st0).1.kind = 1 ∨ (ev (envOf rs inp) (clamp D S) (2 * (clamp D S).steps + 1) (tre rs rule) at_ 1 st0).1.kind = 2) := (ev_ok (envOf rs inp) (clamp D S) (2 * (clamp D S).steps + 1) (tre rs rule) at_ 1 st0 (by simp only [st0]; omega)).kind
      have HSH := Lib.hid (ev_shape (envOf rs inp) (clamp D S) (2 * (clamp D S).steps + 1) (tre rs rule) at_ 1 st0)
      generalize ev (envOf rs inp) (clamp D S) (2 * (clamp D S).steps + 1) (tre rs rule) at_ 1 st0 = x at hr ho HRUN HSH HKO ⊢
      obtain ⟨⟨xk, xe, xl, xf, xt⟩, xs⟩ := x
      dsimp only at hr ho HSH HKO
      obtain ⟨ax, cx, hv⟩ := Go.X.own_slice ho
      subst hv
      have HE2 : Hid (E2 w w2 rb inp ⟨A, 0, none⟩ rs.length cv (clamp D S) xs ∧ OwnF w2 w.heap.size (.slice ax xf.length cx) xf) := by
        have hlt := HE.out.lt
        exact ⟨⟨HE.out.bel.grown hg HE.out.bel.size (fun k hk => by injection hk with hk; simp only at hk; omega), HE.out.b10.grown hg (by intro e; injection e with e; simp only at e; omega), HE.out.b11.grown hg (by intro e; injection e with e; simp only at e; omega), hr.rec_, hlt⟩, ho.low HE.out.bel.size⟩
      clear hg hr ho HE HSTH r1 hn1 HRN HFX
      dsimp only [resCells]
      have HW3 : ∀ w3 : World, w3 = w2.alloc (.cells #[.int .i64 xk, .int .i64 (xe : Nat), .string xl, .slice ax xf.length cx, .int .i64 (xt : Nat)] 75) → Hid (E2 w w3 rb inp ⟨A, 0, none⟩ rs.length cv (clamp D S) xs ∧ OwnF w3 w.heap.size (.slice ax xf.length cx) xf ∧ Blk w3 w2.heap.size 75 [.int .i64 xk, .int .i64 (xe : Nat), .string xl, .slice ax xf.length cx, .int .i64 (xt : Nat)] ∧ rb < w2.heap.size) := by
        rintro w3 rfl
        have g := World.grownBy_alloc w2 (.cells #[.int .i64 xk, .int .i64 (xe : Nat), .string xl, .slice ax xf.length cx, .int .i64 (xt : Nat)] 75) none
        exact ⟨HE2.out.1.more g, HE2.out.2.more g, Blk.alloc w2 _ _, HE2.out.1.rec_.lt⟩
      go_upto_region 8 with (fail)
      generalize hw3 : w2.alloc (.cells #[.int .i64 xk, .int .i64 (xe : Nat), .string xl, .slice ax xf.length cx, .int .i64 (xt : Nat)] 75) = w3
      have H3 := HW3 w3 hw3.symm
      clear HW3 hw3 HE2
      generalize w2.heap.size = b16 at *
      have e6 : w3.cell? ⟨rb, 6, none⟩ = some (.int .i64 xs.err) := H3.out.1.rec_.cell 6
      have s0 : w3.cell? ⟨w.heap.size + 1 + 1, 0, none⟩ = some (.int .i64 0) := H3.out.1.b10.cell 0
      have s1 : w3.cell? ⟨w.heap.size + 1 + 1, 1, none⟩ = some (.int .i64 0) := H3.out.1.b10.cell 1
      have s2 : w3.cell? ⟨w.heap.size + 1 + 1, 2, none⟩ = some (.string ⟨#[]⟩) := H3.out.1.b10.cell 2
      have s3 : w3.cell? ⟨w.heap.size + 1 + 1, 3, none⟩ = some (.slice none 0 0) := H3.out.1.b10.cell 3
      have t0 : w3.cell? ⟨w.heap.size + 1 + 1 + 1, 0, none⟩ = some (.int .i64 0) := H3.out.1.b11.cell 0
      have t1 : w3.cell? ⟨w.heap.size + 1 + 1 + 1, 1, none⟩ = some (.int .i64 0) := H3.out.1.b11.cell 1
      have f0 := H3.out.1.b10.frozen 0
      have f1 := H3.out.1.b10.frozen 1
      have f2 := H3.out.1.b10.frozen 2
      have f3 := H3.out.1.b10.frozen 3
      have g0 := H3.out.1.b11.frozen 0
      have g1 := H3.out.1.b11.frozen 1
      have HNE : Hid (w.heap.size + 1 + 1 ≠ rb ∧ w.heap.size + 1 + 1 + 1 ≠ rb) := by have := H3.out.1.lt; exact ⟨by omega, by omega⟩
      by_cases he : xs.err = 0
      · have heb : (xs.err == (0 : Int)) = true := by rw [he]; rfl
        have HW4 : ∀ w4 : World, w4 = w3.alloc (.cells #[.int .i64 xk, .int .i64 0, .string ⟨#[]⟩, .slice none 0 0] 31) → Hid (E2 w w4 rb inp ⟨A, 0, none⟩ rs.length cv (clamp D S) xs ∧ OwnF w4 w.heap.size (.slice ax xf.length cx) xf ∧ Blk w4 b16 75 [.int .i64 xk, .int .i64 (xe : Nat), .string xl, .slice ax xf.length cx, .int .i64 (xt : Nat)] ∧ Blk w4 w3.heap.size 31 [.int .i64 xk, .int .i64 0, .string ⟨#[]⟩, .slice none 0 0] ∧ rb < b16 ∧ b16 < w3.heap.size) := by
          rintro w4 rfl
          have g := World.grownBy_alloc w3 (.cells #[.int .i64 xk, .int .i64 0, .string ⟨#[]⟩, .slice none 0 0] 31) none
          exact ⟨H3.out.1.more g, H3.out.2.1.more g, H3.out.2.2.1.grown g (by simp), Blk.alloc w3 _ _, H3.out.2.2.2, H3.out.2.2.1.lt⟩
        have q0 : w3.cell? ⟨b16, 0, none⟩ = some (.int .i64 xk) := H3.out.2.2.1.cell 0
        go_upto_region 11 with (fail)
        generalize hw4 : w3.alloc (.cells #[.int .i64 xk, .int .i64 0, .string ⟨#[]⟩, .slice none 0 0] 31) = w4
        have H4 := HW4 w4 hw4.symm
        clear HW4 hw4 H3 q0 e6 s0 s1 s2 s3 t0 t1 f0 f1 f2 f3 g0 g1
        generalize w3.heap.size = b17 at *
        have m0 : w4.cell? ⟨b16, 0, none⟩ = some (.int .i64 xk) := H4.out.2.2.1.cell 0
        have m1 : w4.cell? ⟨b16, 1, none⟩ = some (.int .i64 (xe : Nat)) := H4.out.2.2.1.cell 1
        have m2 : w4.cell? ⟨b16, 2, none⟩ = some (.string xl) := H4.out.2.2.1.cell 2
        have m3 : w4.cell? ⟨b16, 3, none⟩ = some (.slice ax xf.length cx) := H4.out.2.2.1.cell 3
        have n1 : w4.cell? ⟨b17, 1, none⟩ = some (.int .i64 0) := H4.out.2.2.2.1.cell 1
        have n2 : w4.cell? ⟨b17, 2, none⟩ = some (.string ⟨#[]⟩) := H4.out.2.2.2.1.cell 2
        have n3 : w4.cell? ⟨b17, 3, none⟩ = some (.slice none 0 0) := H4.out.2.2.2.1.cell 3
        have o1 := H4.out.2.2.2.1.frozen 1
        have o2 := H4.out.2.2.2.1.frozen 2
        have o3 := H4.out.2.2.2.1.frozen 3
        have HN4 : Hid (b17 ≠ b16) := by have := H4.out.2.2.2.2.2; show _ ≠ _; omega
        rcases HKO.out with hk | hk | hk
        · have HRES : Hid ((⟨xk, xe, xl, xf, xt⟩ : Res) = .zero) := HSH.out.1 hk
          have HW5 : Hid (E2 w w4 rb inp ⟨A, 0, none⟩ rs.length cv (clamp D S) xs ∧ OwnF w4 w.heap.size (.slice none 0 0) [] ∧ Blk w4 b17 31 [.int .i64 0, .int .i64 0, .string ⟨#[]⟩, .slice none 0 0] ∧ rb < b17) := by
            refine ⟨H4.out.1, OwnF.nil _ _, ?_, by have := H4.out.2.2.2.2; omega⟩
            have := H4.out.2.2.2.1
            rwa [hk] at this
          subst hk
          obtain ⟨w5, hw5⟩ : ∃ w5, w5 = w4 := ⟨_, rfl⟩
          subst hw5
          go_upto_region 16 with (fail)
          have k0 : w5.cell? ⟨b17, 0, none⟩ = some (.int .i64 0) := HW5.out.2.2.1.cell 0
          have k1 : w5.cell? ⟨b17, 1, none⟩ = some (.int .i64 0) := HW5.out.2.2.1.cell 1
          have k2 : w5.cell? ⟨b17, 2, none⟩ = some (.string ⟨#[]⟩) := HW5.out.2.2.1.cell 2
          have k3 : w5.cell? ⟨b17, 3, none⟩ = some (.slice none 0 0) := HW5.out.2.2.1.cell 3
          have u4 : w5.cell? ⟨rb, 4, none⟩ = some (.int .i64 (xs.depth : Nat)) := HW5.out.1.rec_.cell 4
          have u5 : w5.cell? ⟨rb, 5, none⟩ = some (.int .i64 (xs.steps : Nat)) := HW5.out.1.rec_.cell 5
          have s0 : w5.cell? ⟨w.heap.size + 1 + 1, 0, none⟩ = some (.int .i64 0) := HW5.out.1.b10.cell 0
          have s1 : w5.cell? ⟨w.heap.size + 1 + 1, 1, none⟩ = some (.int .i64 0) := HW5.out.1.b10.cell 1
          have s2 : w5.cell? ⟨w.heap.size + 1 + 1, 2, none⟩ = some (.string ⟨#[]⟩) := HW5.out.1.b10.cell 2
          have s3 : w5.cell? ⟨w.heap.size + 1 + 1, 3, none⟩ = some (.slice none 0 0) := HW5.out.1.b10.cell 3
          have t0 : w5.cell? ⟨w.heap.size + 1 + 1 + 1, 0, none⟩ = some (.int .i64 0) := HW5.out.1.b11.cell 0
          have t1 : w5.cell? ⟨w.heap.size + 1 + 1 + 1, 1, none⟩ = some (.int .i64 0) := HW5.out.1.b11.cell 1
          have f0 := HW5.out.1.b10.frozen 0
          have f1 := HW5.out.1.b10.frozen 1
          have f2 := HW5.out.1.b10.frozen 2
          have f3 := HW5.out.1.b10.frozen 3
          have g0 := HW5.out.1.b11.frozen 0
          have g1 := HW5.out.1.b11.frozen 1
          have HN6 : Hid (w.heap.size + 1 + 1 ≠ b17 ∧ w.heap.size + 1 + 1 + 1 ≠ b17) := by have h1 := HW5.out.1.lt; have h2 := HW5.out.2.2.2; exact ⟨by omega, by omega⟩
          go_region_held3 (fun w' => w'.cell? ⟨b17, 0, none⟩ = some (.int .i64 0) ∧ w'.cell? ⟨b17, 1, none⟩ = some (.int .i64 0) ∧ w'.cell? ⟨b17, 2, none⟩ = some (.string ⟨#[]⟩) ∧ w'.cell? ⟨b17, 3, none⟩ = some (.slice none 0 0) ∧ w'.cell? ⟨rb, 4, none⟩ = some (.int .i64 (xs.depth : Nat)) ∧ w'.cell? ⟨rb, 5, none⟩ = some (.int .i64 (xs.steps : Nat)))
            (first
              | with_reducible exact ⟨farA4 HN6.out.1 k0, farA4 HN6.out.1 k1, farA4 HN6.out.1 k2, farA4 HN6.out.1 k3, farA4 HNE.out.1 u4, farA4 HNE.out.1 u5⟩
              | with_reducible exact ⟨farA6 HN6.out.1 HN6.out.2 k0, farA6 HN6.out.1 HN6.out.2 k1, farA6 HN6.out.1 HN6.out.2 k2, farA6 HN6.out.1 HN6.out.2 k3, farA6 HNE.out.1 HNE.out.2 u4, farA6 HNE.out.1 HNE.out.2 u5⟩
              | go_keep)
            (first | fail)
          rename_i hHeld
          clear hHeld
          go_wp2
          clear k0 k1 k2 k3 u4 u5 s0 s1 s2 s3 t0 t1 f0 f1 f2 f3 g0 g1
          (try simp only [Exit.inBlock, Exit.then])
          show bodyPost _ _ _ _ _ (set2 (set4 w5 (w.heap.size + 1 + 1) (.int .i64 0) (.int .i64 0) (.string ⟨#[]⟩) (.slice none 0 0)) (w.heap.size + 1 + 1 + 1) (.int .i64 (xs.depth : Nat)) (.int .i64 (xs.steps : Nat))).drew
          obtain ⟨wz, hwz⟩ : ∃ wz, wz = (set2 (set4 w5 (w.heap.size + 1 + 1) (.int .i64 0) (.int .i64 0) (.string ⟨#[]⟩) (.slice none 0 0)) (w.heap.size + 1 + 1 + 1) (.int .i64 (xs.depth : Nat)) (.int .i64 (xs.steps : Nat))).drew := ⟨_, rfl⟩
          rw [← hwz]
          obtain ⟨hb, ho, k1, k2⟩ := HW5.out.1.fin HW5.out.2.1 hwz
          clear hwz
          have r0 : wz.cell? ⟨w.heap.size + 1 + 1, 0, none⟩ = some (.int .i64 0) := k1.cell 0
          have r1 : wz.cell? ⟨w.heap.size + 1 + 1, 1, none⟩ = some (.int .i64 0) := k1.cell 1
          have r2 : wz.cell? ⟨w.heap.size + 1 + 1, 2, none⟩ = some (.string ⟨#[]⟩) := k1.cell 2
          have r3 : wz.cell? ⟨w.heap.size + 1 + 1, 3, none⟩ = some (.slice none 0 0) := k1.cell 3
          have r4 : wz.cell? ⟨w.heap.size + 1 + 1 + 1, 0, none⟩ = some (.int .i64 (xs.depth : Nat)) := k2.cell 0
          have r5 : wz.cell? ⟨w.heap.size + 1 + 1 + 1, 1, none⟩ = some (.int .i64 (xs.steps : Nat)) := k2.cell 1
          refine bodyPost_ret (v := .tuple #[.agg #[.int .i64 0, .int .i64 0, .string ⟨#[]⟩, .slice none 0 0], .agg #[.int .i64 (xs.depth : Nat), .int .i64 (xs.steps : Nat)], .int .i64 0]) (by simp [results, Tryd.results17, go_sem, r0, r1, r2, r3, r4, r5]) rfl ?_
          rw [HRUN.out]
          refine ⟨.slice none 0 0, ?_, hb, ?_⟩
          · simp only [ansRes, ansSt, if_pos he]
            have h4 := HRES.out
            simp only [Res.zero, Res.mk.injEq] at h4
            rw [h4.2.1, h4.2.2.1, he]
            rfl
          · simp only [ansRes, if_pos he]
            have h4 := HRES.out
            simp only [Res.zero, Res.mk.injEq] at h4
            rw [h4.2.2.2.1]
            exact ho
        · have HRES : Hid (xl = ⟨#[]⟩) := HSH.out.2.1 hk
          have HLBL := HRES
          subst hk
          go_upto_region 13 with (fail)
          go_region_held3 (fun w' => w'.cell? ⟨b16, 1, none⟩ = some (.int .i64 (xe : Nat)) ∧ w'.cell? ⟨b16, 3, none⟩ = some (.slice ax xf.length cx))
            (first
              | with_reducible exact ⟨farD (far1 HN4.out m1), farD (far1 HN4.out m3)⟩
              | with_reducible exact ⟨farD (far1 HN4.out (far1 HN4.out m1)), farD (far1 HN4.out (far1 HN4.out m3))⟩
              | go_keep)
            (first | fail)
          rename_i hHeld
          clear hHeld m0 m1 m2 m3 n1 n2 n3 o1 o2 o3
          have HW5' : ∀ w5 : World, w5 = ((w4.setCell ⟨b17, 1, none⟩ (.int .i64 (xe : Nat))).setCell ⟨b17, 3, none⟩ (.slice ax xf.length cx)).drew → Hid (E2 w w5 rb inp ⟨A, 0, none⟩ rs.length cv (clamp D S) xs ∧ OwnF w5 w.heap.size (.slice ax xf.length cx) xf ∧ Blk w5 b17 31 [.int .i64 1, .int .i64 (xe : Nat), .string ⟨#[]⟩, .slice ax xf.length cx] ∧ rb < b17) := by
            rintro w5 rfl
            have hrb : rb < b17 := by have := H4.out.2.2.2.2; omega
            have g := Fr4.grown2 (grown_setCell w4 ⟨b17, 1, none⟩ (.int .i64 (xe : Nat))) (grown_setCell _ ⟨b17, 3, none⟩ (.slice ax xf.length cx))
            have hq := Go.X.grown_of_below (Below.drewQ (w := (w4.setCell ⟨b17, 1, none⟩ (.int .i64 (xe : Nat))).setCell ⟨b17, 3, none⟩ (.slice ax xf.length cx)) ⟨1, rfl⟩) none
            exact ⟨(H4.out.1.own g hrb).more hq, (H4.out.2.1.kept g H4.out.2.2.2.1 (by decide)).more hq, ((H4.out.2.2.2.1.setCell 1 _).setCell 3 _).grown hq (by simp), hrb⟩
          generalize hw5 : ((w4.setCell ⟨b17, 1, none⟩ (.int .i64 (xe : Nat))).setCell ⟨b17, 3, none⟩ (.slice ax xf.length cx)).drew = w5
          have HW5 := HW5' w5 hw5.symm
          clear HW5' hw5 H4
          have k0 : w5.cell? ⟨b17, 0, none⟩ = some (.int .i64 1) := HW5.out.2.2.1.cell 0
          have k1 : w5.cell? ⟨b17, 1, none⟩ = some (.int .i64 (xe : Nat)) := HW5.out.2.2.1.cell 1
          have k2 : w5.cell? ⟨b17, 2, none⟩ = some (.string ⟨#[]⟩) := HW5.out.2.2.1.cell 2
          have k3 : w5.cell? ⟨b17, 3, none⟩ = some (.slice ax xf.length cx) := HW5.out.2.2.1.cell 3
          have u4 : w5.cell? ⟨rb, 4, none⟩ = some (.int .i64 (xs.depth : Nat)) := HW5.out.1.rec_.cell 4
          have u5 : w5.cell? ⟨rb, 5, none⟩ = some (.int .i64 (xs.steps : Nat)) := HW5.out.1.rec_.cell 5
          have s0 : w5.cell? ⟨w.heap.size + 1 + 1, 0, none⟩ = some (.int .i64 0) := HW5.out.1.b10.cell 0
          have s1 : w5.cell? ⟨w.heap.size + 1 + 1, 1, none⟩ = some (.int .i64 0) := HW5.out.1.b10.cell 1
          have s2 : w5.cell? ⟨w.heap.size + 1 + 1, 2, none⟩ = some (.string ⟨#[]⟩) := HW5.out.1.b10.cell 2
          have s3 : w5.cell? ⟨w.heap.size + 1 + 1, 3, none⟩ = some (.slice none 0 0) := HW5.out.1.b10.cell 3
          have t0 : w5.cell? ⟨w.heap.size + 1 + 1 + 1, 0, none⟩ = some (.int .i64 0) := HW5.out.1.b11.cell 0
          have t1 : w5.cell? ⟨w.heap.size + 1 + 1 + 1, 1, none⟩ = some (.int .i64 0) := HW5.out.1.b11.cell 1
          have f0 := HW5.out.1.b10.frozen 0
          have f1 := HW5.out.1.b10.frozen 1
          have f2 := HW5.out.1.b10.frozen 2
          have f3 := HW5.out.1.b10.frozen 3
          have g0 := HW5.out.1.b11.frozen 0
          have g1 := HW5.out.1.b11.frozen 1
          have HN6 : Hid (w.heap.size + 1 + 1 ≠ b17 ∧ w.heap.size + 1 + 1 + 1 ≠ b17) := by have h1 := HW5.out.1.lt; have h2 := HW5.out.2.2.2; exact ⟨by omega, by omega⟩
          go_upto_region 16 with (fail)
          go_region_held3 (fun w' => w'.cell? ⟨b17, 0, none⟩ = some (.int .i64 1) ∧ w'.cell? ⟨b17, 1, none⟩ = some (.int .i64 (xe : Nat)) ∧ w'.cell? ⟨b17, 2, none⟩ = some (.string ⟨#[]⟩) ∧ w'.cell? ⟨b17, 3, none⟩ = some (.slice ax xf.length cx) ∧ w'.cell? ⟨rb, 4, none⟩ = some (.int .i64 (xs.depth : Nat)) ∧ w'.cell? ⟨rb, 5, none⟩ = some (.int .i64 (xs.steps : Nat)))
            (first
              | with_reducible exact ⟨farA4 HN6.out.1 k0, farA4 HN6.out.1 k1, farA4 HN6.out.1 k2, farA4 HN6.out.1 k3, farA4 HNE.out.1 u4, farA4 HNE.out.1 u5⟩
              | with_reducible exact ⟨farA6 HN6.out.1 HN6.out.2 k0, farA6 HN6.out.1 HN6.out.2 k1, farA6 HN6.out.1 HN6.out.2 k2, farA6 HN6.out.1 HN6.out.2 k3, farA6 HNE.out.1 HNE.out.2 u4, farA6 HNE.out.1 HNE.out.2 u5⟩
              | go_keep)
            (first | fail)
          rename_i hHeld
          clear hHeld
          go_wp2
          clear k0 k1 k2 k3 u4 u5 s0 s1 s2 s3 t0 t1 f0 f1 f2 f3 g0 g1
          (try simp only [Exit.inBlock, Exit.then])
          show bodyPost _ _ _ _ _ (set2 (set4 w5 (w.heap.size + 1 + 1) (.int .i64 1) (.int .i64 (xe : Nat)) (.string ⟨#[]⟩) (.slice ax xf.length cx)) (w.heap.size + 1 + 1 + 1) (.int .i64 (xs.depth : Nat)) (.int .i64 (xs.steps : Nat))).drew
          obtain ⟨wz, hwz⟩ : ∃ wz, wz = (set2 (set4 w5 (w.heap.size + 1 + 1) (.int .i64 1) (.int .i64 (xe : Nat)) (.string ⟨#[]⟩) (.slice ax xf.length cx)) (w.heap.size + 1 + 1 + 1) (.int .i64 (xs.depth : Nat)) (.int .i64 (xs.steps : Nat))).drew := ⟨_, rfl⟩
          rw [← hwz]
          obtain ⟨hb, ho, k1, k2⟩ := HW5.out.1.fin HW5.out.2.1 hwz
          clear hwz
          have r0 : wz.cell? ⟨w.heap.size + 1 + 1, 0, none⟩ = some (.int .i64 1) := k1.cell 0
          have r1 : wz.cell? ⟨w.heap.size + 1 + 1, 1, none⟩ = some (.int .i64 (xe : Nat)) := k1.cell 1
          have r2 : wz.cell? ⟨w.heap.size + 1 + 1, 2, none⟩ = some (.string ⟨#[]⟩) := k1.cell 2
          have r3 : wz.cell? ⟨w.heap.size + 1 + 1, 3, none⟩ = some (.slice ax xf.length cx) := k1.cell 3
          have r4 : wz.cell? ⟨w.heap.size + 1 + 1 + 1, 0, none⟩ = some (.int .i64 (xs.depth : Nat)) := k2.cell 0
          have r5 : wz.cell? ⟨w.heap.size + 1 + 1 + 1, 1, none⟩ = some (.int .i64 (xs.steps : Nat)) := k2.cell 1
          refine bodyPost_ret (v := .tuple #[.agg #[.int .i64 1, .int .i64 (xe : Nat), .string ⟨#[]⟩, .slice ax xf.length cx], .agg #[.int .i64 (xs.depth : Nat), .int .i64 (xs.steps : Nat)], .int .i64 0]) (by simp [results, Tryd.results17, go_sem, r0, r1, r2, r3, r4, r5]) rfl ?_
          rw [HRUN.out]
          refine ⟨.slice ax xf.length cx, ?_, hb, ?_⟩
          · simp only [ansRes, ansSt, if_pos he, HRES.out]
            first
              | rfl
              | rw [he]
              | (rw [he]; rfl)
          · simp only [ansRes, if_pos he, HRES.out]
            exact ho
        · have HRES : Hid (xf = [] ∧ xt = 0) := HSH.out.2.2 hk
          subst hk
          go_upto_region 15 with (fail)
          go_region_held3 (fun w' => w'.cell? ⟨b16, 1, none⟩ = some (.int .i64 (xe : Nat)) ∧ w'.cell? ⟨b16, 2, none⟩ = some (.string xl))
            (first
              | with_reducible exact ⟨farD (far1 HN4.out m1), farD (far1 HN4.out m2)⟩
              | with_reducible exact ⟨farD (far1 HN4.out (far1 HN4.out m1)), farD (far1 HN4.out (far1 HN4.out m2))⟩
              | go_keep)
            (first | fail)
          rename_i hHeld
          clear hHeld m0 m1 m2 m3 n1 n2 n3 o1 o2 o3
          have HW5' : ∀ w5 : World, w5 = ((w4.setCell ⟨b17, 1, none⟩ (.int .i64 (xe : Nat))).setCell ⟨b17, 2, none⟩ (.string xl)).drew → Hid (E2 w w5 rb inp ⟨A, 0, none⟩ rs.length cv (clamp D S) xs ∧ OwnF w5 w.heap.size (.slice none 0 0) [] ∧ Blk w5 b17 31 [.int .i64 2, .int .i64 (xe : Nat), .string xl, .slice none 0 0] ∧ rb < b17) := by
            rintro w5 rfl
            have hrb : rb < b17 := by have := H4.out.2.2.2.2; omega
            have g := Fr4.grown2 (grown_setCell w4 ⟨b17, 1, none⟩ (.int .i64 (xe : Nat))) (grown_setCell _ ⟨b17, 2, none⟩ (.string xl))
            have hq := Go.X.grown_of_below (Below.drewQ (w := (w4.setCell ⟨b17, 1, none⟩ (.int .i64 (xe : Nat))).setCell ⟨b17, 2, none⟩ (.string xl)) ⟨1, rfl⟩) none
            exact ⟨(H4.out.1.own g hrb).more hq, OwnF.nil _ _, ((H4.out.2.2.2.1.setCell 1 _).setCell 2 _).grown hq (by simp), hrb⟩
          generalize hw5 : ((w4.setCell ⟨b17, 1, none⟩ (.int .i64 (xe : Nat))).setCell ⟨b17, 2, none⟩ (.string xl)).drew = w5
          have HW5 := HW5' w5 hw5.symm
          clear HW5' hw5 H4
          have k0 : w5.cell? ⟨b17, 0, none⟩ = some (.int .i64 2) := HW5.out.2.2.1.cell 0
          have k1 : w5.cell? ⟨b17, 1, none⟩ = some (.int .i64 (xe : Nat)) := HW5.out.2.2.1.cell 1
          have k2 : w5.cell? ⟨b17, 2, none⟩ = some (.string xl) := HW5.out.2.2.1.cell 2
          have k3 : w5.cell? ⟨b17, 3, none⟩ = some (.slice none 0 0) := HW5.out.2.2.1.cell 3
          have u4 : w5.cell? ⟨rb, 4, none⟩ = some (.int .i64 (xs.depth : Nat)) := HW5.out.1.rec_.cell 4
          have u5 : w5.cell? ⟨rb, 5, none⟩ = some (.int .i64 (xs.steps : Nat)) := HW5.out.1.rec_.cell 5
          have s0 : w5.cell? ⟨w.heap.size + 1 + 1, 0, none⟩ = some (.int .i64 0) := HW5.out.1.b10.cell 0
          have s1 : w5.cell? ⟨w.heap.size + 1 + 1, 1, none⟩ = some (.int .i64 0) := HW5.out.1.b10.cell 1
          have s2 : w5.cell? ⟨w.heap.size + 1 + 1, 2, none⟩ = some (.string ⟨#[]⟩) := HW5.out.1.b10.cell 2
          have s3 : w5.cell? ⟨w.heap.size + 1 + 1, 3, none⟩ = some (.slice none 0 0) := HW5.out.1.b10.cell 3
          have t0 : w5.cell? ⟨w.heap.size + 1 + 1 + 1, 0, none⟩ = some (.int .i64 0) := HW5.out.1.b11.cell 0
          have t1 : w5.cell? ⟨w.heap.size + 1 + 1 + 1, 1, none⟩ = some (.int .i64 0) := HW5.out.1.b11.cell 1
          have f0 := HW5.out.1.b10.frozen 0
          have f1 := HW5.out.1.b10.frozen 1
          have f2 := HW5.out.1.b10.frozen 2
          have f3 := HW5.out.1.b10.frozen 3
          have g0 := HW5.out.1.b11.frozen 0
          have g1 := HW5.out.1.b11.frozen 1
          have HN6 : Hid (w.heap.size + 1 + 1 ≠ b17 ∧ w.heap.size + 1 + 1 + 1 ≠ b17) := by have h1 := HW5.out.1.lt; have h2 := HW5.out.2.2.2; exact ⟨by omega, by omega⟩
          go_upto_region 16 with (fail)
          go_region_held3 (fun w' => w'.cell? ⟨b17, 0, none⟩ = some (.int .i64 2) ∧ w'.cell? ⟨b17, 1, none⟩ = some (.int .i64 (xe : Nat)) ∧ w'.cell? ⟨b17, 2, none⟩ = some (.string xl) ∧ w'.cell? ⟨b17, 3, none⟩ = some (.slice none 0 0) ∧ w'.cell? ⟨rb, 4, none⟩ = some (.int .i64 (xs.depth : Nat)) ∧ w'.cell? ⟨rb, 5, none⟩ = some (.int .i64 (xs.steps : Nat)))
            (first
              | with_reducible exact ⟨farA4 HN6.out.1 k0, farA4 HN6.out.1 k1, farA4 HN6.out.1 k2, farA4 HN6.out.1 k3, farA4 HNE.out.1 u4, farA4 HNE.out.1 u5⟩
              | with_reducible exact ⟨farA6 HN6.out.1 HN6.out.2 k0, farA6 HN6.out.1 HN6.out.2 k1, farA6 HN6.out.1 HN6.out.2 k2, farA6 HN6.out.1 HN6.out.2 k3, farA6 HNE.out.1 HNE.out.2 u4, farA6 HNE.out.1 HNE.out.2 u5⟩
              | go_keep)
            (first | fail)
          rename_i hHeld
          clear hHeld
          go_wp2
          clear k0 k1 k2 k3 u4 u5 s0 s1 s2 s3 t0 t1 f0 f1 f2 f3 g0 g1
          (try simp only [Exit.inBlock, Exit.then])
          show bodyPost _ _ _ _ _ (set2 (set4 w5 (w.heap.size + 1 + 1) (.int .i64 2) (.int .i64 (xe : Nat)) (.string xl) (.slice none 0 0)) (w.heap.size + 1 + 1 + 1) (.int .i64 (xs.depth : Nat)) (.int .i64 (xs.steps : Nat))).drew
          obtain ⟨wz, hwz⟩ : ∃ wz, wz = (set2 (set4 w5 (w.heap.size + 1 + 1) (.int .i64 2) (.int .i64 (xe : Nat)) (.string xl) (.slice none 0 0)) (w.heap.size + 1 + 1 + 1) (.int .i64 (xs.depth : Nat)) (.int .i64 (xs.steps : Nat))).drew := ⟨_, rfl⟩
          rw [← hwz]
          obtain ⟨hb, ho, k1, k2⟩ := HW5.out.1.fin HW5.out.2.1 hwz
          clear hwz
          have r0 : wz.cell? ⟨w.heap.size + 1 + 1, 0, none⟩ = some (.int .i64 2) := k1.cell 0
          have r1 : wz.cell? ⟨w.heap.size + 1 + 1, 1, none⟩ = some (.int .i64 (xe : Nat)) := k1.cell 1
          have r2 : wz.cell? ⟨w.heap.size + 1 + 1, 2, none⟩ = some (.string xl) := k1.cell 2
          have r3 : wz.cell? ⟨w.heap.size + 1 + 1, 3, none⟩ = some (.slice none 0 0) := k1.cell 3
          have r4 : wz.cell? ⟨w.heap.size + 1 + 1 + 1, 0, none⟩ = some (.int .i64 (xs.depth : Nat)) := k2.cell 0
          have r5 : wz.cell? ⟨w.heap.size + 1 + 1 + 1, 1, none⟩ = some (.int .i64 (xs.steps : Nat)) := k2.cell 1
          refine bodyPost_ret (v := .tuple #[.agg #[.int .i64 2, .int .i64 (xe : Nat), .string xl, .slice none 0 0], .agg #[.int .i64 (xs.depth : Nat), .int .i64 (xs.steps : Nat)], .int .i64 0]) (by simp [results, Tryd.results17, go_sem, r0, r1, r2, r3, r4, r5]) rfl ?_
          rw [HRUN.out]
          refine ⟨.slice none 0 0, ?_, hb, ?_⟩
          · simp only [ansRes, ansSt, if_pos he, HRES.out.1]
            first
              | rfl
              | rw [he]
              | (rw [he]; rfl)
          · simp only [ansRes, if_pos he, HRES.out.1]
            exact ho
      · have heb : (xs.err == (0 : Int)) = false := beq_eq_false_iff_ne.2 he
        go_upto_region 9 with (fail)
        go_region_held3 (fun w' => w'.cell? ⟨rb, 6, none⟩ = some (.int .i64 xs.err))
          (first
            | with_reducible exact farD (far1 HNE.out.1 (far1 HNE.out.1 (far1 HNE.out.1 (far1 HNE.out.1 e6))))
            | with_reducible exact farD (far1 HNE.out.2 (far1 HNE.out.2 (far1 HNE.out.1 (far1 HNE.out.1 (far1 HNE.out.1 (far1 HNE.out.1 e6))))))
            | go_keep)
          (first | fail)
        rename_i hHeld
        clear hHeld
        go_wp2
        clear e6 s0 s1 s2 s3 t0 t1 f0 f1 f2 f3 g0 g1
        (try simp only [Exit.inBlock, Exit.then])
        show bodyPost _ _ _ _ _ (set2 (set4 w3 (w.heap.size + 1 + 1) (.int .i64 0) (.int .i64 0) (.string ⟨#[]⟩) (.slice none 0 0)) (w.heap.size + 1 + 1 + 1) (.int .i64 0) (.int .i64 0)).drew
        obtain ⟨wz, hwz⟩ : ∃ wz, wz = (set2 (set4 w3 (w.heap.size + 1 + 1) (.int .i64 0) (.int .i64 0) (.string ⟨#[]⟩) (.slice none 0 0)) (w.heap.size + 1 + 1 + 1) (.int .i64 0) (.int .i64 0)).drew := ⟨_, rfl⟩
        rw [← hwz]
        obtain ⟨hb, ho, k1, k2⟩ := H3.out.1.fin (OwnF.nil _ _) hwz
        clear hwz
        have r0 : wz.cell? ⟨w.heap.size + 1 + 1, 0, none⟩ = some (.int .i64 0) := k1.cell 0
        have r1 : wz.cell? ⟨w.heap.size + 1 + 1, 1, none⟩ = some (.int .i64 0) := k1.cell 1
        have r2 : wz.cell? ⟨w.heap.size + 1 + 1, 2, none⟩ = some (.string ⟨#[]⟩) := k1.cell 2
        have r3 : wz.cell? ⟨w.heap.size + 1 + 1, 3, none⟩ = some (.slice none 0 0) := k1.cell 3
        have r4 : wz.cell? ⟨w.heap.size + 1 + 1 + 1, 0, none⟩ = some (.int .i64 0) := k2.cell 0
        have r5 : wz.cell? ⟨w.heap.size + 1 + 1 + 1, 1, none⟩ = some (.int .i64 0) := k2.cell 1
        refine bodyPost_ret (v := .tuple #[.agg #[.int .i64 0, .int .i64 0, .string ⟨#[]⟩, .slice none 0 0], .agg #[.int .i64 0, .int .i64 0], .int .i64 xs.err]) (by simp [results, Tryd.results17, go_sem, r0, r1, r2, r3, r4, r5]) rfl ?_
        rw [HRUN.out]
        refine ⟨.slice none 0 0, ?_, hb, ?_⟩
        · simp only [ansRes, ansSt, if_neg he, Res.zero]
          rfl
        · simp only [ansRes, if_neg he, Res.zero]
          exact ho
end Go.Proofs.YtmpkkphohilkoaaDoor.B
/- What the door seat takes of the texts that it leaves. -/
namespace Go.Proofs.YtmpkkphohilkoaaDoor.B
open Go Go.RowKit Go.X Go.Ma Go.Proofs.YtmpkkphohilkoaaDoorW.PrintWords Go.Proofs.YtmpkkphohilkoaaDoor.F

def rsC (k : Int) (en : Nat) (lb : ByteArray) (v : Value) : List Value := [.int .i64 k, .int .i64 (en : Nat), .string lb, v]
theorem set4_blk {w : World} {b : Nat} {t : TypeId} {c0 c1 c2 c3 : Value} (h : Blk w b t [c0, c1, c2, c3]) (x0 x1 x2 x3 : Value) : Blk (set4 w b x0 x1 x2 x3) b t [x0, x1, x2, x3] :=
  (((h.setCell 0 x0).setCell 1 x1).setCell 2 x2).setCell 3 x3
theorem set4_grown (w : World) (b : Nat) (x0 x1 x2 x3 : Value) : w.grownBy (set4 w b x0 x1 x2 x3) (some b) :=
  Fr4.grown2 (Fr4.grown2 (Fr4.grown2 (grown_setCell w _ _) (grown_setCell _ _ _)) (grown_setCell _ _ _)) (grown_setCell _ _ _)
/-- An answer: the outcome, what was used, the error. -/
def tupC (k : Int) (en : Nat) (lb : ByteArray) (v : Value) (dp st : Nat) (er : Int) : Value := .tuple #[.agg (rsC k en lb v).toArray, .agg #[.int .i64 (dp : Nat), .int .i64 (st : Nat)], .int .i64 er]
end Go.Proofs.YtmpkkphohilkoaaDoor.B
/- A store into a block, as one step inside a region that draws its order. -/
namespace Go.X
open Go Go.RowKit
section
variable {P : Program} {ops : Array Oper} {o : Oper} {a : Act} {w : World} {K : Act → World → Prop} {Q : Exit → Act → World → Prop} {E : Prop}
end
end Go.X
