/- dowelbook.FreeInts: lists of the call's own, no two in one block, share no memory. -/
import Derived.Test.YtmikgaphknbcaaaBFree
import Derived.Test.YtmikgaphknbcaaaFx0
import Derived.WalkKit
import Derived.Lib.Hide
import Derived.Deep.LoopGhost
namespace Go.Proofs.Ytmikgaphknbcaaa.B
open Go Go.RowKit Go.X Go.X.Fr Go.Proofs.YtmikgaphknbcaaaW.PrintWords Go.Proofs.Ytmikgaphknbcaaa.F

def MI (j : Nat) : Value := .int .i64 (-1 - (j : Int))
/-- the rows' blocks -/
def S (vs : List Value) (k : Nat) : Prop := ∃ v ∈ vs, v.ownBlock = some k
def GI (j : Nat) : Value := .int .i64 (-100000 - (j : Int))

theorem Pre.hid_store {w : World} {base : Nat} {T : TypeId} {vs : List Value} {M : Nat → Value} {i k g n c B : Nat} {w0 : World} (h : P1 w base T vs M i k) (hp : Pre w base T 1 vs) (hv : vs[i]? = some (.slice (some ⟨g, 0, none⟩) n c)) (hk : k < n)
    {e' : TypeId} (hB : Blk w B e' vs) (hne : e' ≠ T) (hbel : But (S vs) w0 w) :
    P1 (w.setCell ⟨g, k, none⟩ (M i)) base T vs M i (k + 1) ∧ Pre (w.setCell ⟨g, k, none⟩ (M i)) base T 1 vs ∧ Blk (w.setCell ⟨g, k, none⟩ (M i)) B e' vs ∧ But (S vs) w0 (w.setCell ⟨g, k, none⟩ (M i)) ∧ (w.setCell ⟨g, k, none⟩ (M i)).heap.size = w.heap.size := by
  obtain ⟨h1, h2, h3⟩ := h.store hp hv hk
  obtain ⟨xs, hx⟩ := hp.own i _ hv
  obtain ⟨g', hg', _, cur, hcur, _⟩ := own_some hx (show 0 < n by omega)
  obtain rfl : g = g' := by simpa using hg'
  refine ⟨h1, h3, hB.grown h2 ?_, hbel.grown h2 (by intro k hk; obtain rfl := Option.some.inj hk; exact .inl ⟨_, List.mem_of_getElem? hv, rfl⟩), by simp [World.setCell]⟩
  intro e
  exact hB.ne hcur hne (Option.some.inj e)

set_option maxRecDepth 100000 in
set_option maxHeartbeats 4000000 in
theorem FreeInts.calls (B c : Nat) (vs : List Value) (w : World) (hB : Blk w B 36 vs) (hp : Pre w 0 3 1 vs) (hn : vs.length ≤ 1000) (hs : ∀ v ∈ vs, slen v ≤ 4000000) :
    Calls Try.prog 27 #[.slice (some ⟨B, 0, none⟩) vs.length c] w fun e w' => e = .returned (.bool true) ∧ But (S vs) w w' := by
  have HB := Lib.hid hB; clear hB
  have HP := Lib.hid hp; clear hp
  have HS := Lib.hid hs; clear hs
  go_enter Try.func27, Try.ntmps27
  go_wp2
  go_loopg [3] vs.length (fun q v wr => ∃ i : Nat, q + i = vs.length ∧ v = .int .i64 i ∧ Hid (P1 wr 0 3 vs MI i 0 ∧ Pre wr 0 3 1 vs ∧ Blk wr B 36 vs ∧ But (S vs) w wr ∧ wr.heap.size = w.heap.size))
  case atStart => exact ⟨0, by simp, rfl, P1.begin HP.out, HP.out, HB.out, But.refl _ _, rfl⟩
  case round =>
    obtain ⟨i, hi, rfl, HI⟩ := hrel
    by_cases hlt : i < vs.length
    · obtain ⟨v, hv⟩ : ∃ v, vs[i]? = some v := ⟨_, List.getElem?_eq_getElem hlt⟩
      obtain ⟨xs, hx⟩ := HI.out.2.1.own i v hv
      obtain ⟨A, n, cp, rfl⟩ := own_form' hx
      clear hx
      have hsl : n ≤ 4000000 := HS.out _ (List.mem_of_getElem? hv)
      have hc : wr.cell? ⟨B, i, none⟩ = some (.slice A n cp) := (HI.out.2.2.1.cell i).trans hv
      have HV := Lib.hid hv; clear hv
      go_wp2
      go_loopg [4] n (fun q v wr' => ∃ k : Nat, q + k = n ∧ v = .int .i64 k ∧ Hid (P1 wr' 0 3 vs MI i k ∧ Pre wr' 0 3 1 vs ∧ Blk wr' B 36 vs ∧ But (S vs) w wr' ∧ wr'.heap.size = w.heap.size))
      case atStart => exact ⟨0, by simp, rfl, HI.out⟩
      case round =>
        clear hc
        obtain ⟨k, hk, rfl, HK⟩ := hrel
        have hc : wr.cell? ⟨B, i, none⟩ = some (.slice A n cp) := (HK.out.2.2.1.cell i).trans HV.out
        by_cases hkn : k < n
        · obtain ⟨xs, hx⟩ := HK.out.2.1.own i _ HV.out
          obtain ⟨g, rfl, hbg, cur, hcur, hcl, _⟩ := own_some hx (show 0 < n by omega)
          have hfz := hcur.frozen k
          obtain ⟨old, hold⟩ : ∃ old, wr.cell? ⟨g, k, none⟩ = some old := ⟨_, (hcur.cell k).trans (List.getElem?_eq_getElem (by omega))⟩
          clear hx hcur hcl
          go_wp2
          have hst := Pre.hid_store HK.out.1 HK.out.2.1 HV.out hkn HK.out.2.2.1 (by decide) HK.out.2.2.2.1
          go_roundg (n - (k + 1))
          case measure => omega
          case rel => exact ⟨k + 1, by omega, by go_num, hst.1, hst.2.1, hst.2.2.1, hst.2.2.2.1, hst.2.2.2.2.trans HK.out.2.2.2.2⟩
        · go_wp2
          have hnx := P1.next HK.out.1 HV.out (show k = slen (.slice A n cp) by rw [slen_slice]; omega)
          go_roundg (vs.length - (i + 1))
          case measure => omega
          case rel => exact ⟨i + 1, by omega, by go_num, hnx, HK.out.2⟩
    · obtain rfl : i = vs.length := by omega
      have H2 : Hid (P2 wr 0 3 w.heap.size vs MI GI 20 [] ∧ wr.ownsRow 0 36 1 (.slice none 0 0) 0 [] ∧ Blk wr B 36 vs ∧ But (S vs) w wr ∧ w.heap.size ≤ wr.heap.size ∧ (∀ b, (Value.slice none 0 0).ownBlock = some b → w.heap.size ≤ b)) :=
        ⟨P2.begin HI.out.1 HI.out.2.1 HI.out.2.2.2.2.symm, World.ownsRow_nil _ _ _ _, HI.out.2.2.1, HI.out.2.2.2.1, Nat.le_of_eq HI.out.2.2.2.2.symm, by simp [Value.ownBlock]⟩
      clear HI
      go_wp2
      go_loopg [5, 6] vs.length (fun q v5 v6 wr => ∃ gs : List Value, q + gs.length = vs.length ∧ v6 = .int .i64 gs.length ∧ Hid (P2 wr 0 3 w.heap.size vs MI GI 20 gs ∧ wr.ownsRow 0 36 1 v5 gs.length gs ∧ Blk wr B 36 vs ∧ But (S vs) w wr ∧ w.heap.size ≤ wr.heap.size ∧ (∀ b, v5.ownBlock = some b → w.heap.size ≤ b)))
      case atStart => exact ⟨[], by simp, rfl, H2⟩
      case round =>
        clear H2
        obtain ⟨gs, hgs, rfl, HI⟩ := hrel
        by_cases hlt : gs.length < vs.length
        · obtain ⟨v, hv⟩ : ∃ v, vs[gs.length]? = some v := ⟨_, List.getElem?_eq_getElem hlt⟩
          obtain ⟨A, n, cp, rfl⟩ := own_form' (HI.out.1.full _ v hv)
          have hsl : n ≤ 4000000 := HS.out _ (List.mem_of_getElem? hv)
          have hc : wr.cell? ⟨B, gs.length, none⟩ = some (.slice A n cp) := (HI.out.2.2.1.cell _).trans hv
          have HV := Lib.hid hv; clear hv
          have H3 : Hid (P3 wr 0 3 w.heap.size vs MI GI 20 gs (.slice A n cp) (.slice A n cp) wr.heap.size 0 ∧ wr.ownsRow 0 36 1 u5 gs.length gs ∧ Blk wr B 36 vs ∧ But (S vs) w wr ∧ (∀ b, u5.ownBlock = some b → w.heap.size ≤ b)) :=
            ⟨P3.begin HI.out.1 HI.out.2.2.2.2.1 HV.out, HI.out.2.1, HI.out.2.2.1, HI.out.2.2.2.1, HI.out.2.2.2.2.2⟩
          obtain ⟨HH, hHH⟩ : ∃ HH, HH = wr.heap.size := ⟨_, rfl⟩
          rw [← hHH] at H3
          clear hHH
          go_wp2
          clear HI hc
          go_loopg [7, 8] 20 (fun q v7 v8 wr' => ∃ k : Nat, q + k = 20 ∧ v8 = .int .i64 k ∧ Hid (P3 wr' 0 3 w.heap.size vs MI GI 20 gs (.slice A n cp) v7 HH k ∧ wr'.ownsRow 0 36 1 u5 gs.length gs ∧ Blk wr' B 36 vs ∧ But (S vs) w wr' ∧ (∀ b, u5.ownBlock = some b → w.heap.size ≤ b)))
          case atStart => exact ⟨0, by simp, rfl, H3⟩
          case round =>
            clear H3
            obtain ⟨k, hk, rfl, HK⟩ := hrel
            by_cases hk20 : k < 20
            · have hbw' : 0 ≤ wr.heap.size := Nat.zero_le _
              go_wp2_with (first
                | (at_builtin; refine X.append1 rfl (.tmp 50) (.tmp 53) 36 3 rfl 0 (.int .i64 0) 1 8 Try.underlying36 info3 rfl u7 (n + k) _ rfl HK.out.1.own [.int .i64 (-100000 - (gs.length : Int))] rfl rfl ?_ ?_ ?_ hbw' ?_)
                | fail)
              · intro u hu; simp at hu; subst hu; rfl
              · simp only [maxLen]; omega
              · omega
              · intro x' w1 ho ha
                rw [← List.append_assoc] at ho
                have H4 : Hid (P3 w1 0 3 w.heap.size vs MI GI 20 gs (.slice A n cp) x' HH (k + 1) ∧ w1.ownsRow 0 36 1 u5 gs.length gs ∧ Blk w1 B 36 vs ∧ But (S vs) w w1 ∧ (∀ b, u5.ownBlock = some b → w.heap.size ≤ b)) := by
                  have hx := HK.out.1.own
                  refine ⟨HK.out.1.step HV.out ho ha, ha.keeps _ _ _ _ _ _ (HK.out.2.1.alloc _) ?_, ha.keeps_lt (HK.out.2.2.1.grown (World.grownBy_alloc _ _ none) (by simp)) ?_, ?_, HK.out.2.2.2.2⟩
                  · rcases own_type_ne HK.out.2.1 hx (by decide) with h1 | h1
                    · exact .inl h1
                    · exact .inr (.inl h1)
                  · intro e
                    obtain ⟨cells, hcs⟩ := own_typed hx B e.symm
                    exact HK.out.2.2.1.ne (show Blk wr B 3 cells.toList by simpa [Blk] using hcs) (by decide) rfl
                  · exact (HK.out.2.2.2.1.alloc _).grown ha.grown (fun b hb => HK.out.1.place.elim (fun hp => .inl ⟨_, List.mem_of_getElem? HV.out, hp.symm.trans hb⟩) (fun ⟨b', hp, hle⟩ => .inr (by rw [hp] at hb; have := HK.out.1.hH; have := Option.some.inj hb; omega)))
                clear ho ha
                go_wp2
                go_roundg (20 - (k + 1))
                case measure => omega
                case rel => exact ⟨k + 1, by omega, by go_num, H4⟩
            · obtain rfl : k = 20 := by omega
              have hbw' : 0 ≤ wr.heap.size := Nat.zero_le _
              obtain ⟨A', c', e7⟩ := own_form HK.out.1.own
              rw [slen_slice] at e7
              subst e7
              go_wp2_with (first
                | (at_builtin; refine X.append1 rfl (.tmp 55) (.tmp 57) 42 36 rfl 0 (.slice none 0 0) 1 24 Try.underlying42 info36 rfl u5 gs.length _ rfl HK.out.2.1 [(Value.slice A' (n + 20) c')] rfl rfl ?_ ?_ ?_ hbw' ?_)
                | fail)
              · intro u hu; simp at hu; subst hu; rfl
              · simp only [maxLen]; omega
              · omega
              · intro g' w1 ho ha
                have H4 : Hid (P2 w1 0 3 w.heap.size vs MI GI 20 (gs ++ [(Value.slice A' (n + 20) c')]) ∧ w1.ownsRow 0 36 1 g' (gs ++ [(Value.slice A' (n + 20) c')]).length (gs ++ [(Value.slice A' (n + 20) c')]) ∧ Blk w1 B 36 vs ∧ But (S vs) w w1 ∧ w.heap.size ≤ w1.heap.size ∧ (∀ b, g'.ownBlock = some b → w.heap.size ≤ b)) := by
                  have hsz := HK.out.2.2.2.1.size
                  have hd := (HK.out.1.done HV.out).keep (World.grownBy_alloc wr (.cells #[(Value.slice A' (n + 20) c')] 36) none) (fun _ _ _ u _ _ _ _ => by cases u.ownBlock <;> simp)
                  refine ⟨hd.keep ha.grown fun b e' sz u k ys he' hu => ?_, by rw [List.length_append, List.length_singleton]; exact ho, ha.keeps_lt (HK.out.2.2.1.grown (World.grownBy_alloc _ _ none) (by simp)) ?_, ?_, ?_, ?_⟩
                  · subst he'
                    exact own_type_ne hu (HK.out.2.1.alloc _) (by decide)
                  · intro e
                    have := HK.out.2.2.2.2 B e.symm
                    have := HB.out.lt
                    omega
                  · exact (HK.out.2.2.2.1.alloc _).grown ha.grown (fun b hb => .inr (HK.out.2.2.2.2 b hb))
                  · have := ha.grown.size
                    simp at this
                    omega
                  · intro b hb
                    rcases ha.place with hp | ⟨hp, _⟩
                    · exact HK.out.2.2.2.2 b (hp.symm.trans hb)
                    · rw [hp] at hb
                      simp at hb
                      omega
                clear ho ha
                go_wp2
                go_roundg (vs.length - (gs ++ [(Value.slice A' (n + 20) c')]).length)
                case measure => simp; omega
                case rel => exact ⟨gs ++ [(Value.slice A' (n + 20) c')], by simp; omega, by simp, H4⟩
        · have HN0 : Hid (gs.length = vs.length) := by show _ = _; omega
          go_wp2
          go_loopg [9] vs.length (fun q v9 wr => ∃ i : Nat, q + i = vs.length ∧ v9 = .int .i64 i ∧ Hid (P2 wr 0 3 w.heap.size vs MI GI 20 gs ∧ wr.ownsRow 0 36 1 u5 gs.length gs ∧ Blk wr B 36 vs ∧ But (S vs) w wr))
          case atStart => exact ⟨0, by simp, rfl, HI.out.1, HI.out.2.1, HI.out.2.2.1, HI.out.2.2.2.1⟩
          case round =>
            clear HI
            obtain ⟨i, hi, rfl, HI⟩ := hrel
            by_cases hlt : i < vs.length
            · have hN := HN0.out
              obtain ⟨v, hv⟩ : ∃ v, vs[i]? = some v := ⟨_, List.getElem?_eq_getElem hlt⟩
              obtain ⟨u, hu⟩ : ∃ u, gs[i]? = some u := ⟨_, List.getElem?_eq_getElem (by omega)⟩
              have hfull := HI.out.1.full i v hv
              have hgrew := (HI.out.1.grew i v u hv hu).1
              obtain ⟨A, n, cp, rfl⟩ := own_form' hfull
              rw [slen_slice] at hgrew hfull
              obtain ⟨A', cu, rfl⟩ := own_form hgrew
              obtain ⟨ga, rfl, _, cur, hcur, hcl, hct⟩ := own_some hgrew (by omega)
              obtain ⟨Ag, cg, e5⟩ := own_form HI.out.2.1
              obtain ⟨gb, eg, _, gcur, hgcur, hgl, hgt⟩ := own_some (e5 ▸ HI.out.2.1) (by omega)
              subst e5
              subst eg
              have hsl : n ≤ 4000000 := HS.out _ (List.mem_of_getElem? hv)
              have hc : wr.cell? ⟨B, i, none⟩ = some (.slice A n cp) := (HI.out.2.2.1.cell _).trans hv
              have hg : wr.cell? ⟨gb, i, none⟩ = some (.slice (some ⟨ga, 0, none⟩) (n + 20) cu) := by
                rw [hgcur.cell, ← hu, ← hgt, List.getElem?_take, if_pos (by omega)]
              have HX : ∀ k, k < n + 20 → wr.cell? ⟨ga, k, none⟩ = some (if k < n then MI i else GI i) := by
                intro k hk
                rw [hcur.cell]
                have h1 : (cur.take ((n + 20) * 1))[k]? = cur[k]? := by rw [List.getElem?_take, if_pos (by omega)]
                rw [← h1, hct]
                by_cases hkn : k < n
                · rw [if_pos hkn, List.getElem?_append_left (by simpa using hkn), List.getElem?_replicate, if_pos hkn]
                · rw [if_neg hkn, List.getElem?_append_right (by simp; omega), List.length_replicate, List.getElem?_replicate, if_pos (by omega)]
              have HY : ∀ k, k < n → ∃ g0, A = some ⟨g0, 0, none⟩ ∧ wr.cell? ⟨g0, k, none⟩ = some (MI i) := by
                intro k hk
                obtain ⟨g0, e0, _, cur0, hcur0, hcl0, hct0⟩ := own_some hfull (by omega)
                refine ⟨g0, e0, ?_⟩
                have h1 : (cur0.take (n * 1))[k]? = cur0[k]? := by rw [List.getElem?_take, if_pos (by omega)]
                rw [hcur0.cell, ← h1, hct0, List.getElem?_replicate, if_pos hk]
              have HX' := Lib.hid HX; clear HX
              have HY' := Lib.hid HY; clear HY
              clear hv hu hfull hgrew hcur hcl hct hgcur hgl hgt
              clear hN
              clear HN0
              go_wp2
              go_loopg [10] (n + 20) (fun q v10 wr' => ∃ k : Nat, q + k = n + 20 ∧ v10 = .int .i64 k ∧ wr' = wr)
              case atStart => exact ⟨0, by simp, rfl, rfl⟩
              case round =>
                obtain ⟨k, hk, rfl, rfl⟩ := hrel
                by_cases hk20 : k < n + 20
                · have hx := HX'.out k hk20
                  by_cases hkn : k < n
                  · rw [if_pos hkn] at hx
                    have hx' : wr.cell? ⟨ga, k, none⟩ = some (.int .i64 (-1 - (i : Int))) := hx
                    clear hx
                    go_wp2
                    go_roundg (n + 20 - (k + 1))
                    case measure => omega
                    case rel => exact ⟨k + 1, by omega, by go_num, rfl⟩
                  · rw [if_neg hkn] at hx
                    have hx' : wr.cell? ⟨ga, k, none⟩ = some (.int .i64 (-100000 - (i : Int))) := hx
                    clear hx
                    go_wp2
                    go_roundg (n + 20 - (k + 1))
                    case measure => omega
                    case rel => exact ⟨k + 1, by omega, by go_num, rfl⟩
                · go_wp2
                  go_loopg [12] n (fun q v12 wr' => ∃ k : Nat, q + k = n ∧ v12 = .int .i64 k ∧ wr' = wr)
                  case atStart => exact ⟨0, by simp, rfl, rfl⟩
                  case round =>
                    obtain ⟨k', hk', rfl, rfl⟩ := hrel
                    by_cases hkn : k' < n
                    · obtain ⟨g0, rfl, hy⟩ := HY'.out k' hkn
                      have hy' : wr.cell? ⟨g0, k', none⟩ = some (.int .i64 (-1 - (i : Int))) := hy
                      clear hy
                      go_wp2
                      go_roundg (n - (k' + 1))
                      case measure => omega
                      case rel => exact ⟨k' + 1, by omega, by go_num, rfl⟩
                    · go_wp2
                      go_roundg (vs.length - (i + 1))
                      case measure => omega
                      case rel => exact ⟨i + 1, by omega, by go_num, HI.out⟩
            · go_wp2
              go_ret
              exact ⟨rfl, HI.out.2.2.2⟩
end Go.Proofs.Ytmikgaphknbcaaa.B
