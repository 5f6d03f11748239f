/- dowelbook.LendGrammar: a copy of a grammar, all through, in new memory, its holder's behind each end. -/
import Derived.Test.YtmikgaphknbcaaaXStep
import Derived.Test.YtmikgaphknbcaaaBTexts
import Derived.Deep.RegionHeld3
import Derived.RegionTactic
namespace Go.Proofs.Ytmikgaphknbcaaa.B
open Go Go.RowKit Go.X Go.Proofs.YtmikgaphknbcaaaW.PrintWords Go.Proofs.Ytmikgaphknbcaaa.F

def rl (rs : List S34) (i : Nat) : S34 := rs.getD i z34
def holdUse : List Value := [.string holder, .string ⟨#[]⟩]
def holdRule : List Value := [.string holder, .slice none 0 0, .slice none 0 0]
/-- A lent rule's cells: its lists' blocks. -/
def ruleAt (x : S34) (p q : Nat) : List Value := [.string x.f0, .slice (some ⟨p, 0, none⟩) x.f1.length (x.f1.length + 1), .slice (some ⟨q, 0, none⟩) x.f2.length (x.f2.length + 1)]
def rowsTo (rs : List S34) (P Q : Nat → Nat) : Nat → List Value
  | 0 => []
  | i + 1 => rowsTo rs P Q i ++ ruleAt (rl rs i) (P i) (Q i)
/-- The lists of the first n rules lie lent, in blocks from base on, each in its own. -/
def RulesIn (w : World) (base : Nat) (rs : List S34) (P Q : Nat → Nat) (n : Nat) : Prop :=
  ∀ i, i < n → base ≤ P i ∧ P i < Q i ∧ Lent Kd.string 9 w (P i) (rl rs i).f1 holdText ∧ Lent k47 47 w (Q i) (rl rs i).f2 holdNode ∧ ∀ j, j < i → Q j < P i
/-- A lent grammar. -/
def GramAt (w : World) (base bu br : Nat) (us : List S69) (rs : List S34) (P Q : Nat → Nat) : Prop :=
  Lent k69 69 w bu us holdUse ∧ Blk w br 34 (rowsTo rs P Q rs.length ++ holdRule) ∧ RulesIn w base rs P Q rs.length
def LentGram (w : World) (us : List S69) (rs : List S34) (e : Ending) (w' : World) : Prop :=
  ∃ bu br P Q, e = .returned (.agg #[.slice (some ⟨bu, 0, none⟩) us.length (us.length + 1), .slice (some ⟨br, 0, none⟩) rs.length (rs.length + 1)]) ∧
    GramAt w' w.heap.size bu br us rs P Q ∧ w.heap.size ≤ bu ∧ w.heap.size ≤ br ∧ Below w.heap.size w w'

theorem Below.cell_some {w w' : World} (h : Below w.heap.size w w') {p : Addr} {v : Value} (hp : w.cell? p = some v) : w'.cell? p = some v := (h.cell (World.block_lt_of_cell? w _ hp)).trans hp
theorem add_block (a : Addr) (k : Nat) : (a.add k).block = a.block := by unfold Addr.add; split <;> rfl
theorem far3 {w : World} {br i j k : Nat} {x y z v : Value} {p : Addr} (h : w.cell? p = some v) (hp : p.block ≠ br) : (((w.setCell ⟨br, i, none⟩ x).setCell ⟨br, j, none⟩ y).setCell ⟨br, k, none⟩ z).cell? p = some v := by
  rw [World.cell?_of_block (Below.heap_setCell _ _ _ _ hp), World.cell?_of_block (Below.heap_setCell _ _ _ _ hp), World.cell?_of_block (Below.heap_setCell _ _ _ _ hp)]
  exact h
theorem rowsTo_length (rs : List S34) (P Q : Nat → Nat) (i : Nat) : (rowsTo rs P Q i).length = i * 3 := by
  induction i with
  | zero => rfl
  | succ i ih => rw [rowsTo, List.length_append, ih, Nat.succ_mul]; rfl
theorem rowsTo_congr (rs : List S34) {P Q P' Q' : Nat → Nat} (i : Nat) (h : ∀ j, j < i → P j = P' j ∧ Q j = Q' j) : rowsTo rs P Q i = rowsTo rs P' Q' i := by
  induction i with
  | zero => rfl
  | succ i ih => rw [rowsTo, rowsTo, ih (fun j hj => h j (by omega)), (h i (by omega)).1, (h i (by omega)).2]
theorem info69 : (Try.prog.info? 69).map (fun i => (i.zero, i.size, i.bytes)) = some (some (.agg #[.string ⟨#[]⟩, .string ⟨#[]⟩]), 2, 32) := by kernel_rfl
theorem info34 : (Try.prog.info? 34).map (fun i => (i.zero, i.size, i.bytes)) = some (some (.agg #[.string ⟨#[]⟩, .slice none 0 0, .slice none 0 0]), 3, 64) := by kernel_rfl
theorem sz69 : (Try.prog.info? 69).map (·.size) = some 2 := by kernel_rfl
theorem sz34 : (Try.prog.info? 34).map (·.size) = some 3 := by kernel_rfl
theorem sz26 : (Try.prog.info? 26).map (·.size) = some 2 := by kernel_rfl
theorem far3h {w : World} {br i j k : Nat} {x y z : Value} {p : Nat} (hp : p ≠ br) : (((w.setCell ⟨br, i, none⟩ x).setCell ⟨br, j, none⟩ y).setCell ⟨br, k, none⟩ z).heap[p]? = w.heap[p]? := by
  rw [Below.heap_setCell _ _ _ _ hp, Below.heap_setCell _ _ _ _ hp, Below.heap_setCell _ _ _ _ hp]
theorem Lent.flat {α : Type} {d : Kd α} (hd : ∀ (w w' : World) (x : α) (cs : List Value), d.K w x cs → d.K w' x cs) {e : TypeId} {w w' : World} {b : Nat} {xs : List α} {hold : List Value} (h : Lent d e w b xs hold) (hb : w'.heap[b]? = w.heap[b]?) : Lent d e w' b xs hold := by
  obtain ⟨cs, hr, hk⟩ := h.out
  exact ⟨cs, hr.imp_ (fun _ _ hk => hd _ _ _ _ hk), hb.trans hk⟩
theorem Lent.ne {α : Type} {d : Kd α} {e e' : TypeId} {w : World} {b b' : Nat} {xs : List α} {hold cs : List Value} (h : Lent d e w b xs hold) (h' : Blk w b' e' cs) (hne : e ≠ e') : b ≠ b' := by
  obtain ⟨_, _, hk⟩ := h.out
  exact hk.ne h' hne
theorem flat47 (w w' : World) (x : S47) (cs : List Value) (h : k47.K w x cs) : k47.K w' x cs := h
theorem flat69 (w w' : World) (x : S69) (cs : List Value) (h : k69.K w x cs) : k69.K w' x cs := h
theorem flatS (w w' : World) (x : ByteArray) (cs : List Value) (h : Kd.string.K w x cs) : Kd.string.K w' x cs := h
theorem set3 {α : Type} (l rest : List α) (r0 r1 r2 a b c : α) (n : Nat) (hn : n = l.length) : (((l ++ r0 :: r1 :: r2 :: rest).set n a).set (n + 1) b).set (n + 2) c = l ++ a :: b :: c :: rest := by
  subst hn
  simp
def upd (P : Nat → Nat) (i b : Nat) : Nat → Nat := fun j => if j = i then b else P j
theorem upd_self (P : Nat → Nat) (i b : Nat) : upd P i b i = b := by simp [upd]
theorem upd_lt (P : Nat → Nat) {i b j : Nat} (h : j < i) : upd P i b j = P j := by simp [upd]; omega
theorem GramAt.lt {w : World} {base bu br : Nat} {us : List S69} {rs : List S34} {P Q : Nat → Nat} (h : GramAt w base bu br us rs P Q) : bu < w.heap.size ∧ br < w.heap.size := ⟨Lent.lt h.1, h.2.1.lt⟩
/-- Another block (of another type) has been written. -/
theorem GramAt.far {w w' : World} {base bu br g t : Nat} {us : List S69} {rs : List S34} {P Q : Nat → Nat} {cs : List Value} (h : GramAt w base bu br us rs P Q) (hg : Blk w g t cs) (ht : t ≠ 69 ∧ t ≠ 34 ∧ t ≠ 9 ∧ t ≠ 47) (hh : ∀ k, k < w.heap.size → k ≠ g → w'.heap[k]? = w.heap[k]?) : GramAt w' base bu br us rs P Q := by
  obtain ⟨h1, h2, h3⟩ := h
  refine ⟨Lent.flat flat69 h1 (hh _ (Lent.lt h1) (Lent.ne h1 hg ht.1.symm)), (hh _ h2.lt (h2.ne hg ht.2.1.symm)).trans h2, fun j hj => ?_⟩
  obtain ⟨a1, a2, a3, a4, a5⟩ := h3 j hj
  exact ⟨a1, a2, Lent.flat flatS a3 (hh _ (Lent.lt a3) (Lent.ne a3 hg ht.2.2.1.symm)), Lent.flat flat47 a4 (hh _ (Lent.lt a4) (Lent.ne a4 hg ht.2.2.2.symm)), a5⟩
theorem GramAt.below {w w' : World} {base bu br : Nat} {us : List S69} {rs : List S34} {P Q : Nat → Nat} (h : GramAt w base bu br us rs P Q) (hb : Below w.heap.size w w') : GramAt w' base bu br us rs P Q := by
  obtain ⟨h1, h2, h3⟩ := h
  refine ⟨Lent.below h1 hb, h2.below hb h2.lt, fun j hj => ?_⟩
  obtain ⟨a1, a2, a3, a4, a5⟩ := h3 j hj
  exact ⟨a1, a2, Lent.below a3 hb, Lent.below a4 hb, a5⟩
/-- What holds at the head of each round. -/
def GramHead (w wr : World) (gb bu br : Nat) (Au Ar : Option Addr) (cu cr : Nat) (us : List S69) (rs : List S34) (P Q : Nat → Nat) (i : Nat) : Prop :=
  Below w.heap.size w wr ∧ Blk wr gb 26 [.slice Au us.length cu, .slice Ar rs.length cr] ∧ (∃ z, z.length = 2 ∧ Blk wr (gb + 1) 26 z) ∧ Lent k69 69 wr bu us holdUse ∧
    (∃ rest, Blk wr br 34 (rowsTo rs P Q i ++ rest) ∧ rest.length = (rs.length + 1 - i) * 3) ∧ RulesIn wr w.heap.size rs P Q i ∧ w.heap.size ≤ gb
theorem GramHead.next {w wr w6 w7 : World} {gb bu br : Nat} {Au Ar : Option Addr} {cu cr : Nat} {us : List S69} {rs : List S34} {P Q : Nat → Nat} {i b1 b2 : Nat} (h : GramHead w wr gb bu br Au Ar cu cr us rs P Q i) (hi : i < rs.length)
    (h6 : Below wr.heap.size wr w6) (hb1 : wr.heap.size ≤ b1) (hb12 : b1 < b2) (h1 : Lent Kd.string 9 w6 b1 (rl rs i).f1 holdText) (h2 : Lent k47 47 w6 b2 (rl rs i).f2 holdNode) (hgb : gb + 1 < br) (hbu : bu ≠ br)
    (e : w7 = ((w6.setCell ⟨br, i * 3, none⟩ (.string (rl rs i).f0)).setCell ⟨br, i * 3 + 1, none⟩ (.slice (some ⟨b1, 0, none⟩) (rl rs i).f1.length ((rl rs i).f1.length + 1))).setCell ⟨br, i * 3 + 2, none⟩ (.slice (some ⟨b2, 0, none⟩) (rl rs i).f2.length ((rl rs i).f2.length + 1))) :
    GramHead w w7 gb bu br Au Ar cu cr us rs (upd P i b1) (upd Q i b2) (i + 1) := by
  subst e
  obtain ⟨k1, k2, ⟨z, hz, k3⟩, k4, ⟨rest, k5, hl⟩, k6, k7⟩ := h
  have B6 : Blk w6 br 34 (rowsTo rs P Q i ++ rest) := k5.below h6 k5.lt
  have h16 : Below w.heap.size w w6 := k1.trans (h6.mono k1.size)
  refine ⟨((h16.setCell (by show w.heap.size ≤ br; omega) _).setCell (by show w.heap.size ≤ br; omega) _).setCell (by show w.heap.size ≤ br; omega) _, ?_, ⟨z, hz, ?_⟩, ?_, ?_, ?_, k7⟩
  · exact (far3h (by omega)).trans (k2.below h6 k2.lt)
  · exact (far3h (by omega)).trans (k3.below h6 k3.lt)
  · exact Lent.flat flat69 (Lent.below k4 h6) (far3h hbu)
  · obtain ⟨r0, r1, r2, rest, rfl⟩ : ∃ r0 r1 r2 r, rest = r0 :: r1 :: r2 :: r := by
      match rest, hl with
      | r0 :: r1 :: r2 :: r, _ => exact ⟨r0, r1, r2, r, rfl⟩
      | [], hl => simp at hl; omega
      | [_], hl => simp at hl; omega
      | [_, _], hl => simp at hl; omega
    refine ⟨rest, ?_, ?_⟩
    · have := ((B6.setCell (i * 3) (.string (rl rs i).f0)).setCell (i * 3 + 1) (.slice (some ⟨b1, 0, none⟩) (rl rs i).f1.length ((rl rs i).f1.length + 1))).setCell (i * 3 + 2) (.slice (some ⟨b2, 0, none⟩) (rl rs i).f2.length ((rl rs i).f2.length + 1))
      rw [set3 _ _ _ _ _ _ _ _ _ (rowsTo_length rs P Q i).symm] at this
      rw [rowsTo, upd_self, upd_self, rowsTo_congr rs (P' := P) (Q' := Q) i (fun j hj => ⟨upd_lt P hj, upd_lt Q hj⟩), List.append_assoc]
      exact this
    · simp at hl; omega
  · intro j hj
    rcases Nat.lt_or_ge j i with hji | hji
    · obtain ⟨a1, a2, a3, a4, a5⟩ := k6 j hji
      rw [upd_lt P hji, upd_lt Q hji]
      exact ⟨a1, a2, Lent.flat flatS (Lent.below a3 h6) (far3h (Lent.ne a3 k5 (by decide))), Lent.flat flat47 (Lent.below a4 h6) (far3h (Lent.ne a4 k5 (by decide))), fun j' hj' => by rw [upd_lt Q (by omega)]; exact a5 j' hj'⟩
    · obtain rfl : j = i := by omega
      rw [upd_self, upd_self]
      refine ⟨Nat.le_trans k1.size hb1, hb12, Lent.flat flatS h1 (far3h (Lent.ne h1 B6 (by decide))), Lent.flat flat47 h2 (far3h (Lent.ne h2 B6 (by decide))), fun j' hj' => ?_⟩
      rw [upd_lt Q hj']
      have := Lent.lt (k6 j' hj').2.2.2.1
      omega
set_option maxRecDepth 100000 in
set_option maxHeartbeats 4000000 in
theorem LendGrammar.calls (Au Ar : Option Addr) (cu cr : Nat) (us : List S69) (rs : List S34) (w : World) (hu : Kd.C k69 w Au us.length us) (hr : Kd.C k34 w Ar rs.length rs)
    (mu : us.length ≤ 1048576) (mr : rs.length ≤ 1048576) (mb : ∀ x ∈ rs, x.f1.length ≤ 1048576 ∧ x.f2.length ≤ 1048576) :
    Calls Try.prog 16 #[.agg #[.slice Au us.length cu, .slice Ar rs.length cr]] w (LentGram w us rs) := by
  obtain ⟨cs, hreps, hcells⟩ := X.C_cells hu
  have hlen : cs.length = us.length * 2 := hreps.1
  have hone := X.Reps_oneCell hreps
  have HRU := Lib.hid hreps; clear hreps
  have HL := Lib.hid hlen; clear hlen
  have HC := Lib.hid hcells; clear hcells
  have HO := Lib.hid hone; clear hone
  have HR := Lib.hid hr; clear hr hu
  have HMB := Lib.hid mb; clear mb
  go_enter Try.func16, Try.ntmps16
  go_wp2_with (first
    | (at_make; refine X.make rfl _ _ 23 rfl 69 _ 2 32 Try.underlying23 info69 .i64 .i64 _ _ (us.length + 1) rfl rfl (by simp) (by simp) (by omega) (by simp only [maxLen]; omega) ?_; intro w1 hb1 hg1; obtain ⟨z, hz, hz1⟩ := X.Blk.ex hb1 (size_madeCells _ _); clear hb1; have HZ := Lib.hid hz; clear hz; have HB1 := Lib.hid hz1; clear hz1; have HG1 := Lib.hid hg1; clear hg1
       have hK : Hid (Blk w1 w.heap.size 26 [.slice Au us.length cu, .slice Ar rs.length cr] ∧ Blk w1 (w.heap.size + 1) 26 [.slice none 0 0, .slice none 0 0] ∧ Blk w1 (w.heap.size + 1 + 1) 69 z ∧ Below w.heap.size w w1) :=
         ⟨((Blk.alloc w _ _).grown (World.grownBy_alloc _ _ none) (by simp)).grown HG1.out (by simp), by have := (Blk.alloc (w.alloc (.cells #[.slice Au us.length cu, .slice Ar rs.length cr] 26)) #[.slice none 0 0, .slice none 0 0] 26).grown HG1.out (by simp); simpa using this, by have := HB1.out; simpa using this, (((Below.refl _ w).alloc (Nat.le_refl _) _).alloc (by simp) _).grown HG1.out (by simp; omega) (by simp)⟩
       clear HB1 HG1
       have c0 : w1.cell? ⟨w.heap.size, 0, none⟩ = some (.slice Au us.length cu) := hK.out.1.cell 0
       have c1 : w1.cell? ⟨w.heap.size, 1, none⟩ = some (.slice Ar rs.length cr) := hK.out.1.cell 1)
    | (with_reducible refine X.copy rfl (.tmp 11) (.tmp 13) 23 23 rfl 69 2 Try.underlying23 sz69 (w.heap.size + 1 + 1) 0 _ _ _ _ _ rfl rfl _ _ hK.out.2.2.1 cs ?_ ?_ ?_ ?_ ?_)
    | fail)
  · have := HL.out; rw [show us.length.min (us.length + 1) = us.length from Nat.min_eq_left (by omega)]; exact this
  · intro h0
    obtain ⟨ad, e, hc⟩ := HC.out h0
    exact ⟨ad, e, fun j v hj => Below.cell_some hK.out.2.2.2 (hc j v hj)⟩
  · have := HL.out; have := HZ.out; omega
  · exact HO.out
  intro w2 hb2 hg2
  have hK2 : Hid (Blk w2 w.heap.size 26 [.slice Au us.length cu, .slice Ar rs.length cr] ∧ Blk w2 (w.heap.size + 1) 26 [.slice none 0 0, .slice none 0 0] ∧ Blk w2 (w.heap.size + 1 + 1) 69 (splice z 0 cs) ∧ Below w.heap.size w w2) :=
    ⟨hK.out.1.grown hg2 (by simp; omega), hK.out.2.1.grown hg2 (by simp), hb2, hK.out.2.2.2.grown hg2 (by have := hK.out.1.lt; omega) (by simp; omega)⟩
  clear hb2 hg2 hK c0 c1
  have c0 : w2.cell? ⟨w.heap.size, 0, none⟩ = some (.slice Au us.length cu) := hK2.out.1.cell 0
  have c1 : w2.cell? ⟨w.heap.size, 1, none⟩ = some (.slice Ar rs.length cr) := hK2.out.1.cell 1
  go_wp2_with (first
    | (with_reducible refine X.store rfl 69 (.tmp 20) (.tmp 19) rfl (w.heap.size + 1 + 1) (us.length * 2) (.agg holdUse.toArray) ?_ ?_ _ _ hK2.out.2.2.1 ?_ ?_ ?_ ?_)
    | fail)
  · rfl
  · rfl
  · exact sz69
  · have h1 := HL.out; have h2 := HZ.out
    rw [length_splice _ _ _ (by omega), h2]
    show us.length * 2 + 2 ≤ _
    omega
  · intro u hu
    simp [Value.cells, holdUse] at hu
    rcases hu with rfl | rfl <;> rfl
  intro w3 hb3 hg3
  have hK3 : Hid (Blk w3 w.heap.size 26 [.slice Au us.length cu, .slice Ar rs.length cr] ∧ Blk w3 (w.heap.size + 1) 26 [.slice none 0 0, .slice none 0 0] ∧ Lent k69 69 w3 (w.heap.size + 1 + 1) us holdUse ∧ Below w.heap.size w w3) := by
    have hbel : Below w.heap.size w w3 := hK2.out.2.2.2.grown hg3 (by have := hK2.out.1.lt; omega) (by simp; omega)
    refine ⟨hK2.out.1.grown hg3 (by simp; omega), hK2.out.2.1.grown hg3 (by simp), ⟨cs, HRU.out.imp_ (fun _ _ hk => k69.K_below hbel hk), ?_⟩, hbel⟩
    have e : splice (splice z 0 cs) (us.length * 2) holdUse = cs ++ holdUse := by
      have h1 := HL.out; have h2 := HZ.out
      rw [X.splice_begin, ← h1, X.splice_end]
      rw [List.length_drop, h2, h1]
      show _ = 2
      omega
    rw [← e]
    exact hb3
  clear hb3 hg3 hK2 c0 c1 HRU HL HC HO HZ
  have c0 : w3.cell? ⟨w.heap.size, 0, none⟩ = some (.slice Au us.length cu) := hK3.out.1.cell 0
  have c1 : w3.cell? ⟨w.heap.size, 1, none⟩ = some (.slice Ar rs.length cr) := hK3.out.1.cell 1
  have HBr : Hid (w.heap.size + 1 + 1 < w3.heap.size) := hK3.out.2.2.1.lt
  go_wp2_with (first
    | (at_make; refine X.make rfl _ _ 24 rfl 34 _ 3 64 Try.underlying24 info34 .i64 .i64 _ _ (rs.length + 1) rfl rfl (by simp) (by simp) (by omega) (by simp only [maxLen]; omega) ?_; intro w4 hb4 hg4; obtain ⟨z, hz, hz1⟩ := X.Blk.ex hb4 (size_madeCells _ _); clear hb4
       have hH : Hid (GramHead w w4 w.heap.size (w.heap.size + 1 + 1) w3.heap.size Au Ar cu cr us rs (fun _ => 0) (fun _ => 0) 0) :=
         ⟨hK3.out.2.2.2.grown hg4 (by have := HBr.out; omega) (by simp), hK3.out.1.grown hg4 (by simp), ⟨_, rfl, hK3.out.2.1.grown hg4 (by simp)⟩, hK3.out.2.2.1.below (.grown (.refl _ _) hg4 (Nat.le_refl _) (by simp)), ⟨z, hz1, by rw [hz]; rfl⟩, fun i hi => absurd hi (Nat.not_lt_zero _), Nat.le_refl _⟩
       clear hz hz1 hg4 hK3 c0 c1)
    | fail)
  have HNB : Hid (∀ ad, Ar = some ad → 0 < rs.length → ad.block ≠ w3.heap.size) := fun ad e h0 => by
    obtain ⟨ad', _, _, _, _, e', c, _⟩ := at_T34 HR.out 0 (by omega) (by omega)
    rw [e] at e'
    obtain rfl : ad = ad' := by injection e'
    have h1 := World.block_lt_of_cell? w _ c
    rw [add_block] at h1
    have := HBr.out
    show _ ≠ _
    omega
  generalize w3.heap.size = br at *
  go_loopg [5] rs.length (fun q v wr => ∃ (i : Nat) (P Q : Nat → Nat), q + i = rs.length ∧ v = .int .i64 i ∧ Hid (GramHead w wr w.heap.size (w.heap.size + 1 + 1) br Au Ar cu cr us rs P Q i))
  case atStart => exact ⟨0, _, _, by simp, rfl, hH⟩
  case round =>
    clear hH
    obtain ⟨i, P, Q, hi, rfl, HI⟩ := hrel
    have c1 : wr.cell? ⟨w.heap.size, 1, none⟩ = some (.slice Ar rs.length cr) := HI.out.2.1.cell 1
    by_cases hlt : i < rs.length
    · have hmem : rl rs i ∈ rs := by rw [rl, List.getD_eq_getElem?_getD, List.getElem?_eq_getElem hlt]; exact List.getElem_mem hlt
      obtain ⟨ad, A1, c1', A2, c2', eA, e0, e1, e2, l1, g1, l2, g2⟩ := at_T34 (Kd.C_below HR.out HI.out.1) (i : Int) (by omega) (by omega)
      subst eA
      simp only [Int.toNat_natCast, rd_T34] at e0 e1 e2 l1 g1 l2 g2
      change wr.cell? (ad.add (i * 3)) = some (.string (rl rs i).f0) at e0
      change wr.cell? ⟨(ad.add (i * 3)).block, (ad.add (i * 3)).off + 1, none⟩ = some (.slice A1 (rl rs i).f1.length c1') at e1
      change wr.cell? ⟨(ad.add (i * 3)).block, (ad.add (i * 3)).off + 2, none⟩ = some (.slice A2 (rl rs i).f2.length c2') at e2
      change Kd.C Kd.string wr A1 (rl rs i).f1.length (rl rs i).f1 at g1
      change Kd.C k47 wr A2 (rl rs i).f2.length (rl rs i).f2 at g2
      clear l1 l2
      obtain ⟨x, hx⟩ : ∃ x, rl rs i = x := ⟨_, rfl⟩
      have hm1 := (HMB.out _ hmem).1
      have hm2 := (HMB.out _ hmem).2
      rw [hx] at e0 e1 e2 g1 g2 hm1 hm2
      have HX := Lib.hid hx; clear hx hmem
      have G1 := Lib.hid g1; clear g1
      have G2 := Lib.hid g2; clear g2
      obtain ⟨rest, hrest⟩ := HI.out.2.2.2.2.1
      have HRS := Lib.hid hrest; clear hrest
      go_wp2
      have hi0 : (0 : Int) ≤ (i : Int) := Int.natCast_nonneg _
      have hi1 : (i : Int) < (rs.length : Int) := by omega
      have hi2 : (i : Int) < (rs.length : Int) + 1 := by omega
      have HM1 := Lib.hid hm1; clear hm1
      have HM2 := Lib.hid hm2; clear hm2
      obtain ⟨o0, o1, o2, HOS⟩ : ∃ o0 o1 o2, Hid (wr.cell? ⟨br, i * 3, none⟩ = some o0 ∧ wr.cell? ⟨br, i * 3 + 1, none⟩ = some o1 ∧ wr.cell? ⟨br, i * 3 + 2, none⟩ = some o2) := by
        have hl : (rowsTo rs P Q i ++ rest).length = i * 3 + (rs.length + 1 - i) * 3 := by rw [List.length_append, rowsTo_length, HRS.out.2]
        exact ⟨_, _, _, (HRS.out.1.cell _).trans (List.getElem?_eq_getElem (by omega)), (HRS.out.1.cell _).trans (List.getElem?_eq_getElem (by omega)), (HRS.out.1.cell _).trans (List.getElem?_eq_getElem (by omega))⟩
      have HN1 : Hid (w.heap.size ≠ br) := by have := HBr.out; show _ ≠ _; omega
      have HN2 : Hid (ad.block ≠ br) := HNB.out ad rfl (by omega)
      have HBK : Hid (Below wr.heap.size wr wr.drew) := (Below.refl _ _).drew
      go_region_held3 (fun w' => w'.cell? ⟨w.heap.size, 1, none⟩ = some (.slice (some ad) rs.length cr) ∧ w'.cell? (ad.add (i * 3)) = some (.string x.f0) ∧ w'.cell? ⟨(ad.add (i * 3)).block, (ad.add (i * 3)).off + 1, none⟩ = some (.slice A1 x.f1.length c1') ∧ w'.cell? ⟨(ad.add (i * 3)).block, (ad.add (i * 3)).off + 2, none⟩ = some (.slice A2 x.f2.length c2'))
        (first
          | exact ⟨far3 (Below.cell_some hbk6.out c1) HN1.out, far3 (Below.cell_some hbk6.out e0) (by rw [add_block]; exact HN2.out), far3 (Below.cell_some hbk6.out e1) (by rw [add_block]; exact HN2.out), far3 (Below.cell_some hbk6.out e2) (by rw [add_block]; exact HN2.out)⟩
          | exact ⟨Below.cell_some hbk6.out c1, Below.cell_some hbk6.out e0, Below.cell_some hbk6.out e1, Below.cell_some hbk6.out e2⟩
          | exact ⟨Below.cell_some hbk5.out c1, Below.cell_some hbk5.out e0, Below.cell_some hbk5.out e1, Below.cell_some hbk5.out e2⟩
          | go_keep)
        (first
          | (go_at_call 40; refine (LendTexts.calls A1 c1' x.f1 _ (Kd.C_below G1.out HBK.out) HM1.out).mono ?_; rintro e w5 ⟨b1, rfl, hl1, hb1, hbl⟩
             have hbk5 : Hid (Below wr.heap.size wr w5) := HBK.out.trans hbl
             have HL1 := Lib.hid hl1; clear hl1
             have HB1 : Hid (wr.heap.size ≤ b1) := hb1
             clear hb1 hbl)
          | (go_at_call 20; refine (LendNodes.calls A2 c2' x.f2 _ (Kd.C_below G2.out hbk5.out) HM2.out).mono ?_; rintro e w6 ⟨b2, rfl, hl2, hb2, hbl⟩
             have hbk6 : Hid (Below wr.heap.size wr w6) := hbk5.out.trans (hbl.mono hbk5.out.size)
             have HL2 := Lib.hid hl2; clear hl2
             have HL1' : Hid (Lent Kd.string 9 w6 b1 x.f1 holdText) := HL1.out.below hbl
             have HB12 : Hid (b1 < b2) := Nat.lt_of_lt_of_le HL1.out.lt hb2
             clear hb2 hbl
             have hs0 : w6.cell? ⟨br, i * 3, none⟩ = some o0 := Below.cell_some hbk6.out HOS.out.1
             have hs1 : w6.cell? ⟨br, i * 3 + 1, none⟩ = some o1 := Below.cell_some hbk6.out HOS.out.2.1
             have hs2 : w6.cell? ⟨br, i * 3 + 2, none⟩ = some o2 := Below.cell_some hbk6.out HOS.out.2.2
             have HB6 : Hid (Blk w6 br 34 (rowsTo rs P Q i ++ rest)) := HRS.out.1.below hbk6.out HRS.out.1.lt
             have hf0 := HB6.out.frozen (i * 3)
             have hf1 := HB6.out.frozen (i * 3 + 1)
             have hf2 := HB6.out.frozen (i * 3 + 2)))
      have hN : ∀ w7 : World, w7 = ((w6.setCell ⟨br, i * 3, none⟩ (.string x.f0)).setCell ⟨br, i * 3 + 1, none⟩ (.slice (some ⟨b1, 0, none⟩) x.f1.length (x.f1.length + 1))).setCell ⟨br, i * 3 + 2, none⟩ (.slice (some ⟨b2, 0, none⟩) x.f2.length (x.f2.length + 1)) →
          Hid (GramHead w w7 w.heap.size (w.heap.size + 1 + 1) br Au (some ad) cu cr us rs (upd P i b1) (upd Q i b2) (i + 1)) := by
        intro w7 e
        have hx := HX.out
        subst hx
        exact HI.out.next hlt hbk6.out HB1.out HB12.out HL1'.out HL2.out (by have := HBr.out; omega) (by have := HBr.out; omega) e
      clear hs0 hs1 hs2 hf0 hf1 hf2 e0 e1 e2 hi0 hi1 hi2 HOS HB6 HL1 HL1' HL2 HI c1
      generalize hw7 : ((w6.setCell ⟨br, i * 3, none⟩ (.string x.f0)).setCell ⟨br, i * 3 + 1, none⟩ (.slice (some ⟨b1, 0, none⟩) x.f1.length (x.f1.length + 1))).setCell ⟨br, i * 3 + 2, none⟩ (.slice (some ⟨b2, 0, none⟩) x.f2.length (x.f2.length + 1)) = w7
      have HF := hN w7 hw7.symm
      clear hN hw7
      go_wp2
      go_roundg (rs.length - (i + 1))
      case measure => omega
      case rel => exact ⟨i + 1, _, _, by omega, rfl, HF⟩
    · obtain rfl : i = rs.length := by omega
      obtain ⟨rest, hrest⟩ := HI.out.2.2.2.2.1
      have HRS := Lib.hid hrest; clear hrest
      have c0 : wr.cell? ⟨w.heap.size, 0, none⟩ = some (.slice Au us.length cu) := HI.out.2.1.cell 0
      go_wp2_with (first
        | (with_reducible refine X.store rfl 34 (.tmp 62) (.tmp 61) rfl br (rs.length * 3) (.agg holdRule.toArray) ?_ ?_ _ _ HRS.out.1 ?_ ?_ ?_ ?_)
        | fail)
      · rfl
      · rfl
      · exact sz34
      · have h2 := HRS.out.2
        rw [List.length_append, rowsTo_length, h2]
        show rs.length * 3 + 3 ≤ _
        omega
      · intro u hu
        simp [Value.cells, holdRule] at hu
        rcases hu with rfl | rfl <;> rfl
      intro w5 hb5 hg5
      have HG : Hid (GramAt w5 w.heap.size (w.heap.size + 1 + 1) br us rs P Q ∧ Below w.heap.size w w5 ∧ Blk w5 w.heap.size 26 [.slice Au us.length cu, .slice Ar rs.length cr] ∧ ∃ z0 z1, Blk w5 (w.heap.size + 1) 26 [z0, z1]) := by
        obtain ⟨k1, k2, ⟨z, hz, k3⟩, k4, _, k6, _⟩ := HI.out
        have hbr := HBr.out
        have hh : ∀ k, k < wr.heap.size → k ≠ br → w5.heap[k]? = wr.heap[k]? := fun k hk hne => hg5.block k hk (fun e => hne (by injection e))
        obtain ⟨z0, z1, rfl⟩ : ∃ z0 z1, z = [z0, z1] := by
          match z, hz with
          | [z0, z1], _ => exact ⟨z0, z1, rfl⟩
        refine ⟨⟨Lent.flat flat69 k4 (hh _ (Lent.lt k4) (by omega)), ?_, fun j hj => ?_⟩, k1.grown hg5 k1.size (fun k e => by injection e with e; omega), k2.grown hg5 (by simp; omega), z0, z1, k3.grown hg5 (by simp; omega)⟩
        · have h2 := HRS.out.2
          have e : splice (rowsTo rs P Q rs.length ++ rest) (rs.length * 3) holdRule = rowsTo rs P Q rs.length ++ holdRule := by
            rw [← rowsTo_length rs P Q rs.length, X.splice_end]
            show _ = 3
            omega
          rw [← e]
          exact hb5
        · obtain ⟨a1, a2, a3, a4, a5⟩ := k6 j hj
          exact ⟨a1, a2, Lent.flat flatS a3 (hh _ (Lent.lt a3) (Lent.ne a3 HRS.out.1 (by decide))), Lent.flat flat47 a4 (hh _ (Lent.lt a4) (Lent.ne a4 HRS.out.1 (by decide))), a5⟩
      clear hb5 hg5 c0 c1 HI HRS
      have c0 : w5.cell? ⟨w.heap.size, 0, none⟩ = some (.slice Au us.length cu) := HG.out.2.2.1.cell 0
      have c1 : w5.cell? ⟨w.heap.size, 1, none⟩ = some (.slice Ar rs.length cr) := HG.out.2.2.1.cell 1
      obtain ⟨z0, z1, HZ1⟩ : ∃ z0 z1, Hid (Blk w5 (w.heap.size + 1) 26 [z0, z1]) := HG.out.2.2.2
      have d0 : w5.cell? ⟨w.heap.size + 1, 0, none⟩ = some z0 := HZ1.out.cell 0
      have d1 : w5.cell? ⟨w.heap.size + 1, 1, none⟩ = some z1 := HZ1.out.cell 1
      have f0 := HZ1.out.frozen 0
      have f1 := HZ1.out.frozen 1
      have hu0 : (0 : Int) ≤ (us.length : Int) := Int.natCast_nonneg _
      have hu1 : (us.length : Int) ≤ (us.length : Int) + 1 := by omega
      have hr0 : (0 : Int) ≤ (rs.length : Int) := Int.natCast_nonneg _
      have hr1 : (rs.length : Int) ≤ (rs.length : Int) + 1 := by omega
      have d0' : w5.drew.cell? ⟨w.heap.size + 1, 0, none⟩ = some z0 := d0
      have d1' : w5.drew.cell? ⟨w.heap.size + 1, 1, none⟩ = some z1 := d1
      have f0' : w5.drew.frozen? ⟨w.heap.size + 1, 0, none⟩ = false := f0
      have f1' : w5.drew.frozen? ⟨w.heap.size + 1, 1, none⟩ = false := f1
      go_wp2
      go_region_held3 (fun w' => w'.cell? ⟨w.heap.size, 0, none⟩ = some (.slice Au us.length cu) ∧ w'.cell? ⟨w.heap.size, 1, none⟩ = some (.slice Ar rs.length cr)) (first | go_keep) (first | fail)
      have hF : ∀ w6 : World, w6 = ((w5.setCell ⟨w.heap.size + 1, 0, none⟩ (.slice (some ⟨w.heap.size + 1 + 1, 0, none⟩) us.length (us.length + 1))).setCell ⟨w.heap.size + 1, 1, none⟩ (.slice (some ⟨br, 0, none⟩) rs.length (rs.length + 1))).drew →
          Hid (GramAt w6 w.heap.size (w.heap.size + 1 + 1) br us rs P Q ∧ Below w.heap.size w w6 ∧ Blk w6 (w.heap.size + 1) 26 [.slice (some ⟨w.heap.size + 1 + 1, 0, none⟩) us.length (us.length + 1), .slice (some ⟨br, 0, none⟩) rs.length (rs.length + 1)]) := by
        rintro w6 rfl
        refine ⟨HG.out.1.far HZ1.out (by decide) (fun k _ hk => ?_), ((HG.out.2.1.setCell (by simp) _).setCell (by simp) _).drew, ?_⟩
        · show (((w5.setCell _ _).setCell _ _)).heap[k]? = _
          rw [Below.heap_setCell _ _ _ _ hk, Below.heap_setCell _ _ _ _ hk]
        · exact (HZ1.out.setCell 0 (.slice (some ⟨w.heap.size + 1 + 1, 0, none⟩) us.length (us.length + 1))).setCell 1 (.slice (some ⟨br, 0, none⟩) rs.length (rs.length + 1))
      clear d0' d1' f0' f1' c0 c1 HG d0 d1 f0 f1 HZ1
      go_wp2
      generalize hw6 : ((w5.setCell ⟨w.heap.size + 1, 0, none⟩ (.slice (some ⟨w.heap.size + 1 + 1, 0, none⟩) us.length (us.length + 1))).setCell ⟨w.heap.size + 1, 1, none⟩ (.slice (some ⟨br, 0, none⟩) rs.length (rs.length + 1))).drew = w6
      have HL := hF _ hw6.symm
      have r0 : w6.cell? ⟨w.heap.size + 1, 0, none⟩ = some (.slice (some ⟨w.heap.size + 1 + 1, 0, none⟩) us.length (us.length + 1)) := HL.out.2.2.cell 0
      have r1 : w6.cell? ⟨w.heap.size + 1, 1, none⟩ = some (.slice (some ⟨br, 0, none⟩) rs.length (rs.length + 1)) := HL.out.2.2.cell 1
      clear hF hw6
      (try simp only [Exit.inBlock, Exit.then])
      refine bodyPost_ret (v := .agg #[.slice (some ⟨w.heap.size + 1 + 1, 0, none⟩) us.length (us.length + 1), .slice (some ⟨br, 0, none⟩) rs.length (rs.length + 1)]) (by simp [results, Try.results16, go_sem, r0, r1]) rfl ?_
      exact ⟨w.heap.size + 1 + 1, br, P, Q, rfl, HL.out.1, by omega, by have := HBr.out; omega, HL.out.2.1⟩
end Go.Proofs.Ytmikgaphknbcaaa.B
