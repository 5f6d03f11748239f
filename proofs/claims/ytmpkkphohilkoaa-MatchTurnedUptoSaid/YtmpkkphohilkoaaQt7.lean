/- Texts joined and shortened (wip/tools/shrink.py): MTold, XStep, MName, Fx4, Fx7. -/
import Derived.Test.YtmpkkphohilkoaaQt6
import Derived.Test.YtmpkkphohilkoaaQt2
import Derived.Test.YtmpkkphohilkoaaProg
import Derived.WalkKit
import Derived.Lib.Hide
/- dowelref14's told, walked. -/
namespace Go.Proofs.Ytmpkkphohilkoaa.B
open Go Go.RowKit Go.X Go.Ma Go.Proofs.YtmpkkphohilkoaaW.PrintWords Go.Proofs.Ytmpkkphohilkoaa.F

/-- An answer: the outcome, what was used, the error. -/
def tupC (k : Int) (en : Nat) (lb : ByteArray) (v : Value) (dp st : Nat) (er : Int) : Value := .tuple #[.agg (rsC k en lb v).toArray, .agg #[.int .i64 (dp : Nat), .int .i64 (st : Nat)], .int .i64 er]
/-- Within told: its three blocks. -/
structure TS (Y : Cy) (s : St) (w wr : World) (k : Int) (en : Nat) (lb : ByteArray) (v : Value) : Prop where
  bel : Below w.heap.size w wr
  rec_ : Blk wr Y.rb 81 (evCells Y s)
  b0 : Blk wr w.heap.size 31 (rsC k en lb v)
  b1 : Blk wr (w.heap.size + 1) 31 (rsC 0 0 ⟨#[]⟩ (.slice none 0 0))
  b2 : Blk wr (w.heap.size + 1 + 1) 32 [.int .i64 0, .int .i64 0]
  lt : Y.rb < w.heap.size
theorem TS.start {Y : Cy} {s : St} {w : World} (h : Rm Y s w) (k : Int) (en : Nat) (lb : ByteArray) (v : Value) :
    TS Y s w (((w.alloc (.cells #[.int .i64 k, .int .i64 (en : Nat), .string lb, v] 31)).alloc (.cells #[.int .i64 0, .int .i64 0, .string ⟨#[]⟩, .slice none 0 0] 31)).alloc (.cells #[.int .i64 0, .int .i64 0] 32)) k en lb v := by
  generalize hw1 : w.alloc (.cells #[.int .i64 k, .int .i64 (en : Nat), .string lb, v] 31) = w1
  have z1 : w1.heap.size = w.heap.size + 1 := by rw [← hw1]; simp
  have g1 : w.grownBy w1 none := by rw [← hw1]; exact World.grownBy_alloc _ _ none
  have k1 : Blk w1 w.heap.size 31 (rsC k en lb v) := by rw [← hw1]; exact Blk.alloc w _ _
  generalize hw2 : w1.alloc (.cells #[.int .i64 0, .int .i64 0, .string ⟨#[]⟩, .slice none 0 0] 31) = w2
  have z2 : w2.heap.size = w.heap.size + 1 + 1 := by rw [← hw2]; simp [z1]
  have g2 : w1.grownBy w2 none := by rw [← hw2]; exact World.grownBy_alloc _ _ none
  have k2 : Blk w2 (w.heap.size + 1) 31 (rsC 0 0 ⟨#[]⟩ (.slice none 0 0)) := by rw [← hw2, ← z1]; exact Blk.alloc w1 _ _
  have g3 := World.grownBy_alloc w2 (.cells #[.int .i64 0, .int .i64 0] 32) none
  have k3 := Blk.alloc w2 #[.int .i64 0, .int .i64 0] 32
  rw [z2] at k3
  have g := Fr4.grown2 (Fr4.grown2 g1 g2) g3
  exact ⟨below_of_grown g, h.rec_.grown g (by simp), k1.grown (Fr4.grown2 g2 g3) (by simp), k2.grown g3 (by simp), k3, h.rec_.lt⟩
theorem TS.fin {Y : Cy} {s : St} {w wr wz : World} {k : Int} {en : Nat} {lb : ByteArray} {v x0 x1 x2 x3 y0 y1 : Value} (h : TS Y s w wr k en lb v) (hwz : wz = (set2 (set4 wr (w.heap.size + 1) x0 x1 x2 x3) (w.heap.size + 1 + 1) y0 y1).drew) :
    Below w.heap.size w wz ∧ Blk wz (w.heap.size + 1) 31 [x0, x1, x2, x3] ∧ Blk wz (w.heap.size + 1 + 1) 32 [y0, y1] := by
  subst hwz
  have s1 := set4_grown wr (w.heap.size + 1) x0 x1 x2 x3
  have k1 := set4_blk (x0 := x0) (x1 := x1) (x2 := x2) (x3 := x3) h.b1
  have k2 := h.b2.grown s1 (by intro e; injection e with e; omega)
  have s2 : (set4 wr (w.heap.size + 1) x0 x1 x2 x3).grownBy (set2 (set4 wr (w.heap.size + 1) x0 x1 x2 x3) (w.heap.size + 1 + 1) y0 y1) (some (w.heap.size + 1 + 1)) := Fr4.grown2 (grown_setCell _ _ _) (grown_setCell _ _ _)
  have k3 : Blk (set2 (set4 wr (w.heap.size + 1) x0 x1 x2 x3) (w.heap.size + 1 + 1) y0 y1) (w.heap.size + 1 + 1) 32 [y0, y1] := (k2.setCell 0 y0).setCell 1 y1
  have k4 := k1.grown s2 (by intro e; injection e with e; omega)
  have hd := Below.drewQ (w := set2 (set4 wr (w.heap.size + 1) x0 x1 x2 x3) (w.heap.size + 1 + 1) y0 y1) ⟨1, rfl⟩
  have b1 := (h.bel.grown s1 h.bel.size (fun k hk => by injection hk with hk; omega)).grown s2 (by have := s1.size; have := h.bel.size; omega) (fun k hk => by injection hk with hk; omega)
  exact ⟨b1.trans (hd.mono (by have := b1.size; omega)), k4.below hd k4.lt, k3.below hd k3.lt⟩
def ToldP (s : St) (k : Int) (en : Nat) (lb : ByteArray) (v : Value) (w : World) (e : Ending) (w' : World) : Prop :=
  e = .returned (if s.err = 0 then tupC k en lb v s.depth s.steps 0 else tupC 0 0 ⟨#[]⟩ (.slice none 0 0) 0 0 s.err) ∧ Below w.heap.size w w'
set_option maxRecDepth 100000 in
set_option maxHeartbeats 4000000 in
theorem told.calls (Y : Cy) (s : St) (k : Int) (en : Nat) (lb : ByteArray) (v : Option Addr) (fl fc : Nat) (w : World) (h : Rm Y s w) :
    Calls Try.prog 20 #[.pointer (some ⟨Y.rb, 0, none⟩), .agg (rsC k en lb (.slice v fl fc)).toArray] w (ToldP s k en lb (.slice v fl fc) w) := by
  have H0 := Lib.hid (TS.start h k en lb (.slice v fl fc)); clear h
  dsimp only [rsC]
  go_enter Try.func20, Try.ntmps20
  go_upto_region 1 with (fail)
  generalize hwa : ((w.alloc (.cells #[.int .i64 k, .int .i64 (en : Nat), .string lb, .slice v fl fc] 31)).alloc (.cells #[.int .i64 0, .int .i64 0, .string ⟨#[]⟩, .slice none 0 0] 31)).alloc (.cells #[.int .i64 0, .int .i64 0] 32) = wa
  rw [hwa] at H0
  clear hwa
  have c8 : wa.cell? ⟨Y.rb, 8, none⟩ = some (.int .i64 s.err) := H0.out.rec_.cell 8
  have s0 : wa.cell? ⟨w.heap.size + 1, 0, none⟩ = some (.int .i64 0) := H0.out.b1.cell 0
  have s1 : wa.cell? ⟨w.heap.size + 1, 1, none⟩ = some (.int .i64 0) := H0.out.b1.cell 1
  have s2 : wa.cell? ⟨w.heap.size + 1, 2, none⟩ = some (.string ⟨#[]⟩) := H0.out.b1.cell 2
  have s3 : wa.cell? ⟨w.heap.size + 1, 3, none⟩ = some (.slice none 0 0) := H0.out.b1.cell 3
  have t0 : wa.cell? ⟨w.heap.size + 1 + 1, 0, none⟩ = some (.int .i64 0) := H0.out.b2.cell 0
  have t1 : wa.cell? ⟨w.heap.size + 1 + 1, 1, none⟩ = some (.int .i64 0) := H0.out.b2.cell 1
  have f0 := H0.out.b1.frozen 0
  have f1 := H0.out.b1.frozen 1
  have f2 := H0.out.b1.frozen 2
  have f3 := H0.out.b1.frozen 3
  have g0 := H0.out.b2.frozen 0
  have g1 := H0.out.b2.frozen 1
  have HNE : Hid (w.heap.size + 1 ≠ Y.rb ∧ w.heap.size + 1 + 1 ≠ Y.rb ∧ w.heap.size + 1 ≠ w.heap.size ∧ w.heap.size + 1 + 1 ≠ w.heap.size) := by have := H0.out.lt; exact ⟨by omega, by omega, by omega, by omega⟩
  by_cases he : s.err = 0
  · have heb : (s.err == (0 : Int)) = true := by rw [he]; rfl
    go_upto_region 3 with (fail)
    have u6 : wa.cell? ⟨Y.rb, 6, none⟩ = some (.int .i64 (s.depth : Nat)) := H0.out.rec_.cell 6
    have u7 : wa.cell? ⟨Y.rb, 7, none⟩ = some (.int .i64 (s.steps : Nat)) := H0.out.rec_.cell 7
    have k0 : wa.cell? ⟨w.heap.size, 0, none⟩ = some (.int .i64 k) := H0.out.b0.cell 0
    have k1 : wa.cell? ⟨w.heap.size, 1, none⟩ = some (.int .i64 (en : Nat)) := H0.out.b0.cell 1
    have k2 : wa.cell? ⟨w.heap.size, 2, none⟩ = some (.string lb) := H0.out.b0.cell 2
    have k3 : wa.cell? ⟨w.heap.size, 3, none⟩ = some (.slice v fl fc) := H0.out.b0.cell 3
    clear c8
    go_region_held3 (fun w' => w'.cell? ⟨w.heap.size, 0, none⟩ = some (.int .i64 k) ∧ w'.cell? ⟨w.heap.size, 1, none⟩ = some (.int .i64 (en : Nat)) ∧ w'.cell? ⟨w.heap.size, 2, none⟩ = some (.string lb) ∧ w'.cell? ⟨w.heap.size, 3, none⟩ = some (.slice v fl fc) ∧ w'.cell? ⟨Y.rb, 6, none⟩ = some (.int .i64 (s.depth : Nat)) ∧ w'.cell? ⟨Y.rb, 7, none⟩ = some (.int .i64 (s.steps : Nat)))
      (first
        | with_reducible exact ⟨farA4 HNE.out.2.2.1 k0, farA4 HNE.out.2.2.1 k1, farA4 HNE.out.2.2.1 k2, farA4 HNE.out.2.2.1 k3, farA4 HNE.out.1 u6, farA4 HNE.out.1 u7⟩
        | with_reducible exact ⟨farA6 HNE.out.2.2.1 HNE.out.2.2.2 k0, farA6 HNE.out.2.2.1 HNE.out.2.2.2 k1, farA6 HNE.out.2.2.1 HNE.out.2.2.2 k2, farA6 HNE.out.2.2.1 HNE.out.2.2.2 k3, farA6 HNE.out.1 HNE.out.2.1 u6, farA6 HNE.out.1 HNE.out.2.1 u7⟩
        | go_keep)
      (first | fail)
    rename_i hHeld
    clear hHeld
    go_wp2
    clear k0 k1 k2 k3 u6 u7 s0 s1 s2 s3 t0 t1 f0 f1 f2 f3 g0 g1
    (try simp only [Exit.inBlock, Exit.then])
    show bodyPost _ _ _ _ _ (set2 (set4 wa (w.heap.size + 1) (.int .i64 k) (.int .i64 (en : Nat)) (.string lb) (.slice v fl fc)) (w.heap.size + 1 + 1) (.int .i64 (s.depth : Nat)) (.int .i64 (s.steps : Nat))).drew
    obtain ⟨wz, hwz⟩ : ∃ wz, wz = (set2 (set4 wa (w.heap.size + 1) (.int .i64 k) (.int .i64 (en : Nat)) (.string lb) (.slice v fl fc)) (w.heap.size + 1 + 1) (.int .i64 (s.depth : Nat)) (.int .i64 (s.steps : Nat))).drew := ⟨_, rfl⟩
    rw [← hwz]
    obtain ⟨hb, k1, k2⟩ := H0.out.fin hwz
    clear hwz
    have r0 : wz.cell? ⟨w.heap.size + 1, 0, none⟩ = some (.int .i64 k) := k1.cell 0
    have r1 : wz.cell? ⟨w.heap.size + 1, 1, none⟩ = some (.int .i64 (en : Nat)) := k1.cell 1
    have r2 : wz.cell? ⟨w.heap.size + 1, 2, none⟩ = some (.string lb) := k1.cell 2
    have r3 : wz.cell? ⟨w.heap.size + 1, 3, none⟩ = some (.slice v fl fc) := k1.cell 3
    have r4 : wz.cell? ⟨w.heap.size + 1 + 1, 0, none⟩ = some (.int .i64 (s.depth : Nat)) := k2.cell 0
    have r5 : wz.cell? ⟨w.heap.size + 1 + 1, 1, none⟩ = some (.int .i64 (s.steps : Nat)) := k2.cell 1
    refine bodyPost_ret (v := tupC k en lb (.slice v fl fc) s.depth s.steps 0) (by simp [results, tupC, rsC, Try.results20, go_sem, r0, r1, r2, r3, r4, r5]) rfl ?_
    exact ⟨by rw [if_pos he], hb⟩
  · have heb : (s.err == (0 : Int)) = false := beq_eq_false_iff_ne.2 he
    go_upto_region 2 with (fail)
    go_region_held3 (fun w' => w'.cell? ⟨Y.rb, 8, none⟩ = some (.int .i64 s.err))
      (first
        | with_reducible exact farA4 HNE.out.1 c8
        | with_reducible exact farA6 HNE.out.1 HNE.out.2.1 c8
        | go_keep)
      (first | fail)
    rename_i hHeld
    clear hHeld
    go_wp2
    clear c8 s0 s1 s2 s3 t0 t1 f0 f1 f2 f3 g0 g1
    (try simp only [Exit.inBlock, Exit.then])
    show bodyPost _ _ _ _ _ (set2 (set4 wa (w.heap.size + 1) (.int .i64 0) (.int .i64 ((0 : Nat) : Int)) (.string ⟨#[]⟩) (.slice none 0 0)) (w.heap.size + 1 + 1) (.int .i64 ((0 : Nat) : Int)) (.int .i64 ((0 : Nat) : Int))).drew
    obtain ⟨wz, hwz⟩ : ∃ wz, wz = (set2 (set4 wa (w.heap.size + 1) (.int .i64 0) (.int .i64 ((0 : Nat) : Int)) (.string ⟨#[]⟩) (.slice none 0 0)) (w.heap.size + 1 + 1) (.int .i64 ((0 : Nat) : Int)) (.int .i64 ((0 : Nat) : Int))).drew := ⟨_, rfl⟩
    rw [← hwz]
    obtain ⟨hb, k1, k2⟩ := H0.out.fin hwz
    clear hwz
    have r0 : wz.cell? ⟨w.heap.size + 1, 0, none⟩ = some (.int .i64 0) := k1.cell 0
    have r1 : wz.cell? ⟨w.heap.size + 1, 1, none⟩ = some (.int .i64 0) := k1.cell 1
    have r2 : wz.cell? ⟨w.heap.size + 1, 2, none⟩ = some (.string ⟨#[]⟩) := k1.cell 2
    have r3 : wz.cell? ⟨w.heap.size + 1, 3, none⟩ = some (.slice none 0 0) := k1.cell 3
    have r4 : wz.cell? ⟨w.heap.size + 1 + 1, 0, none⟩ = some (.int .i64 0) := k2.cell 0
    have r5 : wz.cell? ⟨w.heap.size + 1 + 1, 1, none⟩ = some (.int .i64 0) := k2.cell 1
    refine bodyPost_ret (v := tupC 0 0 ⟨#[]⟩ (.slice none 0 0) 0 0 s.err) (by simp [results, tupC, rsC, Try.results20, go_sem, r0, r1, r2, r3, r4, r5]) rfl ?_
    exact ⟨by rw [if_neg he], hb⟩
end Go.Proofs.Ytmpkkphohilkoaa.B
/- A store into a block, as one step inside a region that draws its order. -/
namespace Go.X
open Go Go.RowKit
section
variable {P : Program} {ops : Array Oper} {o : Oper} {a : Act} {w : World} {K : Act → World → Prop} {Q : Exit → Act → World → Prop} {E : Prop}
end
end Go.X
/- Names: letter, digit, own, numbered, named, Name of lexis (the same text as wip/lib/CName, with this seat's numbers). -/
namespace Go.Proofs.Ytmpkkphohilkoaa.Nm
open Go Go.RowKit Go.X Go.Proofs.YtmpkkphohilkoaaW.PrintWords

def letterZ (c : Int) : Bool := (decide (97 ≤ c) && decide (c ≤ 122)) || (decide (65 ≤ c) && decide (c ≤ 90)) || decide (c = 95)
def digitZ (c : Int) : Bool := decide (48 ≤ c) && decide (c ≤ 57)
def ldZ (c : Int) : Bool := letterZ c || digitZ c
def bl (s : ByteArray) : List Int := s.data.toList.map fun c => (c.toNat : Int)
theorem bl_length (s : ByteArray) : (bl s).length = s.size := by simp [bl]
theorem bl_get (s : ByteArray) {i : Nat} (h : i < s.size) : ((s[i]'h).toNat : Int) = (bl s).getD i 0 := by
  have h' : i < s.data.size := h
  rw [List.getD_eq_getElem?_getD, bl, List.getElem?_map, Array.getElem?_toList, Array.getElem?_eq_getElem h']
  rfl
theorem drop_bl (s : ByteArray) {i : Nat} (h : i < s.size) : (bl s).drop i = (bl s).getD i 0 :: (bl s).drop (i + 1) := by
  have h' : i < (bl s).length := by rw [bl_length]; exact h
  rw [List.drop_eq_getElem_cons h', List.getD_eq_getElem?_getD, List.getElem?_eq_getElem h']
  rfl
theorem drop_bl_nil (s : ByteArray) {i : Nat} (h : s.size ≤ i) : (bl s).drop i = [] := List.drop_of_length_le (by rw [bl_length]; exact h)
def run (p : Int → Bool) (l : List Int) : Nat := (l.takeWhile p).length
theorem run_nil (p : Int → Bool) : run p [] = 0 := rfl
theorem run_cons (p : Int → Bool) (c : Int) (r : List Int) : run p (c :: r) = if p c then 1 + run p r else 0 := by
  unfold run
  cases h : p c <;> simp [h, Nat.add_comm]
def ownL : List Int → Nat
  | [] => 0
  | c :: r => if letterZ c then 1 + run ldZ r else 0
set_option maxHeartbeats 1000000 in
theorem letter.calls (c : Int) (w : World) : Calls Try.prog 54 #[.int .u8 c] w fun e w' => e = .returned (.bool (letterZ c)) ∧ w' = w := by
  go_enter Try.func54, Try.ntmps54
  by_cases h1 : 97 ≤ c <;> by_cases h2 : c ≤ 122 <;> by_cases h3 : 65 ≤ c <;> by_cases h4 : c ≤ 90 <;> by_cases h5 : c = 95 <;>
  (first | (exfalso; omega) | (go_wp2; go_ret; refine ⟨congrArg (fun b => Ending.returned (.bool b)) (?_ : _ = letterZ _), rfl⟩; rw [Bool.eq_iff_iff]; simp [letterZ] <;> omega))
set_option maxHeartbeats 1000000 in
theorem digit.calls (c : Int) (w : World) : Calls Try.prog 55 #[.int .u8 c] w fun e w' => e = .returned (.bool (digitZ c)) ∧ w' = w := by
  go_enter Try.func55, Try.ntmps55
  by_cases h1 : 48 ≤ c <;> by_cases h2 : c ≤ 57 <;> (go_wp2; go_ret; exact ⟨by simp [digitZ, *], rfl⟩)
set_option maxHeartbeats 1000000 in
theorem ownN.calls (s : ByteArray) (at_ : Nat) (w : World) (hs : s.size ≤ 9223372036854775807) (hat : at_ ≤ s.size) : Calls Try.prog 47 #[.string s, .int .i64 at_] w fun e w' => e = .returned (.int .i64 (ownL ((bl s).drop at_))) ∧ w' = w := by
  go_enter Try.func47, Try.ntmps47
  go_wp2
  go_loopg [5] (s.size - at_) (fun q v wr => ∃ n : Nat, q + (at_ + n) = s.size ∧ v = .int .i64 n ∧ Hid ((n = 0 ∨ ownL ((bl s).drop at_) = n + run ldZ ((bl s).drop (at_ + n)))) ∧ wr = w)
  case atStart => exact ⟨0, by omega, rfl, .inl rfl, rfl⟩
  case round =>
    obtain ⟨n, hn, rfl, HO, rfl⟩ := hrel
    have h1 : IntKind.i64.wrap ((at_ : Int) + n) = (at_ : Int) + n := IntWalk.i64_in _ (by omega)
    by_cases hlt : at_ + n < s.size
    · have hd := drop_bl s hlt
      have hc := bl_get s hlt
      generalize (bl s).getD (at_ + n) 0 = c at *
      have HD := Lib.hid hd; clear hd
      by_cases hl : letterZ c = true
      · go_wp2_with (first | (go_at_call 54; refine (letter.calls _ _).mono ?_; rintro e w1 ⟨rfl, rfl⟩; dsimp only) | fail)
        go_roundg (s.size - (at_ + (n + 1)))
        case measure => omega
        case rel =>
          refine ⟨n + 1, by omega, by go_num, .inr ?_, rfl⟩
          rcases HO.out with rfl | h
          · have hd := HD.out
            rw [Nat.add_zero] at hd
            rw [hd, ownL, if_pos hl]
          · rw [h, HD.out, run_cons, if_pos (by simp [ldZ, hl])]; show _ = n + 1 + run ldZ ((bl s).drop (at_ + n + 1)); omega
      · by_cases h0 : n = 0
        · subst h0
          simp only [Nat.add_zero] at hc
          go_wp2_with (first | (go_at_call 54; refine (letter.calls _ _).mono ?_; rintro e w1 ⟨rfl, rfl⟩; dsimp only) | fail)
          go_ret
          have hd := HD.out
          rw [Nat.add_zero] at hd
          rw [hd, ownL, if_neg hl]
          exact ⟨rfl, rfl⟩
        · have hpos : 0 < n := Nat.pos_of_ne_zero h0
          have ho : Hid (ownL ((bl s).drop at_) = n + run ldZ ((bl s).drop (at_ + n))) := HO.out.resolve_left h0
          by_cases hdg : digitZ c = true
          · go_wp2_with (first | (go_at_call 54; refine (letter.calls _ _).mono ?_; rintro e w1 ⟨rfl, rfl⟩; dsimp only) | (go_at_call 55; refine (digit.calls _ _).mono ?_; rintro e w1 ⟨rfl, rfl⟩; dsimp only) | fail)
            go_roundg (s.size - (at_ + (n + 1)))
            case measure => omega
            case rel =>
              refine ⟨n + 1, by omega, by go_num, .inr ?_, rfl⟩
              rw [ho.out, HD.out, run_cons, if_pos (by simp [ldZ, hdg])]; show _ = n + 1 + run ldZ ((bl s).drop (at_ + n + 1)); omega
          · go_wp2_with (first | (go_at_call 54; refine (letter.calls _ _).mono ?_; rintro e w1 ⟨rfl, rfl⟩; dsimp only) | (go_at_call 55; refine (digit.calls _ _).mono ?_; rintro e w1 ⟨rfl, rfl⟩; dsimp only) | fail)
            go_ret
            rw [ho.out, HD.out, run_cons, if_neg (by simp [ldZ, hdg, hl])]
            exact ⟨rfl, rfl⟩
    · go_wp2
      go_ret
      refine ⟨?_, rfl⟩
      have e : (bl s).drop (at_ + n) = [] := drop_bl_nil s (by omega)
      rcases HO.out with rfl | h
      · rw [Nat.add_zero] at e
        rw [e]
        rfl
      · rw [h, e]
        rfl
set_option maxHeartbeats 2000000 in
def numL (l : List Int) : Nat :=
  match l with
  | [] => 0
  | c :: r => if c = 126 ∧ run digitZ r ≠ 0 ∧ run digitZ r ≤ 5 ∧ r.getD 0 0 ≠ 48 then 1 + run digitZ r else 0
theorem numL_of {l r : List Int} (h : l = 126 :: r) (n : Nat) (hn : n = 1 + run digitZ r) :
    (n = 1 → numL l = 0) ∧ (6 < n → numL l = 0) ∧ (n ≠ 1 → n ≤ 6 → (l.getD 1 0 = 48 → numL l = 0) ∧ (l.getD 1 0 ≠ 48 → numL l = n)) := by
  subst h
  rw [numL]
  refine ⟨fun h => if_neg (by omega), fun h => if_neg (by omega), fun h h6 => ⟨fun h48 => if_neg (fun hx => hx.2.2.2 h48), fun h48 => ?_⟩⟩
  rw [if_pos ⟨rfl, by omega, by omega, h48⟩, hn]
theorem run_le (p : Int → Bool) (l : List Int) : run p l ≤ l.length := (List.takeWhile_sublist p).length_le
set_option maxHeartbeats 2000000 in
theorem numbered.calls (s : ByteArray) (w : World) (hs : s.size ≤ 9223372036854775807) : Calls Try.prog 49 #[.string s] w fun e w' => e = .returned (.int .i64 (numL (bl s))) ∧ w' = w := by
  go_enter Try.func49, Try.ntmps49
  by_cases h0 : s.size = 0
  · have e : bl s = [] := by have := drop_bl_nil s (i := 0) (by omega); simpa using this
    have es : s = ⟨#[]⟩ := by cases s with | mk d => cases d with | mk l => cases l <;> simp_all [ByteArray.size]
    subst es
    clear h0
    go_wp2
    go_ret
    rw [e]
    exact ⟨rfl, rfl⟩
  · have hp : 0 < s.size := by omega
    have hd := drop_bl s hp
    have hc := bl_get s hp
    rw [List.drop_zero] at hd
    generalize (bl s).getD 0 0 = c at *
    have HD0 : Hid (bl s = c :: (bl s).drop 1) := hd
    clear hd
    have hne : (s.toList == []) = false := by
      have h2 : s.toList.length = s.size := by rw [ByteArray.toList_eq]; rfl
      cases h : s.toList with
      | nil => rw [h] at h2; simp at h2; omega
      | cons a r => rfl
    by_cases h1 : c = 126
    · subst h1
      go_wp2
      clear hc
      go_loopg [3] (s.size - 1) (fun q v wr => ∃ n : Nat, q + n = s.size ∧ v = .int .i64 n ∧ 1 ≤ n ∧ Hid (1 + run digitZ ((bl s).drop 1) = n + run digitZ ((bl s).drop n)) ∧ wr = w)
      case atStart => exact ⟨1, by omega, rfl, by omega, rfl, rfl⟩
      case round =>
        obtain ⟨n, hn, rfl, h1n, HO, rfl⟩ := hrel
        by_cases hlt : n < s.size
        · have hd := drop_bl s hlt
          have hc := bl_get s hlt
          generalize (bl s).getD n 0 = c at *
          have HD := Lib.hid hd; clear hd
          by_cases hdg : digitZ c = true
          · go_wp2_with (first | (go_at_call 55; refine (digit.calls _ _).mono ?_; rintro e w1 ⟨rfl, rfl⟩; dsimp only) | fail)
            go_roundg (s.size - (n + 1))
            case measure => omega
            case rel => exact ⟨n + 1, by omega, by go_num, by omega, by have := HO.out; rw [HD.out, run_cons, if_pos (by simp [hdg])] at this; show _ = _; omega, rfl⟩
          · have hdg' : digitZ c = false := by simpa using hdg
            clear hdg
            have hF := numL_of HD0.out n (by have := HO.out; rw [HD.out, run_cons, if_neg (by simp [hdg'])] at this; omega)
            by_cases a1 : n = 1
            · have HV := Lib.hid (hF.1 a1); clear hF
              subst a1
              go_wp2_with (first | (go_at_call 55; refine (digit.calls _ _).mono ?_; rintro e w1 ⟨rfl, rfl⟩; dsimp only) | fail)
              go_ret
              rw [HV.out]
              exact ⟨rfl, rfl⟩
            · have a1' : ((n : Int) == 1) = false := by rw [beq_eq_false_iff_ne]; omega
              by_cases a2 : 6 < n
              · have a2' : (6 : Int) < (n : Int) := by omega
                have HV := Lib.hid (hF.2.1 a2); clear hF
                go_wp2_with (first | (go_at_call 55; refine (digit.calls _ _).mono ?_; rintro e w1 ⟨rfl, rfl⟩; dsimp only) | fail)
                go_ret
                rw [HV.out]
                exact ⟨rfl, rfl⟩
              · have a2' : ¬ ((6 : Int) < (n : Int)) := by omega
                have hs1 : 1 < s.size := by omega
                have hc1 := bl_get s hs1
                have hG := hF.2.2 a1 (by omega)
                clear hF
                generalize (bl s).getD 1 0 = d at *
                have HG := Lib.hid hG; clear hG
                have hs1' : (1 : Int) < (s.size : Int) := by omega
                by_cases a3 : d = 48
                · have HV := Lib.hid (HG.out.1 a3)
                  subst a3
                  go_wp2_with (first | (go_at_call 55; refine (digit.calls _ _).mono ?_; rintro e w1 ⟨rfl, rfl⟩; dsimp only) | fail)
                  go_ret
                  rw [HV.out]
                  exact ⟨rfl, rfl⟩
                · have a3' : (d == 48) = false := by rw [beq_eq_false_iff_ne]; exact a3
                  go_wp2_with (first | (go_at_call 55; refine (digit.calls _ _).mono ?_; rintro e w1 ⟨rfl, rfl⟩; dsimp only) | fail)
                  go_ret
                  rw [HG.out.2 a3]
                  exact ⟨rfl, rfl⟩
        · skip
          have hF := numL_of HD0.out n (by have := HO.out; rw [drop_bl_nil s (i := n) (by omega), run_nil] at this; omega)
          by_cases a1 : n = 1
          · have HV := Lib.hid (hF.1 a1); clear hF
            subst a1
            go_wp2_with (first | (go_at_call 55; refine (digit.calls _ _).mono ?_; rintro e w1 ⟨rfl, rfl⟩; dsimp only) | fail)
            go_ret
            rw [HV.out]
            exact ⟨rfl, rfl⟩
          · have a1' : ((n : Int) == 1) = false := by rw [beq_eq_false_iff_ne]; omega
            by_cases a2 : 6 < n
            · have a2' : (6 : Int) < (n : Int) := by omega
              have HV := Lib.hid (hF.2.1 a2); clear hF
              go_wp2_with (first | (go_at_call 55; refine (digit.calls _ _).mono ?_; rintro e w1 ⟨rfl, rfl⟩; dsimp only) | fail)
              go_ret
              rw [HV.out]
              exact ⟨rfl, rfl⟩
            · have a2' : ¬ ((6 : Int) < (n : Int)) := by omega
              have hs1 : 1 < s.size := by omega
              have hc1 := bl_get s hs1
              have hG := hF.2.2 a1 (by omega)
              clear hF
              generalize (bl s).getD 1 0 = d at *
              have HG := Lib.hid hG; clear hG
              have hs1' : (1 : Int) < (s.size : Int) := by omega
              by_cases a3 : d = 48
              · have HV := Lib.hid (HG.out.1 a3)
                subst a3
                go_wp2_with (first | (go_at_call 55; refine (digit.calls _ _).mono ?_; rintro e w1 ⟨rfl, rfl⟩; dsimp only) | fail)
                go_ret
                rw [HV.out]
                exact ⟨rfl, rfl⟩
              · have a3' : (d == 48) = false := by rw [beq_eq_false_iff_ne]; exact a3
                go_wp2_with (first | (go_at_call 55; refine (digit.calls _ _).mono ?_; rintro e w1 ⟨rfl, rfl⟩; dsimp only) | fail)
                go_ret
                rw [HG.out.2 a3]
                exact ⟨rfl, rfl⟩
    · go_wp2
      go_ret
      rw [HD0.out, numL, if_neg (by simp [h1])]
      exact ⟨rfl, rfl⟩

theorem bl_extract (s : ByteArray) (i j : Nat) : bl (s.extract i j) = ((bl s).drop i).take (j - i) := by
  simp only [bl, ByteArray.data_extract, Array.toList_extract, List.extract_eq_take_drop, List.map_take, List.map_drop]
theorem bl_rest (s : ByteArray) (i : Nat) : bl (s.extract i s.size) = (bl s).drop i := by
  rw [bl_extract, List.take_of_length_le (by rw [List.length_drop, bl_length]; omega)]
theorem size_extract (s : ByteArray) (i j : Nat) (h : j ≤ s.size) : (s.extract i j).size = j - i := by
  rw [ByteArray.size_extract]; omega
theorem colons_iff (s : ByteArray) : (s.toList == [58, 58]) = decide (bl s = [58, 58]) := by
  rw [ByteArray.toList_eq, bl, Bool.eq_iff_iff]
  generalize s.data.toList = l
  simp only [beq_iff_eq, decide_eq_true_eq]
  constructor
  · rintro rfl; rfl
  · intro h
    match l, h with
    | [a, b], h =>
      simp only [List.map_cons, List.map_nil, List.cons.injEq, and_true] at h
      obtain ⟨h1, h2⟩ := h
      have e1 : a = 58 := UInt8.toNat_inj.1 (by simpa using Int.ofNat_inj.1 h1)
      have e2 : b = 58 := UInt8.toNat_inj.1 (by simpa using Int.ofNat_inj.1 h2)
      rw [e1, e2]
    | [], h => simp at h
    | [_], h => simp at h
    | _ :: _ :: _ :: _, h => simp at h
set_option maxHeartbeats 1000000 in
theorem hasPrefix0.calls (s : ByteArray) (w : World) (hs : s.size ≤ 9223372036854775807) : Calls Try.prog 56 #[.string s, .string ⟨#[58, 58]⟩] w fun e w' => e = .returned (.bool (decide ((bl s).take 2 = [58, 58]))) ∧ w' = w := by
  go_enter Try.func56, Try.ntmps56
  by_cases h : 2 ≤ s.size
  · have h' : (2 : Int) ≤ (s.size : Int) := by omega
    go_wp2
    go_ret
    refine ⟨congrArg (fun b => Ending.returned (.bool b)) ?_, rfl⟩
    show ((s.extract 0 2).toList == [58, 58]) = _
    rw [colons_iff, bl_extract]
    rfl
  · go_wp2
    go_ret
    refine ⟨congrArg (fun b => Ending.returned (.bool b)) ?_, rfl⟩
    symm
    rw [decide_eq_false_iff_not]
    intro h2
    have := congrArg List.length h2
    rw [List.length_take, bl_length] at this
    simp at this
    omega
set_option maxHeartbeats 1000000 in
theorem hasPrefix.calls (s : ByteArray) (w : World) (hs : s.size ≤ 9223372036854775807) : Calls Try.prog 48 #[.string s, .string ⟨#[58, 58]⟩] w fun e w' => e = .returned (.bool (decide ((bl s).take 2 = [58, 58]))) ∧ w' = w := by
  go_enter Try.func48, Try.ntmps48
  go_wp2_with (fail)
  refine (hasPrefix0.calls s w hs).mono ?_
  rintro e w1 ⟨rfl, rfl⟩
  dsimp only
  go_wp2
  go_ret
  exact ⟨rfl, rfl⟩
theorem ownL_le (l : List Int) : ownL l ≤ l.length := by
  cases l with
  | nil => exact Nat.le_refl _
  | cons c r =>
    rw [ownL]
    split
    · have := run_le ldZ r
      simp only [List.length_cons]
      omega
    · omega
def mid (l : List Int) (n : Nat) : Nat := if (l.drop n).take 2 = [58, 58] ∧ ownL (l.drop (n + 2)) ≠ 0 then n + 2 + ownL (l.drop (n + 2)) else n
def namedL (l : List Int) : Nat := if ownL l = 0 then 0 else mid l (ownL l) + numL (l.drop (mid l (ownL l)))
theorem colons_len {l : List Int} {n : Nat} (h : (l.drop n).take 2 = [58, 58]) : n + 2 ≤ l.length := by
  have := congrArg List.length h
  rw [List.length_take, List.length_drop] at this
  simp at this
  omega
theorem numL_le (l : List Int) : numL l ≤ l.length := by
  cases l with
  | nil => exact Nat.le_refl _
  | cons c r =>
    rw [numL]
    split
    · have := run_le digitZ r
      simp only [List.length_cons]
      omega
    · omega
set_option maxHeartbeats 2000000 in
theorem named.calls (s : ByteArray) (w : World) (hs : s.size ≤ 9223372036854775807) : Calls Try.prog 38 #[.string s, .int .i64 0] w fun e w' => e = .returned (.int .i64 (namedL (bl s))) ∧ w' = w := by
  go_enter Try.func38, Try.ntmps38
  go_wp2_with (fail)
  refine (ownN.calls s 0 w hs (by omega)).mono ?_
  rintro e w1 ⟨rfl, rfl⟩
  dsimp only
  rw [List.drop_zero]
  have hle := ownL_le (bl s)
  rw [bl_length] at hle
  by_cases h0 : ownL (bl s) = 0
  · rw [h0]
    go_wp2
    go_ret
    rw [namedL, if_pos h0]
    exact ⟨rfl, rfl⟩
  have HN : Hid (namedL (bl s) = mid (bl s) (ownL (bl s)) + numL ((bl s).drop (mid (bl s) (ownL (bl s))))) := by
    show _ = _
    rw [namedL, if_neg h0]
  generalize ownL (bl s) = n at *
  have h0' : ((n : Int) == 0) = false := by rw [beq_eq_false_iff_ne]; omega
  have hw : wrap64 (n : Int) = n := IntWalk.wrap64_in _ (by omega)
  have hb : (0 : Int) ≤ (n : Int) ∧ (n : Int) ≤ (s.size : Int) := by omega
  have ht : ((n : Int)).toNat = n := Int.toNat_natCast n
  go_wp2_with (fail)
  refine (hasPrefix.calls _ w1 (by rw [size_extract _ _ _ (Nat.le_refl _)]; omega)).mono ?_
  rintro e w2 ⟨rfl, rfl⟩
  dsimp only
  rw [bl_rest]
  by_cases hc : ((bl s).drop n).take 2 = [58, 58]
  · have hl := colons_len hc
    rw [bl_length] at hl
    have HM : Hid (mid (bl s) n = if ownL ((bl s).drop (n + 2)) = 0 then n else n + 2 + ownL ((bl s).drop (n + 2))) := by
      show _ = _
      rw [mid]
      by_cases hz : ownL ((bl s).drop (n + 2)) = 0
      · rw [if_neg (fun h => h.2 hz), if_pos hz]
      · rw [if_pos ⟨hc, hz⟩, if_neg hz]
    rw [decide_eq_true hc]
    clear hc
    have hw2 : wrap64 ((n : Int) + 2) = ((n + 2 : Nat) : Int) := by rw [IntWalk.wrap64_in _ (by omega)]; rfl
    have hle2 := ownL_le ((bl s).drop (n + 2))
    rw [List.length_drop, bl_length] at hle2
    go_wp2_with (fail)
    refine (ownN.calls s (n + 2) w2 hs (by omega)).mono ?_
    rintro e w3 ⟨rfl, rfl⟩
    dsimp only
    generalize ownL ((bl s).drop (n + 2)) = m at *
    by_cases hm : m = 0
    · subst hm
      have HM2 : Hid (mid (bl s) n = n) := HM.out
      clear HM
      go_wp2_with (fail)
      refine (numbered.calls _ w3 (by rw [size_extract _ _ _ (Nat.le_refl _)]; omega)).mono ?_
      rintro e w4 ⟨rfl, rfl⟩
      dsimp only
      have hnum := numL_le ((bl s).drop n)
      rw [List.length_drop, bl_length] at hnum
      rw [bl_rest]
      have hN := HN.out
      rw [HM2.out] at hN
      have HN2 := Lib.hid hN
      clear hN HN
      generalize numL ((bl s).drop n) = q at *
      have hw3 : wrap64 ((n : Int) + q) = ((n + q : Nat) : Int) := by rw [IntWalk.wrap64_in _ (by omega)]; rfl
      go_wp2
      go_ret
      rw [HN2.out]
      exact ⟨rfl, rfl⟩
    · have hm' : (0 : Int) < (m : Int) := by omega
      have HM2 : Hid (mid (bl s) n = n + 2 + m) := by have := HM.out; rw [if_neg hm] at this; exact this
      clear HM
      have hw4 : wrap64 (2 + (m : Int)) = 2 + (m : Int) := IntWalk.wrap64_in _ (by omega)
      have hw5 : wrap64 ((n : Int) + (2 + (m : Int))) = ((n + 2 + m : Nat) : Int) := by rw [IntWalk.wrap64_in _ (by omega)]; omega
      have hw6 : wrap64 ((n + 2 + m : Nat) : Int) = ((n + 2 + m : Nat) : Int) := IntWalk.wrap64_in _ (by omega)
      have hb2 : (0 : Int) ≤ ((n + 2 + m : Nat) : Int) ∧ ((n + 2 + m : Nat) : Int) ≤ (s.size : Int) := by omega
      have ht2 : (((n + 2 + m : Nat) : Int)).toNat = n + 2 + m := Int.toNat_natCast _
      go_wp2_with (fail)
      refine (numbered.calls _ w3 (by rw [size_extract _ _ _ (Nat.le_refl _)]; omega)).mono ?_
      rintro e w4 ⟨rfl, rfl⟩
      dsimp only
      have hnum := numL_le ((bl s).drop (n + (2 + m)))
      rw [List.length_drop, bl_length] at hnum
      rw [bl_rest]
      have hN := HN.out
      rw [HM2.out, show n + 2 + m = n + (2 + m) by omega] at hN
      have HN2 := Lib.hid hN
      clear hN HN
      generalize numL ((bl s).drop (n + (2 + m))) = q at *
      have hw7 : wrap64 ((n : Int) + (2 + (m : Int)) + (q : Int)) = ((n + (2 + m) + q : Nat) : Int) := by rw [IntWalk.wrap64_in _ (by omega)]; omega
      go_wp2
      go_ret
      rw [HN2.out]
      refine ⟨?_, rfl⟩
      show Ending.returned (.int .i64 (wrap64 ((n : Int) + (2 + (m : Int)) + (q : Int)))) = _
      rw [hw7]
  · rw [decide_eq_false hc]
    have HM2 : Hid (mid (bl s) n = n) := by show _ = _; rw [mid, if_neg (fun h => hc h.1)]
    clear hc
    go_wp2_with (fail)
    refine (numbered.calls _ w2 (by rw [size_extract _ _ _ (Nat.le_refl _)]; omega)).mono ?_
    rintro e w4 ⟨rfl, rfl⟩
    dsimp only
    have hnum := numL_le ((bl s).drop n)
    rw [List.length_drop, bl_length] at hnum
    rw [bl_rest]
    have hN := HN.out
    rw [HM2.out] at hN
    have HN2 := Lib.hid hN
    clear hN HN
    generalize numL ((bl s).drop n) = q at *
    have hw3 : wrap64 ((n : Int) + q) = ((n + q : Nat) : Int) := by rw [IntWalk.wrap64_in _ (by omega)]; rfl
    go_wp2
    go_ret
    rw [HN2.out]
    exact ⟨rfl, rfl⟩
def nameOK (s : ByteArray) : Bool := decide (s.size ≠ 0 ∧ s.size ≤ 64 ∧ namedL (bl s) = s.size)
theorem empty_iff (s : ByteArray) : (s.toList == []) = decide (s.size = 0) := by
  rw [ByteArray.toList_eq, Bool.eq_iff_iff]
  cases s with | mk d => cases d with | mk l => cases l <;> simp [ByteArray.size]
set_option maxHeartbeats 2000000 in
theorem name.calls (s : ByteArray) (w : World) : Calls Try.prog 25 #[.string s] w fun e w' => e = .returned (.bool (nameOK s)) ∧ w' = w := by
  go_enter Try.func25, Try.ntmps25
  have he := empty_iff s
  by_cases h0 : s.size = 0
  · have h0' : decide (s.size = 0) = true := by simp [h0]
    rw [h0'] at he
    have HV : Hid (nameOK s = false) := by show _ = _; simp [nameOK, h0]
    clear h0 h0'
    go_wp2
    go_ret
    rw [HV.out]
    exact ⟨rfl, rfl⟩
  · have h0' : decide (s.size = 0) = false := by simp [h0]
    rw [h0'] at he
    by_cases h1 : s.size ≤ 64
    · have h1' : (s.size : Int) ≤ 64 := by omega
      go_wp2_with (fail)
      refine (named.calls s w (by omega)).mono ?_
      rintro e w1 ⟨rfl, rfl⟩
      dsimp only
      go_wp2
      go_ret
      refine ⟨congrArg (fun b => Ending.returned (.bool b)) (?_ : _ = nameOK s), rfl⟩
      rw [Bool.eq_iff_iff]
      simp [nameOK, h0, h1]
      omega
    · have h1' : ¬ (s.size : Int) ≤ 64 := by omega
      have HV : Hid (nameOK s = false) := by show _ = _; simp [nameOK, h1]
      go_wp2
      go_ret
      rw [HV.out]
      exact ⟨rfl, rfl⟩

end Go.Proofs.Ytmpkkphohilkoaa.Nm
namespace Go.Proofs.Ytmpkkphohilkoaa.F
open Go.RowKit Go.Proofs.YtmpkkphohilkoaaW.PrintWords Go.Proofs.YtmpkkphohilkoaaW.PrintLast Go.Proofs.YtmpkkphohilkoaaW.PrintMore
attribute [local go_sem] max2_int min2_int max_two min_two max_three min_three max_four min_four   -- for this text's walks alone
set_option linter.unusedVariables false
set_option linter.unusedSimpArgs false

/-! ### dowelref09_Size: function 15 -/
def dowelref09_Size.l0 : Nat → Int → Int → List (S45) → Int → Option (Int)
  | 0, _, _, _, _ => none
  | k + 1, x3, x4, x102000, x102001 => if x4 < (x102000.length : Int) then (if 0 ≤ x4 then (dowelref09_Size.l0 k (wrap64 (x3 + (((rd_T45 x102000 x4).f1).length : Int))) (wrap64 (x4 + 1)) x102000 x102001) else (none)) else (some x3)
def dowelref09_Size.f (k : Nat) (l0_0 : List (S45)) (a0_1 : Int) : Option (Int) := dowelref09_Size.l0 k 0 0 l0_0 a0_1
set_option maxHeartbeats 8000000 in
set_option maxRecDepth 100000 in
theorem dowelref09_Size.calls (k : Nat) (A0_0 : Option Addr) (c0_0 : Nat) (l0_0 : List (S45)) (a0_1 : Int) (r : Int) (w : World) (hr0_0 : Kd.C k45 w A0_0 l0_0.length l0_0) (hc0_0 : l0_0.length ≤ c0_0) (h : dowelref09_Size.f k l0_0 a0_1 = some r) :
    Calls Try.prog 15 #[.agg #[.slice A0_0 l0_0.length c0_0, .int .i64 a0_1]] w fun e w' => e = .returned (.int .i64 r) ∧ Below w.heap.size w w' := by
  have hu24 := Try.underlying24
  have HR0_0 := Aside0.mk hr0_0
  have HC0_0 := Aside0.mk hc0_0
  clear hr0_0 hc0_0
  have HB := Aside0.mk (Below.refl w.heap.size w)
  have H : (dowelref09_Size.l0 k 0 0 l0_0 a0_1) = some r := h
  clear h
  have H' := Aside0.mk H
  clear H
  go_enter Try.func15, Try.ntmps15
  go_wp2_with (first | ((with_reducible refine gate_dst (N := 1) rfl ?_); refine box_event ?hg (N := 1) ?hd (cs := #[.slice A0_0 l0_0.length c0_0, .int .i64 a0_1]) (t := 24) ?hr ?_; (case hd => rfl); (case hg => rfl); (case hr => first | (go_simp; done) | (go_simp; rfl)); intro gb101 hg w2 hbox hb; have n0_ := Aside0.mk (below_step (by repeat (first | (with_reducible first | exact HB.out | apply below_alloc | apply pw_below_drewN | apply below_drew1) | exact HB.out)) hb); have n1_ := Aside0.mk (hbox); have n2_ := Aside0.mk ((by rw [hg]; exact (below_size (by repeat (first | (with_reducible first | exact HB.out | apply below_alloc | apply pw_below_drewN | apply below_drew1) | exact HB.out))) : w.heap.size ≤ gb101)); have n3_ := Aside0.mk ((by rw [hg]; exact (below_size (by repeat (first | (with_reducible first | exact HB.out | apply below_alloc | apply pw_below_drewN | apply below_drew1) | exact HB.out))) : w.heap.size ≤ gb101)); clear HB; have HB := n0_; have BK101 := n1_; have GW101 := n2_; have GE101 := n3_; clear n0_ n1_ n2_ n3_; clear hb hbox hg))
  go_loopg [3, 4] k (fun kq v3 v4 w' => ∃ (x3_1 : Int) (x4_1 : Int), v3 = .int .i64 x3_1 ∧ v4 = .int .i64 x4_1 ∧ Aside0 (dowelref09_Size.l0 kq x3_1 x4_1 l0_0 a0_1 = some r) ∧ Aside0 (kq ≤ k) ∧ Aside0 (w'.heap[gb101]? = some (.cells #[(.slice A0_0 l0_0.length c0_0), .int .i64 a0_1] 24 (0, 0))) ∧ Aside0 (Below w.heap.size w w'))
  case atStart => exact ⟨(0), (0), (by first | rfl | (simp; done) | (simp [*]; done)), (by first | rfl | (simp; done) | (simp [*]; done)), H', ⟨Nat.le_refl _⟩, ⟨by (with_reducible repeat (first | refine blk_drewN ?_ _ | refine blk_drew ?_ | refine blk_alloc ?_ _)); exact BK101.out⟩, ⟨by repeat (first | (with_reducible first | exact HB.out | apply below_alloc | apply pw_below_drewN | apply below_drew1 | refine below_set ?_ GE101.out) | exact HB.out)⟩⟩
  case round =>
    clear H'
    try clear c1
    try clear p2
    obtain ⟨x3_1, x4_1, rfl, rfl, HA, HK1, BK101, HB⟩ := hrel
    cases gk with
    | zero => exact absurd HA.out (by simp [dowelref09_Size.l0])
    | succ k1 =>
      have H := HA.out
      clear HA
      simp only [dowelref09_Size.l0] at H
      by_cases c3 : x4_1 < (l0_0.length : Int)
      · rw [if_pos c3] at H
        have c3b0 : decide (x4_1 < (l0_0.length : Int)) = true := decide_eq_true c3
        clear c3
        by_cases c4 : 0 ≤ x4_1
        · rw [if_pos c4] at H
          have c4b0 : decide (0 ≤ x4_1) = true := decide_eq_true c4
          clear c4
          have H' := Aside0.mk H
          clear H
          have hcz5_0 : wr.cell? ⟨gb101, 0, none⟩ = some (.slice A0_0 l0_0.length c0_0) := (blk_cell BK101.out 0).trans rfl
          have hcz5_1 : wr.cell? ⟨gb101, 1, none⟩ = some (.int .i64 a0_1) := (blk_cell BK101.out 1).trans rfl
          have hfz5_0 := blk_frozen BK101.out 0
          have hfz5_1 := blk_frozen BK101.out 1
          have p102 : 0 ≤ (x4_1 : Int) := of_decide_eq_true (by first | (with_reducible assumption) | assumption)
          have q102 : x4_1 < (l0_0.length : Int) := of_decide_eq_true (by first | (with_reducible assumption) | assumption)
          obtain ⟨ad102, A102_1, c102_1, e102, hx102_0, hx102_1, hl102_1, hi102_1⟩ := at_T45 HR0_0.out x4_1 p102 q102
          cases e102
          replace hx102_0 := (HB.out.cell (World.block_lt_of_cell? w _ hx102_0)).trans hx102_0
          replace hx102_1 := (HB.out.cell (World.block_lt_of_cell? w _ hx102_1)).trans hx102_1
          have HR102_1 := Aside0.mk hi102_1
          have HC102_1 := Aside0.mk hl102_1
          clear hi102_1 hl102_1
          replace p102 := eq_true p102
          replace q102 := eq_true q102
          go_wp2
          go_roundg k1
          case measure => have := HK1.out; omega
          case rel => exact ⟨(wrap64 (x3_1 + (((rd_T45 l0_0 x4_1).f1).length : Int))), (wrap64 (x4_1 + 1)), (by first | rfl | (simp; done) | (simp [*]; done)), (by first | rfl | (simp; done) | (simp [*]; done)), H', ⟨by have := HK1.out; omega⟩, ⟨by (with_reducible repeat (first | refine blk_drewN ?_ _ | refine blk_drew ?_ | refine blk_alloc ?_ _)); exact BK101.out⟩, ⟨by repeat (first | (with_reducible first | exact HB.out | apply below_alloc | apply pw_below_drewN | apply below_drew1 | refine below_set ?_ GE101.out) | exact HB.out)⟩⟩
        · rw [if_neg c4] at H
          exact absurd H (by simp)
      · rw [if_neg c3] at H
        have c3b0 : decide (x4_1 < (l0_0.length : Int)) = false := decide_eq_false c3
        clear c3
        obtain rfl := Option.some.inj H
        have hcz6_0 : wr.cell? ⟨gb101, 0, none⟩ = some (.slice A0_0 l0_0.length c0_0) := (blk_cell BK101.out 0).trans rfl
        have hcz6_1 : wr.cell? ⟨gb101, 1, none⟩ = some (.int .i64 a0_1) := (blk_cell BK101.out 1).trans rfl
        have hfz6_0 := blk_frozen BK101.out 0
        have hfz6_1 := blk_frozen BK101.out 1
        go_wp2
        go_ret
        exact ⟨by first | rfl | (simp [errW_none, errW_some] <;> rfl) | (simp [*, errW_none, errW_some] <;> rfl), by repeat (first | (with_reducible first | exact HB.out | apply below_alloc | apply pw_below_drewN | apply below_drew1 | refine below_set ?_ GE101.out) | exact HB.out)⟩

/-! ### dowellaw14_heavy: function 6 -/
def dowellaw14_heavy.f (k : Nat) (l0_0 : List (S45)) (a0_1 : Int) : Option (Bool) := if (l0_0.length : Int) > 4096 then (some true) else ((dowelref09_Size.f k l0_0 a0_1).bind fun t104 => (some (decide (t104 > 1048576))))
set_option maxHeartbeats 8000000 in
set_option maxRecDepth 100000 in
theorem dowellaw14_heavy.calls (k : Nat) (A0_0 : Option Addr) (c0_0 : Nat) (l0_0 : List (S45)) (a0_1 : Int) (r : Bool) (w : World) (hr0_0 : Kd.C k45 w A0_0 l0_0.length l0_0) (hc0_0 : l0_0.length ≤ c0_0) (h : dowellaw14_heavy.f k l0_0 a0_1 = some r) :
    Calls Try.prog 6 #[.agg #[.slice A0_0 l0_0.length c0_0, .int .i64 a0_1]] w fun e w' => e = .returned (.bool r) ∧ Below w.heap.size w w' := by
  have hu24 := Try.underlying24
  have HR0_0 := Aside0.mk hr0_0
  have HC0_0 := Aside0.mk hc0_0
  clear hr0_0 hc0_0
  have HB := Aside0.mk (Below.refl w.heap.size w)
  have H : (if (l0_0.length : Int) > 4096 then (some true) else ((dowelref09_Size.f k l0_0 a0_1).bind fun t104 => (some (decide (t104 > 1048576))))) = some r := h
  clear h
  by_cases c2 : (l0_0.length : Int) > 4096
  · rw [if_pos c2] at H
    have c2b0 : decide (4096 < (l0_0.length : Int)) = true := decide_eq_true c2
    have c2b1 : decide (4096 < l0_0.length) = true := decide_eq_true (by omega)
    clear c2
    obtain rfl := Option.some.inj H
    go_enter Try.func6, Try.ntmps6
    go_wp2_with (first | ((with_reducible refine gate_dst (N := 1) rfl ?_); refine box_event ?hg (N := 1) ?hd (cs := #[.slice A0_0 l0_0.length c0_0, .int .i64 a0_1]) (t := 24) ?hr ?_; (case hd => rfl); (case hg => rfl); (case hr => first | (go_simp; done) | (go_simp; rfl)); intro gb103 hg w3 hbox hb; have n0_ := Aside0.mk (below_step (by repeat (first | (with_reducible first | exact HB.out | apply below_alloc | apply pw_below_drewN | apply below_drew1) | exact HB.out)) hb); have n1_ := Aside0.mk (hbox); have n2_ := Aside0.mk ((by rw [hg]; exact (below_size (by repeat (first | (with_reducible first | exact HB.out | apply below_alloc | apply pw_below_drewN | apply below_drew1) | exact HB.out))) : w.heap.size ≤ gb103)); have n3_ := Aside0.mk ((by rw [hg]; exact (below_size (by repeat (first | (with_reducible first | exact HB.out | apply below_alloc | apply pw_below_drewN | apply below_drew1) | exact HB.out))) : w.heap.size ≤ gb103)); clear HB; have HB := n0_; have BK103 := n1_; have GW103 := n2_; have GE103 := n3_; clear n0_ n1_ n2_ n3_; clear hb hbox hg; have hcz4_0 : w3.cell? ⟨gb103, 0, none⟩ = some (.slice A0_0 l0_0.length c0_0) := (blk_cell BK103.out 0).trans rfl; have hcz4_1 : w3.cell? ⟨gb103, 1, none⟩ = some (.int .i64 a0_1) := (blk_cell BK103.out 1).trans rfl; have hfz4_0 := blk_frozen BK103.out 0; have hfz4_1 := blk_frozen BK103.out 1))
    go_ret
    exact ⟨by first | rfl | (simp [errW_none, errW_some] <;> rfl) | (simp [*, errW_none, errW_some] <;> rfl), by repeat (first | (with_reducible first | exact HB.out | apply below_alloc | apply pw_below_drewN | apply below_drew1 | refine below_set ?_ GE103.out) | exact HB.out)⟩
  · rw [if_neg c2] at H
    have c2b0 : decide (4096 < (l0_0.length : Int)) = false := decide_eq_false c2
    have c2b1 : decide (4096 < l0_0.length) = false := decide_eq_false (by omega)
    clear c2
    replace H := Option.bind_eq_some_iff.mp H
    obtain ⟨t104, A50, H⟩ := H
    replace H : (some (decide (t104 > 1048576))) = some r := H
    have A5 := Aside0.mk A50
    clear A50
    obtain rfl := Option.some.inj H
    go_enter Try.func6, Try.ntmps6
    go_wp2_with (first | ((with_reducible refine gate_dst (N := 1) rfl ?_); refine box_event ?hg (N := 1) ?hd (cs := #[.slice A0_0 l0_0.length c0_0, .int .i64 a0_1]) (t := 24) ?hr ?_; (case hd => rfl); (case hg => rfl); (case hr => first | (go_simp; done) | (go_simp; rfl)); intro gb103 hg w6 hbox hb; have n0_ := Aside0.mk (below_step (by repeat (first | (with_reducible first | exact HB.out | apply below_alloc | apply pw_below_drewN | apply below_drew1) | exact HB.out)) hb); have n1_ := Aside0.mk (hbox); have n2_ := Aside0.mk ((by rw [hg]; exact (below_size (by repeat (first | (with_reducible first | exact HB.out | apply below_alloc | apply pw_below_drewN | apply below_drew1) | exact HB.out))) : w.heap.size ≤ gb103)); have n3_ := Aside0.mk ((by rw [hg]; exact (below_size (by repeat (first | (with_reducible first | exact HB.out | apply below_alloc | apply pw_below_drewN | apply below_drew1) | exact HB.out))) : w.heap.size ≤ gb103)); clear HB; have HB := n0_; have BK103 := n1_; have GW103 := n2_; have GE103 := n3_; clear n0_ n1_ n2_ n3_; clear hb hbox hg; have hcz7_0 : w6.cell? ⟨gb103, 0, none⟩ = some (.slice A0_0 l0_0.length c0_0) := (blk_cell BK103.out 0).trans rfl; have hcz7_1 : w6.cell? ⟨gb103, 1, none⟩ = some (.int .i64 a0_1) := (blk_cell BK103.out 1).trans rfl; have hfz7_0 := blk_frozen BK103.out 0; have hfz7_1 := blk_frozen BK103.out 1) | (go_at_call 15; (with_reducible refine (dowelref09_Size.calls k _ _ l0_0 a0_1 t104 _ ?side1 ?side2 A5.out).mono ?_); (case side1 => repeat (first | exact (Kd.C_below HR0_0.out HB.out) | (with_reducible refine Kd.C_alloc ?_ _) | (with_reducible refine Kd.C_drewN ?_ _) | (with_reducible refine Kd.C_drew ?_))); (case side2 => exact HC0_0.out); rintro e w8 ⟨rfl, hb⟩; have n0_ := Aside0.mk (blk_below (g := gb103) (o := .cells #[.slice A0_0 l0_0.length c0_0, .int .i64 a0_1] 24 (0, 0)) (by (with_reducible repeat (first | refine blk_drewN ?_ _ | refine blk_drew ?_ | refine blk_alloc ?_ _)); exact BK103.out) hb); have n1_ := Aside0.mk (below_step (by repeat (first | (with_reducible first | exact HB.out | apply below_alloc | apply pw_below_drewN | apply below_drew1 | refine below_set ?_ GE103.out) | exact HB.out)) hb); clear BK103; clear HB; have BK103 := n0_; have HB := n1_; clear n0_ n1_; (try clear hb); (try clear hb2); (try clear hk); (try clear hi)))
    go_ret
    exact ⟨by first | rfl | (simp [errW_none, errW_some] <;> rfl) | (simp [*, errW_none, errW_some] <;> rfl), by repeat (first | (with_reducible first | exact HB.out | apply below_alloc | apply pw_below_drewN | apply below_drew1 | refine below_set ?_ GE103.out) | exact HB.out)⟩

-- NOT PRINTED: function 7 (dowelbook_LendCore)

/-! ### core_Size: function 24 -/
def core_Size.l0 : Nat → Int → List (S45) → Int → Int → Option (Int)
  | 0, _, _, _, _ => none
  | k + 1, x3, x7, x8, x9 => if x9 < x8 then (if 0 ≤ x9 then (if x9 < (x7.length : Int) then (core_Size.l0 k (wrap64 (x3 + (((rd_T45 x7 x9).f1).length : Int))) x7 x8 (wrap64 (x9 + 1))) else (none)) else (none)) else (some x3)
def core_Size.f (k : Nat) (l0_0 : List (S45)) (a0_1 : Int) : Option (Int) := core_Size.l0 k 0 l0_0 (l0_0.length : Int) 0
set_option maxHeartbeats 8000000 in
set_option maxRecDepth 100000 in
theorem core_Size.calls (k : Nat) (A0_0 : Option Addr) (c0_0 : Nat) (l0_0 : List (S45)) (a0_1 : Int) (r : Int) (w : World) (hr0_0 : Kd.C k45 w A0_0 l0_0.length l0_0) (hc0_0 : l0_0.length ≤ c0_0) (h : core_Size.f k l0_0 a0_1 = some r) :
    Calls Try.prog 24 #[.agg #[.slice A0_0 l0_0.length c0_0, .int .i64 a0_1]] w fun e w' => e = .returned (.int .i64 r) ∧ Below w.heap.size w w' := by
  have hu24 := Try.underlying24
  have hu45 := Try.underlying45
  have HR0_0 := Aside0.mk hr0_0
  have HC0_0 := Aside0.mk hc0_0
  clear hr0_0 hc0_0
  have HB := Aside0.mk (Below.refl w.heap.size w)
  have H : (core_Size.l0 k 0 l0_0 (l0_0.length : Int) 0) = some r := h
  clear h
  have H' := Aside0.mk H
  clear H
  go_enter Try.func24, Try.ntmps24
  go_wp2_with (first | ((with_reducible refine gate_dst (N := 1) rfl ?_); refine box_event ?hg (N := 1) ?hd (cs := #[.slice A0_0 l0_0.length c0_0, .int .i64 a0_1]) (t := 24) ?hr ?_; (case hd => rfl); (case hg => rfl); (case hr => first | (go_simp; done) | (go_simp; rfl)); intro gb115 hg w2 hbox hb; have n0_ := Aside0.mk (below_step (by repeat (first | (with_reducible first | exact HB.out | apply below_alloc | apply pw_below_drewN | apply below_drew1) | exact HB.out)) hb); have n1_ := Aside0.mk (hbox); have n2_ := Aside0.mk ((by rw [hg]; exact (below_size (by repeat (first | (with_reducible first | exact HB.out | apply below_alloc | apply pw_below_drewN | apply below_drew1) | exact HB.out))) : w.heap.size ≤ gb115)); have n3_ := Aside0.mk ((by rw [hg]; exact (below_size (by repeat (first | (with_reducible first | exact HB.out | apply below_alloc | apply pw_below_drewN | apply below_drew1) | exact HB.out))) : w.heap.size ≤ gb115)); clear HB; have HB := n0_; have BK115 := n1_; have GW115 := n2_; have GE115 := n3_; clear n0_ n1_ n2_ n3_; clear hb hbox hg; have hcz3_0 : w2.cell? ⟨gb115, 0, none⟩ = some (.slice A0_0 l0_0.length c0_0) := (blk_cell BK115.out 0).trans rfl; have hcz3_1 : w2.cell? ⟨gb115, 1, none⟩ = some (.int .i64 a0_1) := (blk_cell BK115.out 1).trans rfl; have hfz3_0 := blk_frozen BK115.out 0; have hfz3_1 := blk_frozen BK115.out 1))
  go_loopg [3, 9] k (fun kq v3 v9 w' => ∃ (x3_1 : Int) (x9_1 : Int), v3 = .int .i64 x3_1 ∧ v9 = .int .i64 x9_1 ∧ Aside0 (core_Size.l0 kq x3_1 l0_0 (l0_0.length : Int) x9_1 = some r) ∧ Aside0 (kq ≤ k) ∧ Aside0 (w'.heap[gb115]? = some (.cells #[(.slice A0_0 l0_0.length c0_0), .int .i64 a0_1] 24 (0, 0))) ∧ Aside0 (Below w.heap.size w w'))
  case atStart => exact ⟨(0), (0), (by first | rfl | (simp; done) | (simp [*]; done)), (by first | rfl | (simp; done) | (simp [*]; done)), H', ⟨Nat.le_refl _⟩, ⟨by (with_reducible repeat (first | refine blk_drewN ?_ _ | refine blk_drew ?_ | refine blk_alloc ?_ _)); exact BK115.out⟩, ⟨by repeat (first | (with_reducible first | exact HB.out | apply below_alloc | apply pw_below_drewN | apply below_drew1 | refine below_set ?_ GE115.out) | exact HB.out)⟩⟩
  case round =>
    clear H'
    try clear c2
    try clear p2
    try clear hcz3_0
    try clear hcz3_1
    try clear hfz3_0
    try clear hfz3_1
    obtain ⟨x3_1, x9_1, rfl, rfl, HA, HK1, BK115, HB⟩ := hrel
    cases gk with
    | zero => exact absurd HA.out (by simp [core_Size.l0])
    | succ k1 =>
      have H := HA.out
      clear HA
      simp only [core_Size.l0] at H
      by_cases c4 : x9_1 < (l0_0.length : Int)
      · rw [if_pos c4] at H
        have c4b0 : decide (x9_1 < (l0_0.length : Int)) = true := decide_eq_true c4
        clear c4
        by_cases c5 : 0 ≤ x9_1
        · rw [if_pos c5] at H
          have c5b0 : decide (0 ≤ x9_1) = true := decide_eq_true c5
          clear c5
          by_cases c6 : x9_1 < (l0_0.length : Int)
          · rw [if_pos c6] at H
            have c6b0 : decide (x9_1 < (l0_0.length : Int)) = true := decide_eq_true c6
            clear c6
            have H' := Aside0.mk H
            clear H
            have p116 : 0 ≤ (x9_1 : Int) := of_decide_eq_true (by first | (with_reducible assumption) | assumption)
            have q116 : x9_1 < (l0_0.length : Int) := of_decide_eq_true (by first | (with_reducible assumption) | assumption)
            obtain ⟨ad116, A116_1, c116_1, e116, hx116_0, hx116_1, hl116_1, hi116_1⟩ := at_T45 HR0_0.out x9_1 p116 q116
            cases e116
            replace hx116_0 := (HB.out.cell (World.block_lt_of_cell? w _ hx116_0)).trans hx116_0
            replace hx116_1 := (HB.out.cell (World.block_lt_of_cell? w _ hx116_1)).trans hx116_1
            have HR116_1 := Aside0.mk hi116_1
            have HC116_1 := Aside0.mk hl116_1
            clear hi116_1 hl116_1
            replace p116 := eq_true p116
            replace q116 := eq_true q116
            go_wp2_with (first | ((with_reducible refine gate_dst (N := 5) rfl ?_); refine box_event ?hg (N := 5) ?hd (cs := #[.string (⟨#[]⟩ : ByteArray), .slice none 0 0]) (t := 45) ?hr ?_; (case hd => rfl); (case hg => rfl); (case hr => first | (go_simp; done) | (go_simp; rfl)); intro gb117 hg w7 hbox hb; have n0_ := Aside0.mk (blk_below (g := gb115) (o := .cells #[.slice (some ad116) l0_0.length c0_0, .int .i64 a0_1] 24 (0, 0)) (by (with_reducible repeat (first | refine blk_drewN ?_ _ | refine blk_drew ?_ | refine blk_alloc ?_ _)); exact BK115.out) hb); have n1_ := Aside0.mk (below_step (by repeat (first | (with_reducible first | exact HB.out | apply below_alloc | apply pw_below_drewN | apply below_drew1 | refine below_set ?_ GE115.out) | exact HB.out)) hb); have n2_ := Aside0.mk (hbox); have n3_ := Aside0.mk ((by rw [hg]; exact (below_size (by repeat (first | (with_reducible first | exact HB.out | apply below_alloc | apply pw_below_drewN | apply below_drew1 | refine below_set ?_ GE115.out) | exact HB.out))) : w.heap.size ≤ gb117)); have n4_ := Aside0.mk ((by rw [hg]; exact (below_size (by repeat (first | (with_reducible first | exact HB.out | apply below_alloc | apply pw_below_drewN | apply below_drew1 | refine below_set ?_ GE115.out) | exact HB.out))) : w.heap.size ≤ gb117)); have n5_ := Aside0.mk ((by rw [hg]; exact Nat.ne_of_lt (blk_lt (g := gb115) (o := .cells #[.slice (some ad116) l0_0.length c0_0, .int .i64 a0_1] 24 (0, 0)) (by (with_reducible repeat (first | refine blk_drewN ?_ _ | refine blk_drew ?_ | refine blk_alloc ?_ _)); exact BK115.out)) : gb115 ≠ gb117)); have n6_ := Aside0.mk ((by rw [hg]; exact Nat.ne_of_gt (blk_lt (g := gb115) (o := .cells #[.slice (some ad116) l0_0.length c0_0, .int .i64 a0_1] 24 (0, 0)) (by (with_reducible repeat (first | refine blk_drewN ?_ _ | refine blk_drew ?_ | refine blk_alloc ?_ _)); exact BK115.out)) : gb117 ≠ gb115)); clear BK115; clear HB; have BK115 := n0_; have HB := n1_; have BK117 := n2_; have GW117 := n3_; have GE117 := n4_; have NB115_117 := n5_; have NB117_115 := n6_; clear n0_ n1_ n2_ n3_ n4_ n5_ n6_; clear hb hbox hg; have hnb8 := NB117_115.out; have hnc8 := NB115_117.out; have hcz9_0 : w7.cell? ⟨gb117, 0, none⟩ = some (.string (⟨#[]⟩ : ByteArray)) := (blk_cell BK117.out 0).trans rfl; have hcz9_1 : w7.cell? ⟨gb117, 1, none⟩ = some (.slice none 0 0) := (blk_cell BK117.out 1).trans rfl; have hfz9_0 := blk_frozen BK117.out 0; have hfz9_1 := blk_frozen BK117.out 1))
            go_roundg k1
            case measure => have := HK1.out; omega
            case rel => exact ⟨(wrap64 (x3_1 + (((rd_T45 l0_0 x9_1).f1).length : Int))), (wrap64 (x9_1 + 1)), (by first | rfl | (simp; done) | (simp [*]; done)), (by first | rfl | (simp; done) | (simp [*]; done)), H', ⟨by have := HK1.out; omega⟩, ⟨by (with_reducible repeat (first | refine blk_drewN ?_ _ | refine blk_drew ?_ | refine blk_alloc ?_ _)); refine blk_far ?_ NB115_117.out _; (with_reducible repeat (first | refine blk_drewN ?_ _ | refine blk_drew ?_ | refine blk_alloc ?_ _)); refine blk_far ?_ NB115_117.out _; (with_reducible repeat (first | refine blk_drewN ?_ _ | refine blk_drew ?_ | refine blk_alloc ?_ _)); exact BK115.out⟩, ⟨by repeat (first | (with_reducible first | exact HB.out | apply below_alloc | apply pw_below_drewN | apply below_drew1 | refine below_set ?_ GE115.out | refine below_set ?_ GE117.out) | exact HB.out)⟩⟩
          · rw [if_neg c6] at H
            exact absurd H (by simp)
        · rw [if_neg c5] at H
          exact absurd H (by simp)
      · rw [if_neg c4] at H
        have c4b0 : decide (x9_1 < (l0_0.length : Int)) = false := decide_eq_false c4
        clear c4
        obtain rfl := Option.some.inj H
        go_wp2
        go_ret
        exact ⟨by first | rfl | (simp [errW_none, errW_some] <;> rfl) | (simp [*, errW_none, errW_some] <;> rfl), by repeat (first | (with_reducible first | exact HB.out | apply below_alloc | apply pw_below_drewN | apply below_drew1 | refine below_set ?_ GE115.out) | exact HB.out)⟩

/-! ### lexis_letter: function 54 -/

/-! ### lexis_digit: function 55 -/
def lexis_digit.f (a0 : Int) : Option (Bool) := if a0 ≥ 48 then (some (decide (a0 ≤ 57))) else (some false)
set_option maxHeartbeats 8000000 in
set_option maxRecDepth 100000 in
theorem lexis_digit.calls (a0 : Int) (r : Bool) (w : World) (h : lexis_digit.f a0 = some r) :
    Calls Try.prog 55 #[.int .u8 a0] w fun e w' => e = .returned (.bool r) ∧ Drawn0 w w' := by
  have H : (if a0 ≥ 48 then (some (decide (a0 ≤ 57))) else (some false)) = some r := h
  clear h
  by_cases c2 : a0 ≥ 48
  · rw [if_pos c2] at H
    have c2b0 : decide (48 ≤ a0) = true := decide_eq_true c2
    clear c2
    obtain rfl := Option.some.inj H
    go_enter Try.func55, Try.ntmps55
    go_wp2
    go_ret
    exact ⟨by first | rfl | (simp; done) | (simp [*]; done), by repeat (first | exact Drawn0.refl _ | apply Drawn0.step)⟩
  · rw [if_neg c2] at H
    have c2b0 : decide (48 ≤ a0) = false := decide_eq_false c2
    clear c2
    obtain rfl := Option.some.inj H
    go_enter Try.func55, Try.ntmps55
    go_wp2
    go_ret
    exact ⟨by first | rfl | (simp; done) | (simp [*]; done), by repeat (first | exact Drawn0.refl _ | apply Drawn0.step)⟩

/-! ### lexis_own: function 47 -/

/-! ### stringslite_HasPrefix: function 56 -/

/-! ### strings_HasPrefix: function 48 -/

end Go.Proofs.Ytmpkkphohilkoaa.F
namespace Go.Proofs.Ytmpkkphohilkoaa.F
open Go.RowKit Go.Proofs.YtmpkkphohilkoaaW.PrintWords Go.Proofs.YtmpkkphohilkoaaW.PrintLast Go.Proofs.YtmpkkphohilkoaaW.PrintMore
attribute [local go_sem] max2_int min2_int max_two min_two max_three min_three max_four min_four   -- for this text's walks alone
set_option linter.unusedVariables false
set_option linter.unusedSimpArgs false

-- NOT PRINTED: function 16 (core_Check)

/-! ### match_bounded: function 27 -/

-- NOT PRINTED: function 28 (match_laid)

-- NOT PRINTED: function 42 (match_run_begin)

-- NOT PRINTED: function 29 (match_step)

-- NOT PRINTED: function 17 (match_evaluate)

-- NOT PRINTED: function 8 (match_Run)

/-! ### dowelref04_letter: function 61 -/
def dowelref04_letter.f (a0 : Int) : Option (Bool) := if a0 ≥ 97 then (if a0 ≤ 122 then (some true) else (if a0 ≥ 65 then (if a0 ≤ 90 then (some true) else (some (a0 == 95))) else (some (a0 == 95)))) else (if a0 ≥ 65 then (if a0 ≤ 90 then (some true) else (some (a0 == 95))) else (some (a0 == 95)))
set_option maxHeartbeats 8000000 in
set_option maxRecDepth 100000 in
theorem dowelref04_letter.calls (a0 : Int) (r : Bool) (w : World) (h : dowelref04_letter.f a0 = some r) :
    Calls Try.prog 61 #[.int .u8 a0] w fun e w' => e = .returned (.bool r) ∧ Drawn0 w w' := by
  have H : (if a0 ≥ 97 then (if a0 ≤ 122 then (some true) else (if a0 ≥ 65 then (if a0 ≤ 90 then (some true) else (some (a0 == 95))) else (some (a0 == 95)))) else (if a0 ≥ 65 then (if a0 ≤ 90 then (some true) else (some (a0 == 95))) else (some (a0 == 95)))) = some r := h
  clear h
  by_cases c2 : a0 ≥ 97
  · rw [if_pos c2] at H
    have c2b0 : decide (97 ≤ a0) = true := decide_eq_true c2
    clear c2
    by_cases c3 : a0 ≤ 122
    · rw [if_pos c3] at H
      have c3b0 : decide (a0 ≤ 122) = true := decide_eq_true c3
      clear c3
      obtain rfl := Option.some.inj H
      go_enter Try.func61, Try.ntmps61
      go_wp2
      go_ret
      exact ⟨by first | rfl | (simp; done) | (simp [*]; done), by repeat (first | exact Drawn0.refl _ | apply Drawn0.step)⟩
    · rw [if_neg c3] at H
      have c3b0 : decide (a0 ≤ 122) = false := decide_eq_false c3
      clear c3
      by_cases c4 : a0 ≥ 65
      · rw [if_pos c4] at H
        have c4b0 : decide (65 ≤ a0) = true := decide_eq_true c4
        clear c4
        by_cases c5 : a0 ≤ 90
        · rw [if_pos c5] at H
          have c5b0 : decide (a0 ≤ 90) = true := decide_eq_true c5
          clear c5
          obtain rfl := Option.some.inj H
          go_enter Try.func61, Try.ntmps61
          go_wp2
          go_ret
          exact ⟨by first | rfl | (simp; done) | (simp [*]; done), by repeat (first | exact Drawn0.refl _ | apply Drawn0.step)⟩
        · rw [if_neg c5] at H
          have c5b0 : decide (a0 ≤ 90) = false := decide_eq_false c5
          clear c5
          obtain rfl := Option.some.inj H
          go_enter Try.func61, Try.ntmps61
          go_wp2
          go_ret
          exact ⟨by first | rfl | (simp; done) | (simp [*]; done), by repeat (first | exact Drawn0.refl _ | apply Drawn0.step)⟩
      · rw [if_neg c4] at H
        have c4b0 : decide (65 ≤ a0) = false := decide_eq_false c4
        clear c4
        obtain rfl := Option.some.inj H
        go_enter Try.func61, Try.ntmps61
        go_wp2
        go_ret
        exact ⟨by first | rfl | (simp; done) | (simp [*]; done), by repeat (first | exact Drawn0.refl _ | apply Drawn0.step)⟩
  · rw [if_neg c2] at H
    have c2b0 : decide (97 ≤ a0) = false := decide_eq_false c2
    clear c2
    by_cases c6 : a0 ≥ 65
    · rw [if_pos c6] at H
      have c6b0 : decide (65 ≤ a0) = true := decide_eq_true c6
      clear c6
      by_cases c7 : a0 ≤ 90
      · rw [if_pos c7] at H
        have c7b0 : decide (a0 ≤ 90) = true := decide_eq_true c7
        clear c7
        obtain rfl := Option.some.inj H
        go_enter Try.func61, Try.ntmps61
        go_wp2
        go_ret
        exact ⟨by first | rfl | (simp; done) | (simp [*]; done), by repeat (first | exact Drawn0.refl _ | apply Drawn0.step)⟩
      · rw [if_neg c7] at H
        have c7b0 : decide (a0 ≤ 90) = false := decide_eq_false c7
        clear c7
        obtain rfl := Option.some.inj H
        go_enter Try.func61, Try.ntmps61
        go_wp2
        go_ret
        exact ⟨by first | rfl | (simp; done) | (simp [*]; done), by repeat (first | exact Drawn0.refl _ | apply Drawn0.step)⟩
    · rw [if_neg c6] at H
      have c6b0 : decide (65 ≤ a0) = false := decide_eq_false c6
      clear c6
      obtain rfl := Option.some.inj H
      go_enter Try.func61, Try.ntmps61
      go_wp2
      go_ret
      exact ⟨by first | rfl | (simp; done) | (simp [*]; done), by repeat (first | exact Drawn0.refl _ | apply Drawn0.step)⟩

/-! ### dowelref04_digit: function 62 -/
def dowelref04_digit.f (a0 : Int) : Option (Bool) := if a0 ≥ 48 then (some (decide (a0 ≤ 57))) else (some false)
set_option maxHeartbeats 8000000 in
set_option maxRecDepth 100000 in
theorem dowelref04_digit.calls (a0 : Int) (r : Bool) (w : World) (h : dowelref04_digit.f a0 = some r) :
    Calls Try.prog 62 #[.int .u8 a0] w fun e w' => e = .returned (.bool r) ∧ Drawn0 w w' := by
  have H : (if a0 ≥ 48 then (some (decide (a0 ≤ 57))) else (some false)) = some r := h
  clear h
  by_cases c2 : a0 ≥ 48
  · rw [if_pos c2] at H
    have c2b0 : decide (48 ≤ a0) = true := decide_eq_true c2
    clear c2
    obtain rfl := Option.some.inj H
    go_enter Try.func62, Try.ntmps62
    go_wp2
    go_ret
    exact ⟨by first | rfl | (simp; done) | (simp [*]; done), by repeat (first | exact Drawn0.refl _ | apply Drawn0.step)⟩
  · rw [if_neg c2] at H
    have c2b0 : decide (48 ≤ a0) = false := decide_eq_false c2
    clear c2
    obtain rfl := Option.some.inj H
    go_enter Try.func62, Try.ntmps62
    go_wp2
    go_ret
    exact ⟨by first | rfl | (simp; done) | (simp [*]; done), by repeat (first | exact Drawn0.refl _ | apply Drawn0.step)⟩

/-! ### dowelref04_own: function 51 -/
mutual
def dowelref04_own.j0 : Nat → ByteArray → Int → Bool → Option (Int)
  | 0, _, _, _ => none
  | k + 1, x0, x1, x16 => if x16 = true then (some x1) else (dowelref04_own.l0 k x0 x1)
def dowelref04_own.l0 : Nat → ByteArray → Int → Option (Int)
  | 0, _, _ => none
  | k + 1, x0, x5 => if x5 < (x0.size : Int) then (if 0 ≤ x5 then ((dowelref04_letter.f (bt x0 x5)).bind fun t149 => (if t149 = true then (dowelref04_own.l0 k x0 (wrap64 (x5 + 1))) else ((dowelref04_digit.f (bt x0 x5)).bind fun t150 => (if t150 = true then (dowelref04_own.l0 k x0 (wrap64 (x5 + 1))) else (some x5))))) else (none)) else (some x5)
end
def dowelref04_own.f (k : Nat) (a0 : ByteArray) (a1 : Int) : Option (Int) := if a1 ≥ (a0.size : Int) then (dowelref04_own.j0 k a0 a1 true) else (if 0 ≤ a1 then (if a1 < (a0.size : Int) then ((dowelref04_letter.f (bt a0 a1)).bind fun t148 => (dowelref04_own.j0 k a0 a1 (!t148))) else (none)) else (none))
set_option maxHeartbeats 8000000 in
set_option maxRecDepth 100000 in
theorem dowelref04_own.calls (k : Nat) (a0 : ByteArray) (a1 : Int) (r : Int) (w : World) (h : dowelref04_own.f k a0 a1 = some r) :
    Calls Try.prog 51 #[.string a0, .int .i64 a1] w fun e w' => e = .returned (.int .i64 r) ∧ Drawn0 w w' := by
  have H : (if a1 ≥ (a0.size : Int) then (dowelref04_own.j0 k a0 a1 true) else (if 0 ≤ a1 then (if a1 < (a0.size : Int) then ((dowelref04_letter.f (bt a0 a1)).bind fun t148 => (dowelref04_own.j0 k a0 a1 (!t148))) else (none)) else (none))) = some r := h
  clear h
  have HC3 := Aside0.mk H
  clear H
  go_enter Try.func51, Try.ntmps51
  go_upto_region 1 with (fail)
  go_cut [16] (fun v16 wc => ∃ (kq : Nat) (x16_2 : Bool), v16 = .bool x16_2 ∧ Aside0 (dowelref04_own.j0 kq a0 a1 x16_2 = some r) ∧ Aside0 (kq ≤ k) ∧ Drawn0 w wc)
  case first =>
    have H := HC3.out
    clear HC3
    by_cases c4 : a1 ≥ (a0.size : Int)
    · rw [if_pos c4] at H
      have c4b0 : decide ((a0.size : Int) ≤ a1) = true := decide_eq_true c4
      clear c4
      (first | rw [c4b0] | (simp only [i64_w, i32_w]; rw [c4b0]) | skip)
      have H' := Aside0.mk H
      clear H
      go_wp2
      go_meet
      case rel => exact ⟨_, (true), (by first | rfl | (simp; done) | (simp [*]; done)), H', ⟨by first | omega | exact Nat.le_refl _⟩, by repeat (first | exact Drawn0.refl _ | apply Drawn0.step)⟩
    · rw [if_neg c4] at H
      have c4b0 : decide ((a0.size : Int) ≤ a1) = false := decide_eq_false c4
      clear c4
      (first | rw [c4b0] | (simp only [i64_w, i32_w]; rw [c4b0]) | skip)
      by_cases c5 : 0 ≤ a1
      · rw [if_pos c5] at H
        have c5b0 : decide (0 ≤ a1) = true := decide_eq_true c5
        clear c5
        by_cases c6 : a1 < (a0.size : Int)
        · rw [if_pos c6] at H
          have c6b0 : decide (a1 < (a0.size : Int)) = true := decide_eq_true c6
          clear c6
          replace H := Option.bind_eq_some_iff.mp H
          obtain ⟨t148, A80, H⟩ := H
          replace H : (dowelref04_own.j0 k a0 a1 (!t148)) = some r := H
          have A8 := Aside0.mk A80
          clear A80
          have H' := Aside0.mk H
          clear H
          have p7 : 0 ≤ (a1 : Int) := of_decide_eq_true (by first | (with_reducible assumption) | assumption)
          have q7 : a1 < (a0.size : Int) := of_decide_eq_true (by first | (with_reducible assumption) | assumption)
          have hx7 := bt_at a0 a1
          replace p7 := eq_true p7
          replace q7 := eq_true q7
          go_wp2_with (first | (go_at_call 61; (with_reducible refine (dowelref04_letter.calls (bt a0 a1) t148 _ A8.out).mono ?_); rintro e w' ⟨rfl, ⟨nd, rfl⟩⟩))
          go_meet
          case rel => exact ⟨_, (!t148), (by first | rfl | (simp; done) | (simp [*]; done)), H', ⟨by first | omega | exact Nat.le_refl _⟩, by repeat (first | exact Drawn0.refl _ | apply Drawn0.step)⟩
        · rw [if_neg c6] at H
          exact absurd H (by simp)
      · rw [if_neg c5] at H
        exact absurd H (by simp)
  case rest =>
    clear HC3
    try clear p2
    try clear c4
    try clear c4b0
    try clear c5
    try clear c5b0
    try clear c6
    try clear c6b0
    try clear p7
    try clear q7
    try clear hx7
    try clear p7
    try clear q7
    obtain ⟨kq, x16_2, rfl, HA, HJ2, ⟨mc2, rfl⟩⟩ := hcut
    cases kq with
    | zero => exact absurd HA.out (by simp [dowelref04_own.j0])
    | succ kj2 =>
      have H := HA.out
      clear HA
      simp only [dowelref04_own.j0] at H
      by_cases c9 : x16_2 = true
      · subst c9
        have H1 : (some a1) = some r := by rw [if_pos rfl] at H; exact H
        clear H
        have H := H1
        clear H1
        obtain rfl := Option.some.inj H
        go_wp2
        go_ret
        exact ⟨by first | rfl | (simp; done) | (simp [*]; done), by repeat (first | exact Drawn0.refl _ | apply Drawn0.step)⟩
      · replace c9 := Bool.eq_false_iff.mpr c9
        subst c9
        have H1 : (dowelref04_own.l0 kj2 a0 a1) = some r := by rw [if_neg (show ¬ (false = true) by decide)] at H; exact H
        clear H
        have H := H1
        clear H1
        have H' := Aside0.mk H
        clear H
        go_wp2
        go_loopg [5] kj2 (fun kq v5 w' => ∃ (x5_2 : Int), v5 = .int .i64 x5_2 ∧ Aside0 (dowelref04_own.l0 kq a0 x5_2 = some r) ∧ Aside0 (kq ≤ kj2) ∧ Drawn0 w w')
        case atStart => exact ⟨(a1), (by first | rfl | (simp; done) | (simp [*]; done)), H', ⟨Nat.le_refl _⟩, by repeat (first | exact Drawn0.refl _ | apply Drawn0.step)⟩
        case round =>
          clear H'
          try clear c2
          try clear p2
          try clear c4
          try clear c4b0
          try clear c5
          try clear c5b0
          try clear c6
          try clear c6b0
          try clear p7
          try clear q7
          try clear hx7
          try clear c9
          try clear p2
          try clear p7
          try clear q7
          obtain ⟨x5_2, rfl, HA, HK2, ⟨m2, rfl⟩⟩ := hrel
          cases gk with
          | zero => exact absurd HA.out (by simp [dowelref04_own.l0])
          | succ k2 =>
            have H := HA.out
            clear HA
            simp only [dowelref04_own.l0] at H
            by_cases c10 : x5_2 < (a0.size : Int)
            · rw [if_pos c10] at H
              have c10b0 : decide (x5_2 < (a0.size : Int)) = true := decide_eq_true c10
              clear c10
              by_cases c11 : 0 ≤ x5_2
              · rw [if_pos c11] at H
                have c11b0 : decide (0 ≤ x5_2) = true := decide_eq_true c11
                clear c11
                replace H := Option.bind_eq_some_iff.mp H
                obtain ⟨t149, A130, H⟩ := H
                replace H : (if t149 = true then (dowelref04_own.l0 k2 a0 (wrap64 (x5_2 + 1))) else ((dowelref04_digit.f (bt a0 x5_2)).bind fun t150 => (if t150 = true then (dowelref04_own.l0 k2 a0 (wrap64 (x5_2 + 1))) else (some x5_2)))) = some r := H
                have A13 := Aside0.mk A130
                clear A130
                by_cases c14 : t149 = true
                · subst c14
                  have H1 : (dowelref04_own.l0 k2 a0 (wrap64 (x5_2 + 1))) = some r := by rw [if_pos rfl] at H; exact H
                  clear H
                  have H := H1
                  clear H1
                  have H' := Aside0.mk H
                  clear H
                  have p12 : 0 ≤ (x5_2 : Int) := of_decide_eq_true (by first | (with_reducible assumption) | assumption)
                  have q12 : x5_2 < (a0.size : Int) := of_decide_eq_true (by first | (with_reducible assumption) | assumption)
                  have hx12 := bt_at a0 x5_2
                  replace p12 := eq_true p12
                  replace q12 := eq_true q12
                  go_wp2_with (first | (go_at_call 61; (with_reducible refine (dowelref04_letter.calls (bt a0 x5_2) true _ A13.out).mono ?_); rintro e w' ⟨rfl, ⟨nd, rfl⟩⟩))
                  go_roundg k2
                  case measure => have := HJ2.out; have := HK2.out; omega
                  case rel => exact ⟨(wrap64 (x5_2 + 1)), (by first | rfl | (simp; done) | (simp [*]; done)), H', ⟨by have := HJ2.out; have := HK2.out; omega⟩, by repeat (first | exact Drawn0.refl _ | apply Drawn0.step)⟩
                · replace c14 := Bool.eq_false_iff.mpr c14
                  subst c14
                  have H1 : ((dowelref04_digit.f (bt a0 x5_2)).bind fun t150 => (if t150 = true then (dowelref04_own.l0 k2 a0 (wrap64 (x5_2 + 1))) else (some x5_2))) = some r := by rw [if_neg (show ¬ (false = true) by decide)] at H; exact H
                  clear H
                  have H := H1
                  clear H1
                  replace H := Option.bind_eq_some_iff.mp H
                  obtain ⟨t150, A160, H⟩ := H
                  replace H : (if t150 = true then (dowelref04_own.l0 k2 a0 (wrap64 (x5_2 + 1))) else (some x5_2)) = some r := H
                  have A16 := Aside0.mk A160
                  clear A160
                  by_cases c17 : t150 = true
                  · subst c17
                    have H1 : (dowelref04_own.l0 k2 a0 (wrap64 (x5_2 + 1))) = some r := by rw [if_pos rfl] at H; exact H
                    clear H
                    have H := H1
                    clear H1
                    have H' := Aside0.mk H
                    clear H
                    have p12 : 0 ≤ (x5_2 : Int) := of_decide_eq_true (by first | (with_reducible assumption) | assumption)
                    have q12 : x5_2 < (a0.size : Int) := of_decide_eq_true (by first | (with_reducible assumption) | assumption)
                    have hx12 := bt_at a0 x5_2
                    replace p12 := eq_true p12
                    replace q12 := eq_true q12
                    go_wp2_with (first | (go_at_call 61; (with_reducible refine (dowelref04_letter.calls (bt a0 x5_2) false _ A13.out).mono ?_); rintro e w' ⟨rfl, ⟨nd, rfl⟩⟩; have p15 : 0 ≤ (x5_2 : Int) := of_decide_eq_true (by first | (with_reducible assumption) | assumption); have q15 : x5_2 < (a0.size : Int) := of_decide_eq_true (by first | (with_reducible assumption) | assumption); have hx15 := bt_at a0 x5_2; replace p15 := eq_true p15; replace q15 := eq_true q15) | (go_at_call 62; (with_reducible refine (dowelref04_digit.calls (bt a0 x5_2) true _ A16.out).mono ?_); rintro e w' ⟨rfl, ⟨nd, rfl⟩⟩))
                    go_roundg k2
                    case measure => have := HJ2.out; have := HK2.out; omega
                    case rel => exact ⟨(wrap64 (x5_2 + 1)), (by first | rfl | (simp; done) | (simp [*]; done)), H', ⟨by have := HJ2.out; have := HK2.out; omega⟩, by repeat (first | exact Drawn0.refl _ | apply Drawn0.step)⟩
                  · replace c17 := Bool.eq_false_iff.mpr c17
                    subst c17
                    have H1 : (some x5_2) = some r := by rw [if_neg (show ¬ (false = true) by decide)] at H; exact H
                    clear H
                    have H := H1
                    clear H1
                    obtain rfl := Option.some.inj H
                    have p12 : 0 ≤ (x5_2 : Int) := of_decide_eq_true (by first | (with_reducible assumption) | assumption)
                    have q12 : x5_2 < (a0.size : Int) := of_decide_eq_true (by first | (with_reducible assumption) | assumption)
                    have hx12 := bt_at a0 x5_2
                    replace p12 := eq_true p12
                    replace q12 := eq_true q12
                    go_wp2_with (first | (go_at_call 61; (with_reducible refine (dowelref04_letter.calls (bt a0 x5_2) false _ A13.out).mono ?_); rintro e w' ⟨rfl, ⟨nd, rfl⟩⟩; have p15 : 0 ≤ (x5_2 : Int) := of_decide_eq_true (by first | (with_reducible assumption) | assumption); have q15 : x5_2 < (a0.size : Int) := of_decide_eq_true (by first | (with_reducible assumption) | assumption); have hx15 := bt_at a0 x5_2; replace p15 := eq_true p15; replace q15 := eq_true q15) | (go_at_call 62; (with_reducible refine (dowelref04_digit.calls (bt a0 x5_2) false _ A16.out).mono ?_); rintro e w' ⟨rfl, ⟨nd, rfl⟩⟩))
                    go_ret
                    exact ⟨by first | rfl | (simp; done) | (simp [*]; done), by repeat (first | exact Drawn0.refl _ | apply Drawn0.step)⟩
              · rw [if_neg c11] at H
                exact absurd H (by simp)
            · rw [if_neg c10] at H
              have c10b0 : decide (x5_2 < (a0.size : Int)) = false := decide_eq_false c10
              clear c10
              obtain rfl := Option.some.inj H
              go_wp2
              go_ret
              exact ⟨by first | rfl | (simp; done) | (simp [*]; done), by repeat (first | exact Drawn0.refl _ | apply Drawn0.step)⟩

/-! ### dowelref04_digits: function 52 -/
def dowelref04_digits.l0 : Nat → ByteArray → Int → Option (Int)
  | 0, _, _ => none
  | k + 1, x0, x1 => if x1 < (x0.size : Int) then (if 0 ≤ x1 then ((dowelref04_digit.f (bt x0 x1)).bind fun t151 => (if t151 = true then (dowelref04_digits.l0 k x0 (wrap64 (x1 + 1))) else (some x1))) else (none)) else (some x1)
def dowelref04_digits.f (k : Nat) (a0 : ByteArray) (a1 : Int) : Option (Int) := dowelref04_digits.l0 k a0 a1
set_option maxHeartbeats 8000000 in
set_option maxRecDepth 100000 in
theorem dowelref04_digits.calls (k : Nat) (a0 : ByteArray) (a1 : Int) (r : Int) (w : World) (h : dowelref04_digits.f k a0 a1 = some r) :
    Calls Try.prog 52 #[.string a0, .int .i64 a1] w fun e w' => e = .returned (.int .i64 r) ∧ Drawn0 w w' := by
  have H : (dowelref04_digits.l0 k a0 a1) = some r := h
  clear h
  have H' := Aside0.mk H
  clear H
  go_enter Try.func52, Try.ntmps52
  go_wp2
  go_loopg [1] k (fun kq v1 w' => ∃ (x1_1 : Int), v1 = .int .i64 x1_1 ∧ Aside0 (dowelref04_digits.l0 kq a0 x1_1 = some r) ∧ Aside0 (kq ≤ k) ∧ Drawn0 w w')
  case atStart => exact ⟨(a1), (by first | rfl | (simp; done) | (simp [*]; done)), H', ⟨Nat.le_refl _⟩, by repeat (first | exact Drawn0.refl _ | apply Drawn0.step)⟩
  case round =>
    clear H'
    try clear p2
    obtain ⟨x1_1, rfl, HA, HK1, ⟨m1, rfl⟩⟩ := hrel
    cases gk with
    | zero => exact absurd HA.out (by simp [dowelref04_digits.l0])
    | succ k1 =>
      have H := HA.out
      clear HA
      simp only [dowelref04_digits.l0] at H
      by_cases c3 : x1_1 < (a0.size : Int)
      · rw [if_pos c3] at H
        have c3b0 : decide (x1_1 < (a0.size : Int)) = true := decide_eq_true c3
        clear c3
        by_cases c4 : 0 ≤ x1_1
        · rw [if_pos c4] at H
          have c4b0 : decide (0 ≤ x1_1) = true := decide_eq_true c4
          clear c4
          replace H := Option.bind_eq_some_iff.mp H
          obtain ⟨t151, A60, H⟩ := H
          replace H : (if t151 = true then (dowelref04_digits.l0 k1 a0 (wrap64 (x1_1 + 1))) else (some x1_1)) = some r := H
          have A6 := Aside0.mk A60
          clear A60
          by_cases c7 : t151 = true
          · subst c7
            have H1 : (dowelref04_digits.l0 k1 a0 (wrap64 (x1_1 + 1))) = some r := by rw [if_pos rfl] at H; exact H
            clear H
            have H := H1
            clear H1
            have H' := Aside0.mk H
            clear H
            have p5 : 0 ≤ (x1_1 : Int) := of_decide_eq_true (by first | (with_reducible assumption) | assumption)
            have q5 : x1_1 < (a0.size : Int) := of_decide_eq_true (by first | (with_reducible assumption) | assumption)
            have hx5 := bt_at a0 x1_1
            replace p5 := eq_true p5
            replace q5 := eq_true q5
            go_wp2_with (first | (go_at_call 62; (with_reducible refine (dowelref04_digit.calls (bt a0 x1_1) true _ A6.out).mono ?_); rintro e w' ⟨rfl, ⟨nd, rfl⟩⟩))
            go_roundg k1
            case measure => have := HK1.out; omega
            case rel => exact ⟨(wrap64 (x1_1 + 1)), (by first | rfl | (simp; done) | (simp [*]; done)), H', ⟨by have := HK1.out; omega⟩, by repeat (first | exact Drawn0.refl _ | apply Drawn0.step)⟩
          · replace c7 := Bool.eq_false_iff.mpr c7
            subst c7
            have H1 : (some x1_1) = some r := by rw [if_neg (show ¬ (false = true) by decide)] at H; exact H
            clear H
            have H := H1
            clear H1
            obtain rfl := Option.some.inj H
            have p5 : 0 ≤ (x1_1 : Int) := of_decide_eq_true (by first | (with_reducible assumption) | assumption)
            have q5 : x1_1 < (a0.size : Int) := of_decide_eq_true (by first | (with_reducible assumption) | assumption)
            have hx5 := bt_at a0 x1_1
            replace p5 := eq_true p5
            replace q5 := eq_true q5
            go_wp2_with (first | (go_at_call 62; (with_reducible refine (dowelref04_digit.calls (bt a0 x1_1) false _ A6.out).mono ?_); rintro e w' ⟨rfl, ⟨nd, rfl⟩⟩))
            go_ret
            exact ⟨by first | rfl | (simp; done) | (simp [*]; done), by repeat (first | exact Drawn0.refl _ | apply Drawn0.step)⟩
        · rw [if_neg c4] at H
          exact absurd H (by simp)
      · rw [if_neg c3] at H
        have c3b0 : decide (x1_1 < (a0.size : Int)) = false := decide_eq_false c3
        clear c3
        obtain rfl := Option.some.inj H
        go_wp2
        go_ret
        exact ⟨by first | rfl | (simp; done) | (simp [*]; done), by repeat (first | exact Drawn0.refl _ | apply Drawn0.step)⟩

end Go.Proofs.Ytmpkkphohilkoaa.F
