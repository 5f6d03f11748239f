/- Texts joined: DTree, DSteps, DWalk, DTreeW, DKids, DKids2, DKidsW, DKind, DCaps, DForest, DRow. -/
import Derived.Test.YtmikgaphknbcaaaFx0
import Derived.Test.YtmikgaphknbcaaaBEqm
import Derived.Test.YtmikgaphknbcaaaMWeightm
import Derived.Test.YtmikgaphknbcaaaMD
import Derived.WalkSmall
import Derived.Laws.OwnMore
import Derived.Deep.LoopGhost
/- Plain facts on steps that make a tree, by their numbers of kids. -/
namespace Go.Proofs.Ytmikgaphknbcaaa.B
open Go Go.Proofs.Ytmikgaphknbcaaa.F

/-- How many of l's elements c subtrees take. -/
def sk : List Int → Nat → Nat
  | _, 0 => 0
  | [], _ + 1 => 0
  | k :: r, c + 1 => 1 + sk r (c + k.toNat)
/-- Do c subtrees take all of l, and does l end just there? -/
def way : List Int → Nat → Bool
  | [], c => decide (c = 0)
  | k :: r, c => if c = 0 then false else way r (c - 1 + k.toNat)
def isTr (ks : List Int) : Bool := ks.all (fun k => decide (0 ≤ k)) && way ks 1
/-- Where the steps below the i-th end. -/
def en (ks : List Int) (i : Nat) : Nat := i + sk (ks.drop i) 1

theorem sk_zero (l : List Int) : sk l 0 = 0 := by cases l <;> rfl
theorem sk_nil (c : Nat) : sk [] c = 0 := by cases c <;> rfl
theorem sk_le : ∀ (l : List Int) (c : Nat), sk l c ≤ l.length
  | [], c => by rw [sk_nil]; exact Nat.zero_le _
  | k :: r, 0 => by rw [sk_zero]; exact Nat.zero_le _
  | k :: r, c + 1 => by
    have := sk_le r (c + k.toNat)
    rw [sk, List.length_cons]
    omega
theorem sk_add : ∀ (l : List Int) (a b : Nat), sk l (a + b) = sk l a + sk (l.drop (sk l a)) b
  | l, 0, b => by rw [sk_zero, Nat.zero_add, Nat.zero_add, List.drop_zero]
  | [], a + 1, b => by rw [sk_nil, sk_nil, List.drop_nil, sk_nil]
  | k :: r, a + 1, b => by
    rw [show a + 1 + b = (a + b) + 1 by omega, sk, sk, show a + b + k.toNat = (a + k.toNat) + b by omega, sk_add r (a + k.toNat) b, Nat.add_assoc, show 1 + sk r (a + k.toNat) = sk r (a + k.toNat) + 1 by omega, List.drop_succ_cons]
theorem drop_ks {ks : List Int} {i : Nat} (h : i < ks.length) : ks.drop i = ks.getD i 0 :: ks.drop (i + 1) := by
  rw [List.drop_eq_getElem_cons h, List.getD_eq_getElem?_getD, List.getElem?_eq_getElem h]; rfl
theorem en_step {ks : List Int} {i : Nat} (h : i < ks.length) : en ks i = i + 1 + sk (ks.drop (i + 1)) (ks.getD i 0).toNat := by
  rw [en, drop_ks h, sk, Nat.zero_add, Nat.add_assoc]
theorem en_gt {ks : List Int} {i : Nat} (h : i < ks.length) : i < en ks i := by rw [en_step h]; omega
theorem en_le {ks : List Int} {i : Nat} (h : i ≤ ks.length) : en ks i ≤ ks.length := by
  have := sk_le (ks.drop i) 1
  rw [List.length_drop] at this
  rw [en]
  omega

/-- The open steps, below one of which m subtrees are left: each with what is left of its own kids, the open one counted. -/
def OpnU (ks : List Int) (i : Nat) : Nat → List (Nat × Nat) → Prop
  | _, [] => True
  | m, (j, l) :: r => j < i ∧ 1 ≤ l ∧ en ks j = i + sk (ks.drop i) (m + (l - 1)) ∧ OpnU ks i (m + (l - 1)) r
/-- The open steps, the topmost one first. -/
def Opn (ks : List Int) (i : Nat) : List (Nat × Nat) → Prop
  | [] => True
  | (j, l) :: r => j < i ∧ en ks j = i + sk (ks.drop i) l ∧ OpnU ks i l r
def nU : Nat → List (Nat × Nat) → Nat
  | m, [] => m
  | m, (_, l) :: r => nU (m + (l - 1)) r
/-- How many subtrees must still come. -/
def need : List (Nat × Nat) → Nat
  | [] => 0
  | (_, l) :: r => nU l r
theorem nU_add : ∀ (r : List (Nat × Nat)) (m a : Nat), nU (m + a) r = m + nU a r
  | [], _, _ => rfl
  | (_, l) :: r, m, a => by rw [nU, nU, Nat.add_assoc, nU_add]
theorem nU_ge (r : List (Nat × Nat)) (m : Nat) : m ≤ nU m r := by
  have := nU_add r m 0
  rw [Nat.add_zero] at this
  omega
theorem OpnU.next {ks : List Int} {i : Nat} (h : i < ks.length) : ∀ {r : List (Nat × Nat)} {m : Nat}, OpnU ks i (m + 1) r → OpnU ks (i + 1) (m + (ks.getD i 0).toNat) r
  | [], _, _ => trivial
  | (j, l) :: r, m, ⟨h1, h2, h3, h4⟩ => by
    refine ⟨by omega, h2, ?_, ?_⟩
    · rw [h3, drop_ks h, show m + 1 + (l - 1) = (m + (l - 1)) + 1 by omega, sk, show m + (l - 1) + (ks.getD i 0).toNat = m + (ks.getD i 0).toNat + (l - 1) by omega]; omega
    · have := OpnU.next h (m := m + (l - 1)) (by rwa [show m + (l - 1) + 1 = m + 1 + (l - 1) by omega])
      rwa [show m + (ks.getD i 0).toNat + (l - 1) = m + (l - 1) + (ks.getD i 0).toNat by omega]
/-- A step is opened. -/
theorem Opn.push {ks : List Int} {i : Nat} (h : i < ks.length) {st : List (Nat × Nat)} (hs : Opn ks i st) (hp : ∀ p ∈ st, 1 ≤ p.2) : Opn ks (i + 1) ((i, (ks.getD i 0).toNat) :: st) := by
  refine ⟨by omega, by rw [en_step h], ?_⟩
  cases st with
  | nil => trivial
  | cons p r =>
    obtain ⟨j, l⟩ := p
    obtain ⟨h1, h3, h4⟩ := hs
    have h2 : 1 ≤ l := hp (j, l) List.mem_cons_self
    refine ⟨by omega, h2, ?_, ?_⟩
    · obtain ⟨l0, rfl⟩ : ∃ l0, l = l0 + 1 := ⟨l - 1, by omega⟩
      rw [h3, drop_ks h, sk, show l0 + (ks.getD i 0).toNat = (ks.getD i 0).toNat + (l0 + 1 - 1) by omega]
      omega
    · have := OpnU.next h (m := l - 1) (by rwa [show l - 1 + 1 = l by omega])
      rwa [show l - 1 + (ks.getD i 0).toNat = (ks.getD i 0).toNat + (l - 1) by omega] at this
/-- The topmost step has ended. -/
theorem Opn.pop {ks : List Int} {i j j' l' : Nat} {r : List (Nat × Nat)} (hs : Opn ks i ((j, 0) :: (j', l') :: r)) : Opn ks i ((j', l' - 1) :: r) ∧ 1 ≤ l' := by
  obtain ⟨_, _, h1, h2, h3, h4⟩ := hs
  rw [Nat.zero_add] at h3 h4
  exact ⟨⟨h1, h3, h4⟩, h2⟩
theorem Opn.end {ks : List Int} {i j : Nat} {r : List (Nat × Nat)} (hs : Opn ks i ((j, 0) :: r)) : en ks j = i := by
  obtain ⟨_, h, _⟩ := hs
  rw [h, sk_zero, Nat.add_zero]
theorem need_push {ks : List Int} {i : Nat} (h : i < ks.length) {st : List (Nat × Nat)} (hp : ∀ p ∈ st, 1 ≤ p.2) (hne : st ≠ []) :
    way (ks.drop i) (need st) = way (ks.drop (i + 1)) (need ((i, (ks.getD i 0).toNat) :: st)) := by
  cases st with
  | nil => exact absurd rfl hne
  | cons p r =>
    obtain ⟨j, l⟩ := p
    have h2 : 1 ≤ l := hp (j, l) List.mem_cons_self
    have e1 : need ((j, l) :: r) = 1 + nU (l - 1) r := by
      rw [need]
      have := nU_add r 1 (l - 1)
      rwa [show 1 + (l - 1) = l by omega] at this
    have e2 : need ((i, (ks.getD i 0).toNat) :: (j, l) :: r) = (ks.getD i 0).toNat + nU (l - 1) r := by
      rw [need, nU, nU_add]
    rw [drop_ks h, way, if_neg (by rw [e1]; omega), e1, e2]
    congr 1
    omega
theorem need_first {ks : List Int} (h : 0 < ks.length) : way ks 1 = way (ks.drop 1) (need [(0, (ks.getD 0 0).toNat)]) := by
  have := drop_ks h
  rw [List.drop_zero] at this
  rw [need, nU]
  conv => lhs; rw [this]
  rw [way, if_neg (by omega)]
  congr 1
  omega
theorem need_pop {j j' l' : Nat} {r : List (Nat × Nat)} : need ((j, 0) :: (j', l') :: r) = need ((j', l' - 1) :: r) := by
  rw [need, nU, need, Nat.zero_add]
theorem need_pos {st : List (Nat × Nat)} (hp : ∀ p ∈ st, 1 ≤ p.2) (hne : st ≠ []) : 0 < need st := by
  cases st with
  | nil => exact absurd rfl hne
  | cons p r =>
    obtain ⟨j, l⟩ := p
    have h2 : 1 ≤ l := hp (j, l) List.mem_cons_self
    have := nU_ge r l
    rw [need]
    omega
/-- The kids of a step: k of them, the first one at p. -/
def kidsFrom (ks : List Int) : Nat → Nat → List Nat
  | 0, _ => []
  | k + 1, p => p :: kidsFrom ks k (en ks p)
def kidsOf (ks : List Int) (i : Nat) : List Nat := kidsFrom ks (ks.getD i 0).toNat (i + 1)
theorem kidsFrom_succ (ks : List Int) : ∀ (k p : Nat), kidsFrom ks (k + 1) p = kidsFrom ks k p ++ [p + sk (ks.drop p) k]
  | 0, p => by rw [kidsFrom, kidsFrom, kidsFrom, sk_zero]; rfl
  | k + 1, p => by
    rw [kidsFrom, kidsFrom_succ ks k (en ks p), kidsFrom, List.cons_append, show k + 1 = 1 + k by omega, sk_add, en, List.drop_drop, Nat.add_assoc]
/-- Of a tree c subtrees are there, wherever they must be. -/
theorem way_sk : ∀ (l : List Int) (c : Nat), way l c = true → sk l c = l.length
  | [], c, _ => by rw [sk_nil]; rfl
  | k :: r, c, h => by
    rw [way] at h
    split at h
    · exact absurd h (by simp)
    · rename_i hc
      obtain ⟨c', rfl⟩ : ∃ c', c = c' + 1 := ⟨c - 1, by omega⟩
      have := way_sk r (c' + k.toNat) (by simpa using h)
      rw [sk, this, List.length_cons]
      omega
theorem way_drop : ∀ (l : List Int) (c a : Nat), way l c = true → a ≤ c → way (l.drop (sk l a)) (c - a) = true
  | l, c, 0, h, _ => by rw [sk_zero, List.drop_zero]; exact h
  | [], c, a + 1, h, ha => by rw [way] at h; simp at h; omega
  | k :: r, c, a + 1, h, ha => by
    rw [way, if_neg (by omega)] at h
    rw [sk, show 1 + sk r (a + k.toNat) = sk r (a + k.toNat) + 1 by omega, List.drop_succ_cons]
    have := way_drop r (c - 1 + k.toNat) (a + k.toNat) h (by omega)
    rwa [show c - 1 + k.toNat - (a + k.toNat) = c - (a + 1) by omega] at this
/-- Of a tree each subtree that must come lies within it. -/
theorem way_lt {l : List Int} {c a : Nat} (h : way l c = true) (ha : a < c) : sk l a < l.length := by
  have h1 := way_drop l c a h (by omega)
  have h2 := way_sk l c h
  rw [show c = a + (c - a) by omega, sk_add] at h2
  by_cases hl : sk l a < l.length
  · exact hl
  · exfalso
    rw [List.drop_of_length_le (by omega), way] at h1
    simp at h1
    omega
end Go.Proofs.Ytmikgaphknbcaaa.B
/- Steps: dowellaw13's lent, dowelbook.Steps, dowelref13's negative and Broken. -/
namespace Go.Proofs.Ytmikgaphknbcaaa.B
open Go Go.RowKit Go.X Go.Proofs.YtmikgaphknbcaaaW.PrintWords Go.Proofs.Ytmikgaphknbcaaa.F

def holdStep : List Value := [.int .i64 (-77), .int .i64 0, .int .i64 0, .int .i64 0, .int .i64 0, .string ⟨#[]⟩, .int .i64 0]
theorem sz79 : (Try.prog.info? 79).map (·.size) = some 7 := by kernel_rfl
theorem info79 : (Try.prog.info? 79).map (fun i => (i.zero, i.size, i.bytes)) = some (some (.agg #[.int .i64 0, .int .i64 0, .int .i64 0, .int .i64 0, .int .i64 0, .string ⟨#[]⟩, .int .i64 0]), 7, 64) := by kernel_rfl
set_option maxRecDepth 100000 in
set_option maxHeartbeats 1000000 in
theorem lent13.calls (A : Option Addr) (c : Nat) (xs : List S79) (w : World) (hr : Kd.C k79 w A xs.length xs) (hm : xs.length ≤ 1048576) :
    Calls Try.prog 34 #[.slice A xs.length c] w (LentPost k79 79 w xs holdStep) := by
  obtain ⟨cs, hreps, hcells⟩ := X.C_cells hr
  have hlen : cs.length = xs.length * 7 := hreps.1
  have hone := X.Reps_oneCell hreps
  have HR := Lib.hid hreps; clear hreps
  have HL := Lib.hid hlen; clear hlen
  have HC := Lib.hid hcells; clear hcells
  have HO := Lib.hid hone; clear hone
  go_enter Try.func34, Try.ntmps34
  go_wp2_with (first
    | (at_make; refine X.make rfl _ _ 54 rfl 79 _ 7 64 Try.underlying54 info79 .i64 .i64 _ _ (xs.length + 1) rfl rfl (by simp) (by simp) (by omega) (by simp only [maxLen]; omega) ?_; intro w1 hb1 hg1; obtain ⟨z, hz, hz1⟩ := X.Blk.ex hb1 (size_madeCells _ _); clear hb1; have HZ := Lib.hid hz; clear hz; have HB1 := Lib.hid hz1; clear hz1; have HG1 := Lib.hid hg1; clear hg1)
    | (with_reducible refine X.copy rfl (.tmp 8) (.tmp 9) 54 54 rfl 79 7 Try.underlying54 sz79 w.heap.size 0 _ _ _ _ _ rfl rfl _ _ HB1.out cs ?_ ?_ ?_ ?_ ?_)
    | fail)
  · have := HL.out; rw [show xs.length.min (xs.length + 1) = xs.length from Nat.min_eq_left (by omega)]; exact this
  · intro h0
    obtain ⟨ad, e, hc⟩ := HC.out h0
    exact ⟨ad, e, fun j v hj => HG1.out.cell (hc j v hj) (by simp)⟩
  · have := HL.out; have := HZ.out; omega
  · exact HO.out
  intro w2 hb2 hg2
  have HB2 := Lib.hid hb2; clear hb2
  have HG2 := Lib.hid hg2; clear hg2
  go_wp2_with (first
    | (with_reducible refine X.store rfl 79 (.tmp 15) (.tmp 14) rfl w.heap.size (xs.length * 7) (.agg holdStep.toArray) ?_ ?_ _ _ HB2.out ?_ ?_ ?_ ?_)
    | fail)
  · rfl
  · rfl
  · exact sz79
  · have h1 := HL.out; have h2 := HZ.out
    rw [length_splice _ _ _ (by omega), h2]
    show xs.length * 7 + 7 ≤ _
    omega
  · intro u hu
    simp [Value.cells, holdStep] at hu
    rcases hu with rfl | rfl | rfl | rfl <;> rfl
  intro w3 hb3 hg3
  have HB3 := Lib.hid hb3; clear hb3
  have HG3 := Lib.hid hg3; clear hg3
  go_wp2
  go_ret
  have h1 := HL.out; have h2 := HZ.out
  have bel : Below w.heap.size w w3 := (((Below.refl _ _).grown HG1.out (Nat.le_refl _) (by simp)).grown HG2.out HG1.out.size (by simp)).grown HG3.out (Nat.le_trans HG1.out.size HG2.out.size) (by simp)
  refine ⟨w.heap.size, by rfl, ⟨cs, HR.out.imp_ (fun _ _ hk => k79.K_below bel hk), ?_⟩, Nat.le_refl _, bel⟩
  have e : splice (splice z 0 cs) (xs.length * 7) holdStep = cs ++ holdStep := by
    rw [X.splice_begin, ← h1, X.splice_end]
    rw [List.length_drop, h2, h1]
    show _ = 7
    omega
  rw [← e]
  exact HB3.out
def st (xs : List S79) (i : Nat) : S79 := xs.getD i z79
theorem st_mem {xs : List S79} {k : Nat} (h : k < xs.length) : st xs k ∈ xs := by rw [st, List.getD_eq_getElem?_getD, List.getElem?_eq_getElem h]; exact List.getElem_mem h
theorem step_at {w : World} {A : Option Addr} {xs : List S79} (h : Kd.C k79 w A xs.length xs) (k : Nat) (hk : k < xs.length) :
    ∃ ad, A = some ad ∧ w.cell? (ad.add (k * 7)) = some (.int .i64 (st xs k).f0) ∧ w.cell? ⟨(ad.add (k * 7)).block, (ad.add (k * 7)).off + 1, none⟩ = some (.int .i64 (st xs k).f1) ∧
      w.cell? ⟨(ad.add (k * 7)).block, (ad.add (k * 7)).off + 2, none⟩ = some (.int .i64 (st xs k).f2) ∧ w.cell? ⟨(ad.add (k * 7)).block, (ad.add (k * 7)).off + 3, none⟩ = some (.int .i64 (st xs k).f3) ∧
      w.cell? ⟨(ad.add (k * 7)).block, (ad.add (k * 7)).off + 4, none⟩ = some (.int .i64 (st xs k).f4) ∧ w.cell? ⟨(ad.add (k * 7)).block, (ad.add (k * 7)).off + 5, none⟩ = some (.string (st xs k).f5) ∧
      w.cell? ⟨(ad.add (k * 7)).block, (ad.add (k * 7)).off + 6, none⟩ = some (.int .i64 (st xs k).f6) := by
  have := at_T79 h (k : Int) (by omega) (by omega)
  simpa only [Int.toNat_natCast, rd_T79, st] using this
def kk (xs : List S79) : List Int := xs.map (·.f6)
theorem kk_length (xs : List S79) : (kk xs).length = xs.length := by simp [kk]
theorem kk_get (xs : List S79) {i : Nat} (h : i < xs.length) : (kk xs).getD i 0 = (st xs i).f6 := by
  rw [kk, st, List.getD_eq_getElem?_getD, List.getD_eq_getElem?_getD, List.getElem?_map, List.getElem?_eq_getElem h]; rfl
theorem eqA79 (d : Nat) (w : World) (x0 y0 x1 y1 x2 y2 x3 y3 x4 y4 : Int) (x5 y5 : ByteArray) (x6 y6 : Int) :
    (Op.equalIn (d + 2) 79 (.agg #[.int .i64 x0, .int .i64 x1, .int .i64 x2, .int .i64 x3, .int .i64 x4, .string x5, .int .i64 x6]) (.agg #[.int .i64 y0, .int .i64 y1, .int .i64 y2, .int .i64 y3, .int .i64 y4, .string y5, .int .i64 y6])).run Try.prog w = .ok (x0 == y0 && (x1 == y1 && (x2 == y2 && (x3 == y3 && (x4 == y4 && (x5.toList == y5.toList && (x6 == y6))))))) w := by
  refine eqA_of Try.underlying79 (by kernel_rfl) ?_
  refine eqf_cons (by rfl) (by go_simp; rfl) (by go_simp; rfl) (by go_simp) ?_
  refine eqf_cons (by rfl) (by go_simp; rfl) (by go_simp; rfl) (by go_simp) ?_
  refine eqf_cons (by rfl) (by go_simp; rfl) (by go_simp; rfl) (by go_simp) ?_
  refine eqf_cons (by rfl) (by go_simp; rfl) (by go_simp; rfl) (by go_simp) ?_
  refine eqf_cons (by rfl) (by go_simp; rfl) (by go_simp; rfl) (by go_simp) ?_
  refine eqf_cons (by rfl) (by go_simp; rfl) (by go_simp; rfl) (by go_simp) ?_
  exact eqf_last (by rfl) (by go_simp; rfl) (by go_simp; rfl) (by go_simp)
attribute [local go_sem high] eqA79
set_option maxRecDepth 100000 in
set_option maxHeartbeats 4000000 in
theorem Steps.calls (A A1 : Option Addr) (c c1 : Nat) (xs : List S79) (w : World) (hx : Kd.C k79 w A xs.length xs) (hy : Kd.C k79 w A1 xs.length xs) (hn : xs.length ≤ 4000000) :
    Calls Try.prog 38 #[.slice A xs.length c, .slice A1 xs.length c1] w fun e w' => e = .returned (.bool true) ∧ ∃ q, w' = w.drewN q := by
  have HX := Lib.hid hx; clear hx
  have HY := Lib.hid hy; clear hy
  go_enter Try.func38, Try.ntmps38
  go_wp2
  go_loopg [5] xs.length (fun q v wr => ∃ k : Nat, q + k = xs.length ∧ v = .int .i64 k ∧ Hid (∃ q, wr = w.drewN q))
  case atStart => exact ⟨0, by simp, rfl, 0, rfl⟩
  case round =>
    obtain ⟨k, hk, rfl, HW⟩ := hrel
    obtain ⟨qw, hw⟩ := HW.out
    subst hw
    clear HW
    by_cases hlt : k < xs.length
    · obtain ⟨ad, eA, c0, c1, c2, c3, c4, c5, c6⟩ := step_at HX.out k hlt
      obtain ⟨ad', eA', d0, d1, d2, d3, d4, d5, d6⟩ := step_at HY.out k hlt
      subst eA
      subst eA'
      go_wp2
      go_quiet (fail)
      go_wp2
      go_roundg (xs.length - (k + 1))
      case measure => omega
      case rel => exact ⟨k + 1, by omega, by go_num, ⟨_, rfl⟩⟩
    · go_wp2
      go_ret
      exact ⟨rfl, qw, rfl⟩
set_option maxRecDepth 100000 in
set_option maxHeartbeats 4000000 in
theorem negative.calls (A : Option Addr) (c : Nat) (xs : List S79) (w : World) (hx : Kd.C k79 w A xs.length xs) (hn : xs.length ≤ 4000000) :
    Calls Try.prog 69 #[.slice A xs.length c] w fun e w' => (∃ z, e = .returned (.int .i64 z) ∧ (0 ≤ z ↔ (kk xs).all (fun k => decide (0 ≤ k)) = false)) ∧ w' = w := by
  have HX := Lib.hid hx; clear hx
  go_enter Try.func69, Try.ntmps69
  go_wp2
  go_loopg [3] xs.length (fun q v wr => ∃ k : Nat, q + k = xs.length ∧ v = .int .i64 k ∧ Hid (((kk xs).drop k).all (fun k => decide (0 ≤ k)) = (kk xs).all (fun k => decide (0 ≤ k))) ∧ wr = w)
  case atStart => exact ⟨0, by simp, rfl, rfl, rfl⟩
  case round =>
    obtain ⟨k, hk, rfl, HM, rfl⟩ := hrel
    by_cases hlt : k < xs.length
    · obtain ⟨ad, eA, c0, c1, c2, c3, c4, c5, c6⟩ := step_at HX.out k hlt
      subst eA
      clear c0 c1 c2 c3 c4 c5
      have hd := drop_ks (ks := kk xs) (i := k) (by rw [kk_length]; exact hlt)
      rw [kk_get xs hlt] at hd
      have HM2 := HM.out
      rw [hd, List.all_cons] at HM2
      have HM2 := Lib.hid HM2
      clear hd HM
      generalize (st xs k).f6 = y at *
      by_cases hy : y < 0
      · go_wp2
        go_ret
        refine ⟨⟨_, rfl, ?_⟩, rfl⟩
        have := HM2.out
        rw [decide_eq_false (by omega)] at this
        rw [← this]
        simp
      · go_wp2
        go_roundg (xs.length - (k + 1))
        case measure => omega
        case rel => exact ⟨k + 1, by omega, by go_num, by have := HM2.out; rw [decide_eq_true (by omega), Bool.true_and] at this; exact this, rfl⟩
    · go_wp2
      go_ret
      refine ⟨⟨_, rfl, ?_⟩, rfl⟩
      have := HM.out
      rw [List.drop_of_length_le (by rw [kk_length]; omega)] at this
      rw [← this]
      simp
/-- What is known of the number of subtrees that must come, which is reckoned up to len + 1: it is that number, or both are too great. -/
def Near (n i : Nat) (m N : Nat) : Prop := m ≤ n + 1 ∧ (m = N ∨ n + 1 ≤ m + i ∧ n + 1 ≤ N + i)
theorem Near.next {n i m N k : Nat} (h : Near n i m N) (_hm : m ≠ 0) : Near n (i + 1) (min (m - 1 + min k (n + 1)) (n + 1)) (N - 1 + k) := by
  obtain ⟨h1, h2⟩ := h
  refine ⟨by omega, ?_⟩
  omega
set_option maxRecDepth 100000 in
set_option maxHeartbeats 4000000 in
theorem Broken.calls (A : Option Addr) (c : Nat) (xs : List S79) (w : World) (hx : Kd.C k79 w A xs.length xs) (hn : xs.length ≤ 4000000) :
    Calls Try.prog 57 #[.slice A xs.length c] w fun e w' => (∃ z, e = .returned (.int .i64 z) ∧ (0 ≤ z ↔ isTr (kk xs) = false)) ∧ w' = w := by
  have HX := Lib.hid hx; clear hx
  go_enter Try.func57, Try.ntmps57
  go_wp2_with (fail)
  refine (negative.calls A c xs w HX.out hn).mono ?_
  rintro e w1 ⟨⟨z, rfl, hz⟩, rfl⟩
  have HZ := Lib.hid hz; clear hz
  dsimp only
  by_cases h0 : 0 ≤ z
  · have HV : Hid (isTr (kk xs) = false) := by show _ = _; rw [isTr, HZ.out.1 h0]; rfl
    go_wp2
    go_ret
    exact ⟨⟨_, rfl, fun _ => HV.out, fun _ => h0⟩, rfl⟩
  have HP : Hid ((kk xs).all (fun k => decide (0 ≤ k)) = true) := by
    show _ = _
    cases h : (kk xs).all (fun k => decide (0 ≤ k))
    · exact absurd (HZ.out.2 h) h0
    · rfl
  have HV : Hid (isTr (kk xs) = way (kk xs) 1) := by show _ = _; rw [isTr, HP.out, Bool.true_and]
  clear HZ
  go_wp2
  go_loopg [4, 5] xs.length (fun q m v wr => ∃ k m' N : Nat, q + k = xs.length ∧ v = .int .i64 k ∧ m = .int .i64 m' ∧ Hid (Near xs.length k m' N) ∧ Hid (way (kk xs) 1 = way ((kk xs).drop k) N) ∧ wr = w1)
  case atStart => exact ⟨0, 1, 1, by simp, rfl, rfl, ⟨by omega, .inl rfl⟩, rfl, rfl⟩
  case round =>
    obtain ⟨k, m, N, hk, rfl, rfl, HN, HW, rfl⟩ := hrel
    by_cases hlt : k < xs.length
    · obtain ⟨ad, eA, c0, c1, c2, c3, c4, c5, c6⟩ := step_at HX.out k hlt
      subst eA
      clear c0 c1 c2 c3 c4 c5
      have hd := drop_ks (ks := kk xs) (i := k) (by rw [kk_length]; exact hlt)
      rw [kk_get xs hlt] at hd
      have hy0 : 0 ≤ (st xs k).f6 := by
        have := List.all_eq_true.1 HP.out (st xs k).f6 (by rw [kk]; exact List.mem_map.2 ⟨_, st_mem hlt, rfl⟩)
        simpa using this
      have hw2 := HW.out
      rw [hd, way] at hw2
      have HW2 := Lib.hid hw2
      clear hd HW hw2
      generalize (st xs k).f6 = y at *
      obtain ⟨y, rfl⟩ := Int.eq_ofNat_of_zero_le hy0
      clear hy0
      have m1 := HN.out.1
      by_cases hm : m = 0
      · subst hm
        have HF : Hid (isTr (kk xs) = false) := by
          show _ = _
          have h2 := HN.out.2
          rw [HV.out, HW2.out, if_pos (by omega)]
        go_wp2
        go_ret
        exact ⟨⟨_, rfl, fun _ => HF.out, fun _ => by omega⟩, rfl⟩
      · have hm' : ((m : Int) == 0) = false := by rw [beq_eq_false_iff_ne]; omega
        go_wp2
        all_goals
          go_roundg (xs.length - (k + 1))
          case measure => omega
          case rel =>
            refine ⟨k + 1, min (m - 1 + min y (xs.length + 1)) (xs.length + 1), N - 1 + y, by omega, rfl, by congr 1; omega, HN.out.next hm, ?_, rfl⟩
            have h2 := HN.out.2
            have := HW2.out
            rw [if_neg (by omega)] at this
            exact this
    · have hw2 := HW.out
      rw [List.drop_of_length_le (by rw [kk_length]; omega), way, ← HV.out] at hw2
      have HW2 := Lib.hid hw2
      clear hw2 HW
      have h2 := HN.out.2
      by_cases hm : m = 0
      · subst hm
        have HF : Hid (isTr (kk xs) = true) := by show _ = _; rw [HW2.out, decide_eq_true_iff]; omega
        go_wp2
        go_ret
        refine ⟨⟨_, rfl, fun h => absurd h (by decide), fun h => ?_⟩, rfl⟩
        rw [HF.out] at h
        cases h
      · have HF : Hid (isTr (kk xs) = false) := by show _ = _; rw [HW2.out, decide_eq_false_iff_not]; omega
        have hm' : (0 : Int) < (m : Int) := by omega
        clear h2
        go_wp2
        go_ret
        exact ⟨⟨_, rfl, fun _ => HF.out, fun _ => by omega⟩, rfl⟩
end Go.Proofs.Ytmikgaphknbcaaa.B
/- derive.tree: where the steps below each step end. -/
namespace Go.Proofs.Ytmikgaphknbcaaa.B
open Go Go.RowKit Go.X Go.Proofs.YtmikgaphknbcaaaW.PrintWords Go.Proofs.Ytmikgaphknbcaaa.F

/-- The cells of the open steps, the topmost one last. -/
def stk : List (Nat × Nat) → List Value
  | [] => []
  | p :: r => stk r ++ [.int .i64 (p.1 : Int), .int .i64 (p.2 : Int)]
theorem stk_length : ∀ s : List (Nat × Nat), (stk s).length = s.length * 2
  | [] => rfl
  | p :: r => by rw [stk, List.length_append, stk_length r, List.length_cons]; simp; omega
/-- How far it has come: the ends that are known, the open steps. -/
structure TW (w wr : World) (E : Nat) (ks : List Int) (i : Nat) (v : Value) (s : List (Nat × Nat)) (L : List Int) : Prop where
  bel : Below w.heap.size w wr
  hE : w.heap.size ≤ E
  ends : Blk wr E 3 (nums .i64 L)
  len : L.length = ks.length
  own : wr.ownsRow w.heap.size 95 2 v s.length (stk s)
  opn : Opn ks i s
  small : ∀ p ∈ s, p.2 ≤ 9223372036854775807
  known : ∀ j, j < i → j ∉ s.map (·.1) → L.getD j 0 = en ks j
theorem TW.grown {w wr w' : World} {E i : Nat} {ks L : List Int} {v : Value} {s : List (Nat × Nat)} (h : TW w wr E ks i v s L) (g : wr.grownBy w' none) : TW w w' E ks i v s L :=
  ⟨h.bel.grown g h.bel.size (by simp), h.hE, h.ends.grown g (by simp), h.len, h.own.kept g (by cases hv : v.ownBlock <;> simp), h.opn, h.small, h.known⟩
theorem own_ne {w : World} {base n E : Nat} {v : Value} {xs cs : List Value} (h : w.ownsRow base 95 2 v n xs) (hb : Blk w E 3 cs) : v.ownBlock ≠ some E := by
  intro e
  rcases h.2 with ⟨rfl, _⟩ | ⟨g, cap, cur, rfl, _, hg, _⟩
  · simp [Value.ownBlock] at e
  · simp only [Value.ownBlock, Option.some.injEq] at e
    subst e
    have : w.heap[g]? = _ := hb
    rw [this] at hg
    simp at hg
/-- A step has been opened. -/
theorem TW.push {w wr w' wa : World} {E i : Nat} {ks L : List Int} {v v' : Value} {s : List (Nat × Nat)} (h : TW w wr E ks i v s L) (hi : i < ks.length) (hp : ∀ p ∈ s, 1 ≤ p.2) (hsm : (ks.getD i 0).toNat ≤ 9223372036854775807) (hb : Below wr.heap.size wr wa)
    (hown : w'.ownsRow w.heap.size 95 2 v' (s.length + 1) (stk s ++ [.int .i64 (i : Int), .int .i64 ((ks.getD i 0).toNat : Int)])) (ha : Appended wa w' 95 2 v v' s.length) : TW w w' E ks (i + 1) v' ((i, (ks.getD i 0).toNat) :: s) L := by
  have hE1 : E < wr.heap.size := h.ends.lt
  have hEa : Blk wa E 3 (nums .i64 L) := h.ends.below hb hE1
  have hva : wa.ownsRow w.heap.size 95 2 v s.length (stk s) := by
    refine h.own.kept (row := none) ⟨hb.os, hb.tape, hb.output, hb.size, fun k hk _ => hb.block k hk⟩ (by cases hv : v.ownBlock <;> simp)
  refine ⟨h.bel.trans (hb.mono h.bel.size) |>.grown ha.grown (Nat.le_trans h.bel.size hb.size) (fun k hk => (h.own.lt k hk).1), h.hE, hEa.grown ha.grown (fun e => own_ne hva hEa e.symm), h.len, hown, Opn.push hi h.opn hp, fun p hpm => by rcases List.mem_cons.1 hpm with rfl | hpm; (· exact hsm); exact h.small p hpm, fun j hj hn => ?_⟩
  have hji : j ≠ i := fun e => hn (by simp [e])
  exact h.known j (by omega) (fun hx => hn (by simp only [List.map_cons, List.mem_cons]; exact .inr hx))
/-- The topmost step has ended, and none is open. -/
theorem TW.pop0 {w wr : World} {E i j g cap : Nat} {ks L : List Int} (h : TW w wr E ks i (.slice (some ⟨g, 0, none⟩) 1 cap) [(j, 0)] L) (hj : j < L.length) :
    TW w (wr.setCell ⟨E, j, none⟩ (.int .i64 (i : Int))) E ks i (.slice (some ⟨g, 0, none⟩) 0 cap) [] (L.set j i) := by
  have he : en ks j = i := h.opn.end
  refine ⟨h.bel.setCell (by exact h.hE) _, h.hE, ?_, by rw [List.length_set]; exact h.len, ?_, trivial, by simp, fun j0 hj0 _ => ?_⟩
  · have := h.ends.setCell j (.int .i64 (i : Int))
    rwa [show (nums .i64 L).set j (.int .i64 (i : Int)) = nums .i64 (L.set j i) by simp [nums]] at this
  · have hne := own_ne h.own h.ends
    have h2 : (wr.setCell ⟨E, j, none⟩ (.int .i64 (i : Int))).ownsRow w.heap.size 95 2 (.slice (some ⟨g, 0, none⟩) 1 cap) 1 (stk [(j, 0)]) := h.own.kept (grown_setCell wr _ _) (.inr hne)
    exact ownsRow_pop (n := 0) (xs := []) (last := stk [(j, 0)]) rfl h2
  · by_cases hjj : j0 = j
    · subst hjj
      rw [he]
      simp [List.getD_eq_getElem?_getD, hj]
    · have := h.known j0 hj0 (by simpa using hjj)
      rw [← this]
      simp [List.getD_eq_getElem?_getD, Ne.symm hjj]
/-- The topmost step has ended; of the one below one kid less is left. -/
theorem TW.pop1 {w wr : World} {E i j j' l' g cap : Nat} {ks L : List Int} {r : List (Nat × Nat)} (h : TW w wr E ks i (.slice (some ⟨g, 0, none⟩) (r.length + 2) cap) ((j, 0) :: (j', l') :: r) L) (hj : j < L.length) :
    TW w ((wr.setCell ⟨E, j, none⟩ (.int .i64 (i : Int))).setCell ⟨g, r.length * 2 + 1, none⟩ (.int .i64 ((l' - 1 : Nat) : Int))) E ks i (.slice (some ⟨g, 0, none⟩) (r.length + 1) cap) ((j', l' - 1) :: r) (L.set j i) := by
  have he : en ks j = i := h.opn.end
  have hne := own_ne h.own h.ends
  have hg : w.heap.size ≤ g := (h.own.lt g rfl).1
  have hgE : E ≠ g := fun e => hne (by simp [Value.ownBlock, e])
  have h2 : (wr.setCell ⟨E, j, none⟩ (.int .i64 (i : Int))).ownsRow w.heap.size 95 2 (.slice (some ⟨g, 0, none⟩) (r.length + 2) cap) (r.length + 2) (stk ((j, 0) :: (j', l') :: r)) := h.own.kept (grown_setCell wr _ _) (.inr hne)
  have h3 := ownsRow_pop (n := r.length + 1) (xs := stk ((j', l') :: r)) (last := [.int .i64 (j : Int), .int .i64 ((0 : Nat) : Int)]) (by rw [stk_length]; rfl) h2
  refine ⟨(h.bel.setCell (by exact h.hE) _).setCell (by exact hg) _, h.hE, ?_, by rw [List.length_set]; exact h.len, ?_, h.opn.pop.1, fun p hpm => by
    rcases List.mem_cons.1 hpm with rfl | hpm
    · have := h.small (j', l') (by simp)
      show l' - 1 ≤ _
      simp only at this
      omega
    · exact h.small p (by simp [hpm]), fun j0 hj0 hn0 => ?_⟩
  · have := h.ends.setCell j (.int .i64 (i : Int))
    rw [show (nums .i64 L).set j (.int .i64 (i : Int)) = nums .i64 (L.set j i) by simp [nums]] at this
    exact this.grown (grown_setCell _ _ _) (by simpa using hgE)
  · have h4 := (h3.stored (r.length * 2 + 1) (.int .i64 ((l' - 1 : Nat) : Int))).1
    have e : (stk ((j', l') :: r)).set (r.length * 2 + 1) (.int .i64 ((l' - 1 : Nat) : Int)) = stk ((j', l' - 1) :: r) := by
      rw [stk, stk, List.set_append_right _ _ (by rw [stk_length]; omega), stk_length, Nat.add_sub_cancel_left]
      rfl
    rw [e] at h4
    exact h4
  · by_cases hjj : j0 = j
    · subst hjj
      rw [he]
      simp [List.getD_eq_getElem?_getD, hj]
    · have := h.known j0 hj0 (by simp only [List.map_cons, List.mem_cons] at hn0 ⊢; rintro (rfl | h5); · exact hjj rfl
                                 · exact hn0 h5)
      rw [← this]
      simp [List.getD_eq_getElem?_getD, Ne.symm hjj]
def endsOf (ks : List Int) : List Int := (List.range ks.length).map fun i => (en ks i : Int)
theorem TW.all {w wr : World} {E : Nat} {ks L : List Int} {v : Value} (h : TW w wr E ks ks.length v [] L) : L = endsOf ks := by
  apply List.ext_getElem?
  intro j
  by_cases hj : j < ks.length
  · have := h.known j hj (by simp)
    rw [List.getD_eq_getElem?_getD, List.getElem?_eq_getElem (by rw [h.len]; exact hj)] at this
    rw [List.getElem?_eq_getElem (by rw [h.len]; exact hj), endsOf, List.getElem?_map, List.getElem?_range hj]
    simpa using this
  · rw [List.getElem?_eq_none (by rw [h.len]; omega), endsOf, List.getElem?_eq_none (by simp; omega)]
end Go.Proofs.Ytmikgaphknbcaaa.B
/- derive.tree, walked. -/
namespace Go.Proofs.Ytmikgaphknbcaaa.B
open Go Go.RowKit Go.X Go.Proofs.YtmikgaphknbcaaaW.PrintWords Go.Proofs.Ytmikgaphknbcaaa.F

/-- What tree answers: the ends in a row of its own, and -1; or a place. -/
def TreeAns (w : World) (ks : List Int) (e : Ending) (w' : World) : Prop :=
  Below w.heap.size w w' ∧ ((isTr ks = true ∧ ∃ g, e = .returned (.tuple #[.slice (some ⟨g, 0, none⟩) ks.length ks.length, .int .i64 (-1)]) ∧ w.heap.size ≤ g ∧ Blk w' g 3 (nums .i64 (endsOf ks))) ∨
    (isTr ks = false ∧ ∃ z : Int, 0 ≤ z ∧ e = .returned (.tuple #[.slice none 0 0, .int .i64 z])))
theorem own_form {w : World} {base n : Nat} {e : TypeId} {sz : Nat} {v : Value} {xs : List Value} (h : w.ownsRow base e sz v n xs) : ∃ a cap, v = .slice a n cap := by
  rcases h.2 with ⟨rfl, rfl⟩ | ⟨g, cap, cur, rfl, _⟩
  · exact ⟨none, 0, rfl⟩
  · exact ⟨_, _, rfl⟩
theorem own_some {w : World} {base n : Nat} {e : TypeId} {sz : Nat} {v : Value} {xs : List Value} (h : w.ownsRow base e sz v (n + 1) xs) : ∃ g cap, v = .slice (some ⟨g, 0, none⟩) (n + 1) cap := by
  rcases h.2 with ⟨rfl, h0⟩ | ⟨g, cap, cur, rfl, _⟩
  · omega
  · exact ⟨_, _, rfl⟩
theorem own_cap {w : World} {base n : Nat} {e : TypeId} {sz : Nat} {a : Option Addr} {cap : Nat} {xs : List Value} (h : w.ownsRow base e sz (.slice a n cap) n xs) : n ≤ cap := by
  rcases h.2 with ⟨h1, h0⟩ | ⟨g, cap', cur, h1, _, _, h2, _⟩
  · simp at h1; omega
  · simp at h1; omega
theorem info95 : (Try.prog.info? 95).map (fun i => (i.zero, i.size, i.bytes)) = some (some (.agg #[.int .i64 0, .int .i64 0]), 2, 16) := by kernel_rfl
set_option maxRecDepth 100000 in
set_option maxHeartbeats 4000000 in
theorem tree13.calls (A : Option Addr) (c : Nat) (xs : List S79) (w : World) (hr : Kd.C k79 w A xs.length xs) (hn : xs.length ≤ 4000000) (hsm : ∀ x ∈ xs, x.f6 ≤ 9223372036854775807) :
    Calls Try.prog 55 #[.slice A xs.length c] w (TreeAns w (kk xs)) := by
  have HR := Lib.hid hr; clear hr
  have HSM := Lib.hid hsm; clear hsm
  go_enter Try.func55, Try.ntmps55
  go_wp2
  go_loopg [4, 12] xs.length (fun q _ v wr => ∃ k : Nat, q + k = xs.length ∧ v = .int .i64 k ∧ Hid (((kk xs).drop k).all (fun k => decide (0 ≤ k)) = (kk xs).all (fun k => decide (0 ≤ k))) ∧ Hid (Below w.heap.size w wr))
  case atStart => exact ⟨0, by simp, rfl, rfl, Below.refl _ _⟩
  case round =>
    obtain ⟨k, hk, rfl, HM, HW⟩ := hrel
    by_cases hlt : k < xs.length
    · obtain ⟨ad, eA, c0, c1, c2, c3, c4, c5, c6⟩ := step_at (Kd.C_below HR.out HW.out) k hlt
      subst eA
      have hd := drop_ks (ks := kk xs) (i := k) (by rw [kk_length]; exact hlt)
      rw [kk_get xs hlt] at hd
      have hm2 := HM.out
      rw [hd, List.all_cons] at hm2
      have HM2 := Lib.hid hm2
      clear hd HM hm2
      generalize st xs k = y at *
      by_cases hy : y.f6 < 0
      · have HF : Hid (isTr (kk xs) = false) := by
          have := HM2.out
          rw [decide_eq_false (by omega)] at this
          show _ = _
          rw [isTr, ← this]
          rfl
        go_wp2
        go_ret2
        exact ⟨HW.out.alloc HW.out.size _, .inr ⟨HF.out, k, by omega, rfl⟩⟩
      · go_wp2
        go_roundg (xs.length - (k + 1))
        case measure => omega
        case rel => exact ⟨k + 1, by omega, by go_num, by have := HM2.out; rw [decide_eq_true (by omega), Bool.true_and] at this; exact this, HW.out.alloc HW.out.size _⟩
    have HP : Hid ((kk xs).all (fun k => decide (0 ≤ k)) = true) := by
      have := HM.out
      rw [List.drop_of_length_le (by rw [kk_length]; omega)] at this
      exact this.symm
    have HV : Hid (isTr (kk xs) = way (kk xs) 1) := by show _ = _; rw [isTr, HP.out, Bool.true_and]
    clear HM
    go_wp2_with (first
      | (at_make; refine X.make rfl _ _ 36 rfl 3 (.int .i64 0) 1 8 Try.underlying36 info3 .i64 .i64 _ _ xs.length rfl rfl rfl rfl (by omega) (by simp only [maxLen]; omega) ?_; intro w1 hb1 hg1; have HB1 := Lib.hid hb1; clear hb1; have HG1 := Lib.hid hg1; clear hg1)
      | fail)
    have HT : Hid (TW w w1 wr.heap.size (kk xs) 0 (.slice none 0 0) [] (List.replicate xs.length 0)) :=
      ⟨HW.out.grown HG1.out HW.out.size (by simp), HW.out.size, by have := HB1.out; rwa [made_ints] at this, by rw [List.length_replicate, kk_length], World.ownsRow_nil _ _ _ _, trivial, by simp, fun j hj => absurd hj (Nat.not_lt_zero _)⟩
    clear HB1 HG1
    have HW1 := HW
    clear HW
    generalize wr.heap.size = E at *
    clear hk hlt
    go_loopg [7, 8, 27] xs.length (fun q v _ i wi => ∃ (k : Nat) (s : List (Nat × Nat)) (L : List Int), q + k = xs.length ∧ i = .int .i64 k ∧ Hid (TW w wi E (kk xs) k v s L ∧ (∀ p ∈ s, 1 ≤ p.2) ∧ (k = 0 ∧ s = [] ∨ 0 < k ∧ way (kk xs) 1 = way ((kk xs).drop k) (need s)) ∧ s.length ≤ k))
    case atStart => exact ⟨0, [], _, by simp, rfl, HT.out, by simp, .inl ⟨rfl, rfl⟩, by simp⟩
    case round =>
      clear HT
      rename World => wi
      obtain ⟨k, s, L, hk, rfl, HI⟩ := hrel
      by_cases hlt : k < xs.length
      · obtain ⟨ad, eA, c0, c1, c2, c3, c4, c5, c6⟩ := step_at (Kd.C_below HR.out HI.out.1.bel) k hlt
        subst eA
        have hkl : k < (kk xs).length := by rw [kk_length]; exact hlt
        have hg := kk_get xs hlt
        have hy0 : 0 ≤ (st xs k).f6 := by
          have := List.all_eq_true.1 HP.out (st xs k).f6 (by rw [kk]; exact List.mem_map.2 ⟨_, st_mem hlt, rfl⟩)
          simpa using this
        have hys := HSM.out _ (st_mem hlt)
        generalize st xs k = y at *
        have HYS := Lib.hid hys; clear hys
        have HG : Hid ((((kk xs).getD k 0).toNat : Int) = y.f6) := by show _ = _; rw [hg]; omega
        have HKL := Lib.hid hkl; clear hkl hg hy0
        obtain ⟨a, cap, hv⟩ := own_form HI.out.1.own
        subst hv
        have HA : Hid (Below wi.heap.size wi (wi.alloc (.cells #[.int .i64 y.f0, .int .i64 y.f1, .int .i64 y.f2, .int .i64 y.f3, .int .i64 y.f4, .string y.f5, .int .i64 y.f6] 79))) := (Below.refl _ wi).alloc (Nat.le_refl _) _
        by_cases hbad : 0 < k ∧ s = []
        · obtain ⟨hk0, rfl⟩ := hbad
          have hk0' : (0 : Int) < (k : Int) := by omega
          have HF : Hid (isTr (kk xs) = false) := by
            show _ = _
            rcases HI.out.2.2.1 with ⟨h, _⟩ | ⟨_, h⟩
            · omega
            · rw [HV.out, h, drop_ks HKL.out]
              rfl
          go_wp2
          go_ret2
          exact ⟨HI.out.1.bel.trans (HA.out.mono HI.out.1.bel.size), .inr ⟨HF.out, k, by omega, rfl⟩⟩
        have hcase : (¬ (0 : Int) < (k : Int)) ∨ (((0 : Int) < (k : Int)) ∧ ((s.length : Int) == 0) = false) := by
          by_cases h : k = 0
          · exact .inl (by omega)
          · refine .inr ⟨by omega, ?_⟩
            rw [beq_eq_false_iff_ne]
            intro h2
            exact hbad ⟨by omega, List.eq_nil_of_length_eq_zero (by omega)⟩
        clear hbad
        have HN : Hid (wi.heap.size + 1 = (wi.alloc (.cells #[.int .i64 y.f0, .int .i64 y.f1, .int .i64 y.f2, .int .i64 y.f3, .int .i64 y.f4, .string y.f5, .int .i64 y.f6] 79)).heap.size) := by show _ = _; simp
        have HO : Hid ((wi.alloc (.cells #[.int .i64 y.f0, .int .i64 y.f1, .int .i64 y.f2, .int .i64 y.f3, .int .i64 y.f4, .string y.f5, .int .i64 y.f6] 79)).ownsRow w.heap.size 95 2 (.slice a s.length cap) s.length (stk s)) := HI.out.1.own.alloc _
        rcases hcase with h1 | ⟨h1, h2⟩
        all_goals
          go_wp2_with (first
            | (at_builtin; refine X.append1 rfl (.tmp 40) (.tmp 45) 93 95 rfl w.heap.size _ 2 16 Try.underlying93 info95 rfl _ s.length (stk s) rfl HO.out [.int .i64 (k : Int), .int .i64 y.f6] (congrArg (fun n => Value.slice (some ⟨n, 0, none⟩) 1 1) HN.out) rfl ?_ ?_ ?_ ?_ ?_)
            | fail)
          · first
              | exact ⟨rfl, rfl⟩
              | (intro u hu; simp at hu; rcases hu with rfl | rfl <;> rfl)
          · have := HI.out.2.2.2; simp only [maxLen]; omega
          · have := HI.out.2.2.2; omega
          · have := HI.out.1.bel.size
            first
              | omega
              | (rw [← HN.out]; omega)
          · intro v' w3 hown hap
            have HT3 : Hid (TW w w3 E (kk xs) (k + 1) v' ((k, ((kk xs).getD k 0).toNat) :: s) L ∧ (∀ p ∈ ((k, ((kk xs).getD k 0).toNat) :: s).tail, 1 ≤ p.2) ∧ way (kk xs) 1 = way ((kk xs).drop (k + 1)) (need ((k, ((kk xs).getD k 0).toNat) :: s)) ∧ s.length + 1 ≤ k + 1) := by
              refine ⟨HI.out.1.push HKL.out HI.out.2.1 (by have := HG.out; have := HYS.out; omega) (HA.out.alloc HA.out.size _) (by rw [HG.out]; exact hown) hap, HI.out.2.1, ?_, by have := HI.out.2.2.2; omega⟩
              rcases HI.out.2.2.1 with ⟨rfl, rfl⟩ | ⟨_, h⟩
              · exact need_first HKL.out
              · by_cases hs : s = []
                · subst hs
                  exfalso
                  first
                    | omega
                    | (simp at h2)
                · rw [h, need_push HKL.out HI.out.2.1 hs]
            clear hown hap HN HO HA HI HG
            go_wp2
            go_loopg [7] (s.length + 1) (fun q v wi' => ∃ (s' : List (Nat × Nat)) (L' : List Int), q = s'.length ∧ Hid (TW w wi' E (kk xs) (k + 1) v s' L' ∧ (∀ p ∈ s'.tail, 1 ≤ p.2) ∧ way (kk xs) 1 = way ((kk xs).drop (k + 1)) (need s') ∧ s'.length ≤ k + 1))
            case atStart => exact ⟨_, L, rfl, HT3⟩
            case round =>
              clear HT3
              rename World => wz
              obtain ⟨s', L', rfl, HZ⟩ := hrel
              have hkw : wrap64 ((k : Int) + 1) = ((k + 1 : Nat) : Int) := by rw [IntWalk.wrap64_in _ (by omega)]; rfl
              match s', HZ with
              | [], HZ =>
                obtain ⟨a2, cap2, rfl⟩ := own_form HZ.out.1.own
                go_wp2
                go_roundg (xs.length - (k + 1))
                case measure => omega
                case rel => exact ⟨k + 1, [], L', by omega, by first | rfl | rw [hkw], HZ.out.1, by simp, .inr ⟨by omega, HZ.out.2.2.1⟩, by simp⟩
              | (j, l) :: r, HZ =>
                obtain ⟨g, cap2, rfl⟩ := own_some HZ.out.1.own
                have d0 : wz.cell? ⟨g, r.length * 2, none⟩ = some (.int .i64 (j : Int)) := by
                  have := HZ.out.1.own.cellAt (r.length * 2) (by show _ < (r.length + 1) * 2; omega)
                  rw [this, stk, List.getElem?_append_right (by rw [stk_length]; omega), stk_length, Nat.sub_self]; rfl
                have d1 : wz.cell? ⟨g, r.length * 2 + 1, none⟩ = some (.int .i64 (l : Int)) := by
                  have := HZ.out.1.own.cellAt (r.length * 2 + 1) (by show _ < (r.length + 1) * 2; omega)
                  rw [this, stk, List.getElem?_append_right (by rw [stk_length]; omega), stk_length, Nat.add_sub_cancel_left]; rfl
                have hrl : r.length ≤ k := by have := HZ.out.2.2.2; simp only [List.length_cons] at this; omega
                by_cases hl : l = 0
                · subst hl
                  have hE : j < L'.length := by have := HZ.out.1.opn.1; rw [HZ.out.1.len, kk_length]; omega
                  have e0 : wz.cell? ⟨E, j, none⟩ = some (.int .i64 (L'.getD j 0)) := by
                    rw [HZ.out.1.ends.cell, nums, List.getElem?_map, List.getD_eq_getElem?_getD, List.getElem?_eq_getElem hE]; rfl
                  have f0 : wz.frozen? ⟨E, j, none⟩ = false := HZ.out.1.ends.frozen j
                  have hj1 : (j : Int) < (xs.length : Int) := by have := HZ.out.1.opn.1; omega
                  have hj0 : (0 : Int) ≤ (j : Int) := by omega
                  have hEg : ¬ E = g := fun e => own_ne HZ.out.1.own HZ.out.1.ends (by simp [Value.ownBlock, e])
                  have hgE : ¬ g = E := fun e => hEg e.symm
                  match r, HZ, d0, d1, hrl with
                  | [], HZ, d0, d1, hrl =>
                    have HZ2 : Hid (TW w (wz.setCell ⟨E, j, none⟩ (.int .i64 ((k + 1 : Nat) : Int))) E (kk xs) (k + 1) (.slice (some ⟨g, 0, none⟩) 0 cap2) [] (L'.set j ((k + 1 : Nat) : Int)) ∧ way (kk xs) 1 = way ((kk xs).drop (k + 1)) (need [])) :=
                      ⟨HZ.out.1.pop0 hE, by rw [HZ.out.2.2.1]; rfl⟩
                    have d0' : wz.cell? ⟨g, 0, none⟩ = some (.int .i64 (j : Int)) := d0
                    have d1' : wz.cell? ⟨g, 1, none⟩ = some (.int .i64 ((0 : Nat) : Int)) := d1
                    clear HZ d0 d1
                    go_wp2
                    go_roundg 0
                    case measure => exact Nat.zero_lt_succ _
                    case rel => exact ⟨[], _, rfl, HZ2.out.1, by simp, HZ2.out.2, by simp⟩
                  | (j', l') :: r', HZ, d0, d1, hrl =>
                    have hl1 : 1 ≤ l' := HZ.out.1.opn.pop.2
                    have hlm : l' ≤ 9223372036854775807 := HZ.out.1.small (j', l') (by simp)
                    have hlw : wrap64 ((l' : Int) - 1) = ((l' - 1 : Nat) : Int) := by rw [IntWalk.wrap64_in _ (by omega)]; omega
                    have d2 : wz.cell? ⟨g, r'.length * 2 + 1, none⟩ = some (.int .i64 (l' : Int)) := by
                      have := HZ.out.1.own.cellAt (r'.length * 2 + 1) (by show _ < (r'.length + 1 + 1) * 2; omega)
                      rw [this, stk, List.getElem?_append_left (by rw [stk_length, List.length_cons]; omega), stk, List.getElem?_append_right (by rw [stk_length]; omega), stk_length, Nat.add_sub_cancel_left]; rfl
                    have f2 : wz.frozen? ⟨g, r'.length * 2 + 1, none⟩ = false := HZ.out.1.own.frozenAt _
                    have hcap : r'.length + 1 + 1 ≤ cap2 := own_cap HZ.out.1.own
                    have hcap' : (r'.length : Int) + 1 ≤ (cap2 : Int) := by omega
                    have HZ2 : Hid (TW w ((wz.setCell ⟨E, j, none⟩ (.int .i64 ((k + 1 : Nat) : Int))).setCell ⟨g, r'.length * 2 + 1, none⟩ (.int .i64 ((l' : Int) - 1))) E (kk xs) (k + 1) (.slice (some ⟨g, 0, none⟩) (r'.length + 1) cap2) ((j', l' - 1) :: r') (L'.set j ((k + 1 : Nat) : Int)) ∧ (∀ p ∈ r', 1 ≤ p.2) ∧ way (kk xs) 1 = way ((kk xs).drop (k + 1)) (need ((j', l' - 1) :: r')) ∧ r'.length + 1 ≤ k + 1) := by
                      refine ⟨by rw [show (l' : Int) - 1 = ((l' - 1 : Nat) : Int) by omega]; exact HZ.out.1.pop1 hE, fun p hp => HZ.out.2.1 p (by simp [hp]), by rw [HZ.out.2.2.1, need_pop], ?_⟩
                      have := HZ.out.2.2.2
                      simp only [List.length_cons] at this
                      omega
                    have d0' : wz.cell? ⟨g, (r'.length + 1) * 2, none⟩ = some (.int .i64 (j : Int)) := d0
                    have d1' : wz.cell? ⟨g, (r'.length + 1) * 2 + 1, none⟩ = some (.int .i64 ((0 : Nat) : Int)) := d1
                    have hrl2 : r'.length ≤ 4000000 := by simp only [List.length_cons] at hrl; omega
                    clear HZ d0 d1 hrl
                    go_wp2
                    go_roundg (r'.length + 1)
                    case measure => exact Nat.lt_succ_self _
                    case rel => exact ⟨(j', l' - 1) :: r', _, rfl, HZ2.out.1, HZ2.out.2.1, HZ2.out.2.2.1, HZ2.out.2.2.2⟩
                · have hl' : ((l : Int) == 0) = false := by rw [beq_eq_false_iff_ne]; omega
                  go_wp2
                  go_roundg (xs.length - (k + 1))
                  case measure => omega
                  case rel => exact ⟨k + 1, (j, l) :: r, L', by omega, by first | rfl | rw [hkw], HZ.out.1, fun p hp => by
                    rcases List.mem_cons.1 hp with rfl | hp
                    · show 1 ≤ l
                      omega
                    · exact HZ.out.2.1 p hp, .inr ⟨by omega, HZ.out.2.2.1⟩, HZ.out.2.2.2⟩
      · obtain rfl : k = xs.length := by omega
        have hw2 := HI.out.2.2.1
        by_cases hs : s = []
        · subst hs
          obtain ⟨a2, cap2, rfl⟩ := own_form HI.out.1.own
          by_cases h0 : xs.length = 0
          · have h0' : ((xs.length : Int) == 0) = true := by simp [h0]
            have HF : Hid (isTr (kk xs) = false) := by
              have e : kk xs = [] := List.eq_nil_of_length_eq_zero (by rw [kk_length]; exact h0)
              show _ = _
              rw [HV.out, e]
              rfl
            clear hlt hk
            have HLE : Hid (Below w.heap.size w wi) := HI.out.1.bel
            go_wp2
            go_ret2
            exact ⟨HLE.out, .inr ⟨HF.out, 0, by omega, rfl⟩⟩
          · have h0' : ((xs.length : Int) == 0) = false := by rw [beq_eq_false_iff_ne]; omega
            have HF : Hid (isTr (kk xs) = true ∧ L = endsOf (kk xs) ∧ Blk wi E 3 (nums .i64 L) ∧ Below w.heap.size w wi ∧ w.heap.size ≤ E) := by
              refine ⟨?_, ?_, HI.out.1.ends, HI.out.1.bel, HI.out.1.hE⟩
              · rcases hw2 with ⟨h, _⟩ | ⟨_, h⟩
                · omega
                · rw [HV.out, h, List.drop_of_length_le (by rw [kk_length]; omega)]
                  rfl
              · have h3 := HI.out.1
                rw [← kk_length xs] at h3
                exact h3.all
            clear hw2
            go_wp2
            go_ret2
            refine ⟨HF.out.2.2.2.1, .inl ⟨HF.out.1, E, ?_, HF.out.2.2.2.2, by rw [← HF.out.2.1]; exact HF.out.2.2.1⟩⟩
            rw [kk_length]
            rfl
        · have hsl : 0 < s.length := List.length_pos_iff.2 hs
          obtain ⟨a2, cap2, rfl⟩ := own_form HI.out.1.own
          have hsl' : (0 : Int) < (s.length : Int) := by omega
          have HF : Hid (isTr (kk xs) = false) := by
            show _ = _
            rcases hw2 with ⟨_, h⟩ | ⟨_, h⟩
            · exact absurd h hs
            · have := need_pos HI.out.2.1 hs
              rw [HV.out, h, List.drop_of_length_le (by rw [kk_length]; omega), way, decide_eq_false_iff_not]
              omega
          clear hw2
          have HLE : Hid (Below w.heap.size w wi) := HI.out.1.bel
          go_wp2
          go_ret2
          exact ⟨HLE.out, .inr ⟨HF.out, xs.length, by omega, rfl⟩⟩
end Go.Proofs.Ytmikgaphknbcaaa.B
/- dowelref13.Kids: the kids of each step, in rows of their own: the invariant. -/
namespace Go.Proofs.Ytmikgaphknbcaaa.B
open Go Go.RowKit Go.X Go.Proofs.YtmikgaphknbcaaaW.PrintWords Go.Proofs.Ytmikgaphknbcaaa.F

/-- Wherever one stands in a tree, subtrees must come that fill the rest. -/
theorem way_at {ks : List Int} (h : way ks 1 = true) : ∀ j, j ≤ ks.length → ∃ c, way (ks.drop j) c = true
  | 0, _ => ⟨1, by rw [List.drop_zero]; exact h⟩
  | j + 1, hj => by
    obtain ⟨c, hc⟩ := way_at h j (by omega)
    rw [drop_ks (by omega), way] at hc
    split at hc
    · cases hc
    · exact ⟨_, hc⟩
/-- .. behind a step its own kids at least. -/
theorem way_kids {ks : List Int} (h : way ks 1 = true) {j : Nat} (hj : j < ks.length) : ∃ c, (ks.getD j 0).toNat ≤ c ∧ way (ks.drop (j + 1)) c = true := by
  obtain ⟨c, hc⟩ := way_at h j (by omega)
  rw [drop_ks hj, way] at hc
  split at hc
  · cases hc
  · exact ⟨_, by omega, hc⟩
/-- Where the kid behind the first d ones of j stands. -/
def nextKid (ks : List Int) (j d : Nat) : Nat := j + 1 + sk (ks.drop (j + 1)) d
theorem nextKid_all {ks : List Int} {j : Nat} (hj : j < ks.length) : nextKid ks j (ks.getD j 0).toNat = en ks j := by rw [nextKid, en_step hj]
theorem nextKid_lt {ks : List Int} (h : way ks 1 = true) {j d : Nat} (hj : j < ks.length) (hd : d < (ks.getD j 0).toNat) : nextKid ks j d < ks.length := by
  obtain ⟨c, hc, hw⟩ := way_kids h hj
  have := way_lt hw (a := d) (by omega)
  rw [List.length_drop] at this
  rw [nextKid]
  omega
/-- The end of the d-th kid is the place of the next one. -/
theorem nextKid_succ (ks : List Int) (j d : Nat) : en ks (nextKid ks j d) = nextKid ks j (d + 1) := by
  rw [nextKid, nextKid, sk_add, en, List.drop_drop]
  omega
theorem kids_snoc (ks : List Int) (j d : Nat) : kidsFrom ks (d + 1) (j + 1) = kidsFrom ks d (j + 1) ++ [nextKid ks j d] := by rw [kidsFrom_succ, nextKid]
theorem kidsFrom_length (ks : List Int) : ∀ k p, (kidsFrom ks k p).length = k
  | 0, _ => rfl
  | k + 1, p => by rw [kidsFrom, List.length_cons, kidsFrom_length]
/-- The open steps, the topmost one first: the one above (at u) is the last kid so far of the one below it. -/
def Way2 (ks : List Int) (D : Nat → Nat) : Nat → List Nat → Prop
  | _, [] => True
  | u, j :: r => j < u ∧ 1 ≤ D j ∧ D j ≤ (ks.getD j 0).toNat ∧ u = nextKid ks j (D j - 1) ∧ Way2 ks D j r
def Way1 (ks : List Int) (D : Nat → Nat) (i : Nat) : List Nat → Prop
  | [] => True
  | j :: r => j < i ∧ D j ≤ (ks.getD j 0).toNat ∧ i = nextKid ks j (D j) ∧ Way2 ks D j r
theorem Way2.lt {ks : List Int} {D : Nat → Nat} : ∀ {u : Nat} {r : List Nat}, Way2 ks D u r → ∀ j ∈ r, j < u
  | _, [], _, _, hj => by cases hj
  | u, j :: r, h, x, hx => by
    rcases List.mem_cons.1 hx with rfl | hx
    · exact h.1
    · have := Way2.lt h.2.2.2.2 x hx
      have := h.1
      omega
theorem Way2.congr {ks : List Int} {D D' : Nat → Nat} : ∀ {u : Nat} {r : List Nat}, Way2 ks D u r → (∀ j ∈ r, D' j = D j) → Way2 ks D' u r
  | _, [], _, _ => trivial
  | u, j :: r, h, hd => by
    obtain ⟨h1, h2, h3, h4, h5⟩ := h
    rw [← hd j (by simp)] at h2 h3 h4
    exact ⟨h1, h2, h3, h4, h5.congr fun x hx => hd x (by simp [hx])⟩
/-- The topmost step has all its kids. -/
theorem Way1.pop {ks : List Int} {D : Nat → Nat} {i j : Nat} {r : List Nat} (hi : i ≤ ks.length) (h : Way1 ks D i (j :: r)) (hd : D j = (ks.getD j 0).toNat) : Way1 ks D i r ∧ en ks j = i := by
  obtain ⟨h1, _, h3, h4⟩ := h
  rw [hd, nextKid_all (by omega)] at h3
  refine ⟨?_, h3.symm⟩
  cases r with
  | nil => trivial
  | cons j' r =>
    obtain ⟨a1, a2, a3, a4, a5⟩ := h4
    refine ⟨by omega, a3, ?_, a5⟩
    have := nextKid_succ ks j' (D j' - 1)
    rw [← a4, ← h3, show D j' - 1 + 1 = D j' by omega] at this
    exact this
/-- The topmost step gets a kid, at i, which is opened. -/
theorem Way1.push {ks : List Int} {D D' : Nat → Nat} {i j : Nat} {r : List Nat} (h : Way1 ks D i (j :: r)) (hd : D j < (ks.getD j 0).toNat) (h0 : D' i = 0) (h1 : D' j = D j + 1) (h2 : ∀ x ∈ r, D' x = D x) : Way1 ks D' (i + 1) (i :: j :: r) := by
  obtain ⟨a1, a2, a3, a4⟩ := h
  refine ⟨by omega, by omega, by rw [h0, nextKid, sk_zero], a1, by omega, by omega, by rw [h1, Nat.add_sub_cancel]; exact a3, a4.congr h2⟩
theorem Way1.first {ks : List Int} {D : Nat → Nat} (h0 : D 0 = 0) : Way1 ks D 1 [0] := ⟨by omega, by omega, by rw [h0, nextKid, sk_zero], trivial⟩
/-- At the end of a tree all that is open has all its kids. -/
theorem Way1.done {ks : List Int} (h : way ks 1 = true) {D : Nat → Nat} : ∀ {s : List Nat}, Way1 ks D ks.length s → ∀ j ∈ s, D j = (ks.getD j 0).toNat
  | [], _, _, hj => by cases hj
  | j :: r, hs, x, hx => by
    have hj : D j = (ks.getD j 0).toNat := by
      have h1 := hs.2.1
      by_cases he : D j = (ks.getD j 0).toNat
      · exact he
      · have := nextKid_lt h (j := j) (d := D j) hs.1 (by omega)
        rw [← hs.2.2.1] at this
        omega
    rcases List.mem_cons.1 hx with rfl | hx
    · exact hj
    · exact Way1.done h (hs.pop (Nat.le_refl _) hj).1 x hx
/-- Behind the first step something is open, as long as steps come. -/
theorem Way1.some {ks : List Int} (h : way ks 1 = true) {i : Nat} (hi : i < ks.length) (he : en ks 0 = i) : False := by
  have := way_sk ks 1 h
  rw [en, List.drop_zero] at he
  omega
end Go.Proofs.Ytmikgaphknbcaaa.B
/- dowelref13.Kids: rows of rows: the world's side of the invariant. -/
namespace Go.Proofs.Ytmikgaphknbcaaa.B
open Go Go.RowKit Go.X Go.Proofs.YtmikgaphknbcaaaW.PrintWords Go.Proofs.Ytmikgaphknbcaaa.F

/-- A block of rows, each in memory of its own, and one row more. -/
structure KW (w wr : World) (K : Nat) (vs : List Value) (rows : List (List Int)) (v : Value) (s : List Int) : Prop where
  bel : Below w.heap.size w wr
  hK : w.heap.size ≤ K
  blk : Blk wr K 36 vs
  len : vs.length = rows.length
  own : ∀ (j : Nat) (u : Value) (r : List Int), vs[j]? = some u → rows[j]? = some r → wr.ownsRow w.heap.size 3 1 u r.length (nums .i64 r)
  sep : ∀ (i j : Nat) (u u' : Value), vs[i]? = some u → vs[j]? = some u' → i ≠ j → u.ownBlock = none ∨ u.ownBlock ≠ u'.ownBlock
  wown : wr.ownsRow w.heap.size 3 1 v s.length (nums .i64 s)
  wsep : ∀ (j : Nat) (u : Value), vs[j]? = some u → v.ownBlock = none ∨ v.ownBlock ≠ u.ownBlock
theorem own_ne36 {w : World} {base n K : Nat} {v : Value} {xs cs : List Value} (h : w.ownsRow base 3 1 v n xs) (hb : Blk w K 36 cs) : v.ownBlock ≠ some K := by
  intro e
  rcases h.2 with ⟨rfl, _⟩ | ⟨g, cap, cur, rfl, _, hg, _⟩
  · simp [Value.ownBlock] at e
  · simp only [Value.ownBlock, Option.some.injEq] at e
    subst e
    have : w.heap[g]? = _ := hb
    rw [this] at hg
    simp at hg
theorem KW.row_of {w wr : World} {K : Nat} {vs : List Value} {rows : List (List Int)} {v : Value} {s : List Int} (h : KW w wr K vs rows v s) {j : Nat} {u : Value} (hu : vs[j]? = some u) : ∃ r, rows[j]? = some r := by
  have := (List.getElem?_eq_some_iff.1 hu).1
  exact ⟨rows[j]'(by rw [← h.len]; exact this), List.getElem?_eq_getElem _⟩
theorem KW.lt {w wr : World} {K : Nat} {vs : List Value} {rows : List (List Int)} {v : Value} {s : List Int} (h : KW w wr K vs rows v s) {j : Nat} {u : Value} (hu : vs[j]? = some u) : ∀ b, u.ownBlock = some b → b < wr.heap.size := fun b hb => by
  obtain ⟨r, hr⟩ := h.row_of hu
  exact ((h.own j u r hu hr).lt b hb).2
/-- A number more in one of the rows. -/
theorem KW.row {w wr w' : World} {K : Nat} {vs : List Value} {rows : List (List Int)} {v : Value} {s : List Int} (h : KW w wr K vs rows v s) {j : Nat} {u u' : Value} {r : List Int} {x : Int} (hu : vs[j]? = some u) (hr : rows[j]? = some r)
    (hown : w'.ownsRow w.heap.size 3 1 u' (r.length + 1) (nums .i64 r ++ [.int .i64 x])) (ha : Appended (wr.alloc (.cells #[.int .i64 x] 3)) w' 3 1 u u' r.length) :
    KW w (w'.setCell ⟨K, j, none⟩ u') K (vs.set j u') (rows.set j (r ++ [x])) v s := by
  have hjv : j < vs.length := (List.getElem?_eq_some_iff.1 hu).1
  have hjr : j < rows.length := by rw [← h.len]; exact hjv
  have howu := h.own j u r hu hr
  have hbw : ∀ b, u.ownBlock = some b → w.heap.size ≤ b := fun b hb => (howu.lt b hb).1
  have hKw : Blk w' K 36 vs := ha.keeps_lt (h.blk.grown (World.grownBy_alloc _ _ none) (by simp)) (fun e => own_ne36 howu h.blk e.symm)
  have keep : ∀ {u2 : Value} {n : Nat} {xs : List Value}, wr.ownsRow w.heap.size 3 1 u2 n xs → (u2.ownBlock = none ∨ u2.ownBlock ≠ u.ownBlock) → (w'.setCell ⟨K, j, none⟩ u').ownsRow w.heap.size 3 1 u2 n xs := by
    intro u2 n xs h2 hne
    have h3 := ha.keeps _ _ _ _ _ _ (h2.alloc _) (by rcases hne with e | e; exact .inl e; exact .inr (.inl e))
    exact h3.kept (grown_setCell w' _ _) (.inr (own_ne36 h3 hKw))
  have newb : ∀ {u2 : Value}, (∀ b, u2.ownBlock = some b → b < wr.heap.size) → (u2.ownBlock = none ∨ u2.ownBlock ≠ u.ownBlock) → u2.ownBlock = none ∨ u2.ownBlock ≠ u'.ownBlock := by
    intro u2 hlt hne
    rcases hne with e | e
    · exact .inl e
    · rcases ha.place with hp | ⟨hp, _⟩
      · rw [hp]; exact .inr e
      · rw [hp]
        refine .inr fun e2 => ?_
        have := hlt _ e2
        simp at this
        omega
  refine ⟨?_, h.hK, ?_, by rw [List.length_set, List.length_set]; exact h.len, ?_, ?_, ?_, ?_⟩
  · have h1 : Below w.heap.size w (wr.alloc (.cells #[.int .i64 x] 3)) := h.bel.alloc h.bel.size _
    exact (h1.grown ha.grown h1.size hbw).setCell (by exact h.hK) _
  · exact hKw.setCell j u'
  · intro i u2 r2 hu2 hr2
    by_cases hi : i = j
    · subst hi
      rw [List.getElem?_set_self hjv] at hu2
      rw [List.getElem?_set_self hjr] at hr2
      obtain rfl : u' = u2 := by injection hu2
      obtain rfl : r ++ [x] = r2 := by injection hr2
      have h3 : w'.ownsRow w.heap.size 3 1 u' (r ++ [x]).length (nums .i64 (r ++ [x])) := by
        rw [List.length_append]
        simpa [nums] using hown
      exact h3.kept (grown_setCell w' _ _) (.inr (own_ne36 h3 hKw))
    · rw [List.getElem?_set_ne (fun e => hi e.symm)] at hu2 hr2
      exact keep (h.own i u2 r2 hu2 hr2) (h.sep i j u2 u hu2 hu hi)
  · intro i i' u2 u3 hu2 hu3 hne
    by_cases hi : i = j
    · subst hi
      rw [List.getElem?_set_self hjv] at hu2
      rw [List.getElem?_set_ne hne] at hu3
      obtain rfl : u' = u2 := by injection hu2
      rcases newb (h.lt hu3) (h.sep i' i u3 u hu3 hu (Ne.symm hne)) with e | e
      · cases hb : u'.ownBlock with
        | none => exact .inl rfl
        | some b => rw [e]; exact .inr (by simp)
      · exact .inr (Ne.symm e)
    · rw [List.getElem?_set_ne (fun e => hi e.symm)] at hu2
      by_cases hi' : i' = j
      · subst hi'
        rw [List.getElem?_set_self hjv] at hu3
        obtain rfl : u' = u3 := by injection hu3
        exact newb (h.lt hu2) (h.sep i i' u2 u hu2 hu hi)
      · rw [List.getElem?_set_ne (fun e => hi' e.symm)] at hu3
        exact h.sep i i' u2 u3 hu2 hu3 hne
  · exact keep h.wown (h.wsep j u hu)
  · intro i u2 hu2
    by_cases hi : i = j
    · subst hi
      rw [List.getElem?_set_self hjv] at hu2
      obtain rfl : u' = u2 := by injection hu2
      exact newb (fun b hb => (h.wown.lt b hb).2) (h.wsep i u hu)
    · rw [List.getElem?_set_ne (fun e => hi e.symm)] at hu2
      exact h.wsep i u2 hu2
/-- A number more in the row that stands by itself. -/
theorem KW.push {w wr w' : World} {K : Nat} {vs : List Value} {rows : List (List Int)} {v v' : Value} {s : List Int} {x : Int} (h : KW w wr K vs rows v s)
    (hown : w'.ownsRow w.heap.size 3 1 v' (s.length + 1) (nums .i64 s ++ [.int .i64 x])) (ha : Appended (wr.alloc (.cells #[.int .i64 x] 3)) w' 3 1 v v' s.length) : KW w w' K vs rows v' (s ++ [x]) := by
  have hbw : ∀ b, v.ownBlock = some b → w.heap.size ≤ b := fun b hb => (h.wown.lt b hb).1
  have hKw : Blk w' K 36 vs := ha.keeps_lt (h.blk.grown (World.grownBy_alloc _ _ none) (by simp)) (fun e => own_ne36 h.wown h.blk e.symm)
  have h1 : Below w.heap.size w (wr.alloc (.cells #[.int .i64 x] 3)) := h.bel.alloc h.bel.size _
  refine ⟨h1.grown ha.grown h1.size hbw, h.hK, hKw, h.len, fun j u r hu hr => ?_, h.sep, by rw [List.length_append]; simpa [nums] using hown, fun j u hu => ?_⟩
  · refine ha.keeps _ _ _ _ _ _ ((h.own j u r hu hr).alloc _) ?_
    rcases h.wsep j u hu with e | e
    · cases hb : u.ownBlock with
      | none => exact .inl rfl
      | some b => rw [e]; exact .inr (.inl (by simp))
    · exact .inr (.inl (Ne.symm e))
  · rcases ha.place with hp | ⟨hp, _⟩
    · rw [hp]; exact h.wsep j u hu
    · refine .inr fun e => ?_
      have := h.lt hu _ (e.symm.trans hp)
      simp at this
      omega
/-- The row that stands by itself, one shorter. -/
theorem KW.pop {w wr : World} {K g cap : Nat} {vs : List Value} {rows : List (List Int)} {s : List Int} {x : Int} (h : KW w wr K vs rows (.slice (some ⟨g, 0, none⟩) (s.length + 1) cap) (s ++ [x])) : KW w wr K vs rows (.slice (some ⟨g, 0, none⟩) s.length cap) s := by
  have h2 := h.wown
  rw [List.length_append, show nums .i64 (s ++ [x]) = nums .i64 s ++ [.int .i64 x] by simp [nums]] at h2
  exact ⟨h.bel, h.hK, h.blk, h.len, h.own, h.sep, ownsRow_pop (by rw [nums_length, Nat.mul_one]) h2, h.wsep⟩
end Go.Proofs.Ytmikgaphknbcaaa.B
/- dowelref13.Kids, walked. -/
namespace Go.Proofs.Ytmikgaphknbcaaa.B
open Go Go.RowKit Go.X Go.Proofs.YtmikgaphknbcaaaW.PrintWords Go.Proofs.Ytmikgaphknbcaaa.F

theorem inf36 : (Try.prog.info? 36).map (fun i => (i.zero, i.size, i.bytes)) = some (some (.slice none 0 0), 1, 24) := by kernel_rfl
theorem inf3 : (Try.prog.info? 3).map (fun i => (i.zero, i.size, i.bytes)) = some (some (.int .i64 0), 1, 8) := by kernel_rfl
theorem made_rows (n : Nat) : (madeCells (Value.slice none 0 0).cells (n * 1)).toList = List.replicate n (Value.slice none 0 0) := by
  apply List.ext_getElem?
  intro j
  simp [madeCells, List.getElem?_replicate, Value.cells]
  split <;> simp_all [Nat.mod_one]
theorem way_ge : ∀ (l : List Int) (c a : Nat), way l c = true → a ≤ c → a ≤ sk l a
  | _, _, 0, _, _ => Nat.zero_le _
  | [], c, a + 1, h, ha => by rw [way] at h; simp at h; omega
  | k :: r, c, a + 1, h, ha => by
    rw [way, if_neg (by omega)] at h
    have := way_ge r (c - 1 + k.toNat) (a + k.toNat) h (by omega)
    rw [sk]
    omega
theorem kids_few {ks : List Int} (h : way ks 1 = true) {j d : Nat} (hj : j < ks.length) (hd : d ≤ (ks.getD j 0).toNat) : d ≤ nextKid ks j d := by
  obtain ⟨c, hc, hw⟩ := way_kids h hj
  have := way_ge _ c d hw (by omega)
  rw [nextKid]
  omega
def stI : List Nat → List Int
  | [] => []
  | j :: r => stI r ++ [(j : Int)]
theorem stI_length : ∀ s : List Nat, (stI s).length = s.length
  | [] => rfl
  | j :: r => by rw [stI, List.length_append, stI_length r]; rfl
def rw' (rows : List (List Int)) (j : Nat) : List Int := rows.getD j []
/-- How far Kids has come. -/
structure KI (w wr : World) (K : Nat) (ks : List Int) (k : Nat) (vs : List Value) (rows : List (List Int)) (v : Value) (s : List Nat) : Prop where
  kw : KW w wr K vs rows v (stI s)
  len : rows.length = ks.length
  wy : Way1 ks (fun j => (rw' rows j).length) k s
  row : ∀ j, j < ks.length → rw' rows j = (kidsFrom ks (rw' rows j).length (j + 1)).map fun n : Nat => (n : Int)
  full : ∀ j, j < k → j ∉ s → (rw' rows j).length = (ks.getD j 0).toNat
  none' : ∀ j, k ≤ j → rw' rows j = []
  root : ∀ j, s.getLast? = some j → j = 0
  few : s.length ≤ k
theorem KW.drewN {w wr : World} {K : Nat} {vs : List Value} {rows : List (List Int)} {v : Value} {s : List Int} (h : KW w wr K vs rows v s) (q : Nat) : KW w (wr.drewN q) K vs rows v s :=
  ⟨h.bel.trans ((Below.drewQ ⟨q, rfl⟩).mono h.bel.size), h.hK, h.blk, h.len, h.own, h.sep, h.wown, h.wsep⟩
theorem KI.drewN {w wr : World} {K k : Nat} {ks : List Int} {vs : List Value} {rows : List (List Int)} {v : Value} {s : List Nat} (h : KI w wr K ks k vs rows v s) (q : Nat) : KI w (wr.drewN q) K ks k vs rows v s :=
  ⟨h.kw.drewN q, h.len, h.wy, h.row, h.full, h.none', h.root, h.few⟩
/-- The topmost step has all its kids. -/
theorem KI.pop {w wr : World} {K k j g cap : Nat} {ks : List Int} {vs : List Value} {rows : List (List Int)} {r : List Nat} (h : KI w wr K ks k vs rows (.slice (some ⟨g, 0, none⟩) (r.length + 1) cap) (j :: r)) (hk : k ≤ ks.length)
    (hd : (rw' rows j).length = (ks.getD j 0).toNat) : KI w wr K ks k vs rows (.slice (some ⟨g, 0, none⟩) r.length cap) r ∧ en ks j = k := by
  have hp := h.wy.pop hk hd
  have hkw := h.kw
  rw [← stI_length r] at hkw
  have hkw2 := hkw.pop
  rw [stI_length] at hkw2
  refine ⟨⟨hkw2, h.len, hp.1, h.row, fun x hx hn => ?_, h.none', fun x hx => ?_, by have := h.few; simp only [List.length_cons] at this; omega⟩, hp.2⟩
  · by_cases hxj : x = j
    · rw [hxj]; exact hd
    · exact h.full x hx (by simp [hxj, hn])
  · refine h.root x ?_
    cases r with
    | nil => cases hx
    | cons a b => simpa using hx
theorem rw_set {rows : List (List Int)} {j : Nat} (hj : j < rows.length) (r : List Int) (x : Nat) : rw' (rows.set j r) x = if x = j then r else rw' rows x := by
  rw [rw', rw', List.getD_eq_getElem?_getD, List.getD_eq_getElem?_getD]
  by_cases h : x = j
  · subst h
    rw [if_pos rfl, List.getElem?_set_self hj]
    rfl
  · rw [if_neg h, List.getElem?_set_ne (fun e => h e.symm)]
/-- The topmost step gets a kid, which is opened. -/
theorem KI.push {w wr w' : World} {K k j : Nat} {ks : List Int} {vs vs' : List Value} {rows : List (List Int)} {v v' : Value} {r : List Nat} (h : KI w wr K ks k vs rows v (j :: r)) (hk : k < ks.length)
    (hd : (rw' rows j).length ≠ (ks.getD j 0).toNat) (hkw : KW w w' K vs' (rows.set j (rw' rows j ++ [(k : Int)])) v' (stI (j :: r) ++ [(k : Int)])) :
    KI w w' K ks (k + 1) vs' (rows.set j (rw' rows j ++ [(k : Int)])) v' (k :: j :: r) := by
  have hjk : j < k := h.wy.1
  have hjr : j < rows.length := by rw [h.len]; omega
  have hlt : ∀ x ∈ r, x < j := fun x hx => h.wy.2.2.2.lt x hx
  refine ⟨hkw, by rw [List.length_set]; exact h.len, ?_, fun x hx => ?_, fun x hx hn => ?_, fun x hx => ?_, fun x hx => ?_, by have := h.few; simp only [List.length_cons] at this ⊢; omega⟩
  · refine h.wy.push (D := fun j => (rw' rows j).length) ?_ ?_ ?_ ?_
    · show (rw' rows j).length < _
      have := h.wy.2.1
      simp only at this
      omega
    · show (rw' _ k).length = 0
      rw [rw_set hjr, if_neg (by omega), h.none' k (Nat.le_refl _)]; rfl
    · show (rw' _ j).length = _
      rw [rw_set hjr, if_pos rfl]; simp
    · intro x hx
      show (rw' _ x).length = _
      have := hlt x hx
      rw [rw_set hjr, if_neg (by omega)]
  · rw [rw_set hjr]
    by_cases hxj : x = j
    · subst hxj
      rw [if_pos rfl, List.length_append, List.length_singleton, kids_snoc, List.map_append, ← h.row x hx]
      have hn := h.wy.2.2.1
      simp only at hn
      rw [← hn]
      rfl
    · rw [if_neg hxj]
      exact h.row x hx
  · simp only [List.mem_cons, not_or] at hn
    rw [rw_set hjr, if_neg hn.2.1]
    exact h.full x (by omega) (by simp only [List.mem_cons, not_or]; exact hn.2)
  · rw [rw_set hjr, if_neg (by omega)]
    exact h.none' x (by omega)
  · exact h.root x (by simpa using hx)
/-- The first step is opened. -/
theorem KI.first {w wr w' : World} {K : Nat} {ks : List Int} {vs : List Value} {rows : List (List Int)} {v v' : Value} (h : KI w wr K ks 0 vs rows v []) (hkw : KW w w' K vs rows v' (stI [] ++ [((0 : Nat) : Int)])) : KI w w' K ks 1 vs rows v' [0] :=
  ⟨hkw, h.len, Way1.first (by show (rw' rows 0).length = 0; rw [h.none' 0 (Nat.le_refl _)]; rfl), h.row, fun x hx hn => absurd hx (by simp at hn; omega), fun x hx => h.none' x (by omega), fun x hx => by simp at hx; exact hx.symm, by simp⟩
theorem KI.ans {w wr : World} {K : Nat} {ks : List Int} {vs : List Value} {rows : List (List Int)} {v : Value} {s : List Nat} (h : KI w wr K ks ks.length vs rows v s) (ht : way ks 1 = true) : rows = (List.range ks.length).map (fun i => (kidsOf ks i).map fun n : Nat => (n : Int)) := by
  apply List.ext_getElem?
  intro j
  by_cases hj : j < ks.length
  · have hd : (rw' rows j).length = (ks.getD j 0).toNat := by
      by_cases hjs : j ∈ s
      · exact h.wy.done ht j hjs
      · exact h.full j hj hjs
    have hr := h.row j hj
    rw [hd] at hr
    have e : rows[j]? = some (rw' rows j) := by rw [rw', List.getD_eq_getElem?_getD, List.getElem?_eq_getElem (by rw [h.len]; exact hj)]; rfl
    rw [e, hr, List.getElem?_map, List.getElem?_range hj]
    rfl
  · rw [List.getElem?_eq_none (by rw [h.len]; omega), List.getElem?_eq_none (by simp; omega)]
set_option maxRecDepth 100000 in
set_option maxHeartbeats 4000000 in
theorem Kids.calls (A : Option Addr) (c : Nat) (xs : List S79) (w : World) (hr : Kd.C k79 w A xs.length xs) (hn : xs.length ≤ 4000000) (ht : isTr (kk xs) = true) :
    Calls Try.prog 59 #[.slice A xs.length c] w fun e w' => ∃ K vs rows, e = .returned (.slice (some ⟨K, 0, none⟩) xs.length xs.length) ∧ (∃ v s, KW w w' K vs rows v s) ∧ rows = (List.range xs.length).map (fun i => (kidsOf (kk xs) i).map fun n : Nat => (n : Int)) := by
  have HR := Lib.hid hr; clear hr
  have HT : Hid (way (kk xs) 1 = true) := by
    rw [isTr, Bool.and_eq_true] at ht
    exact ht.2
  have HPOS : Hid ((kk xs).all (fun k => decide (0 ≤ k)) = true) := by
    rw [isTr, Bool.and_eq_true] at ht
    exact ht.1
  clear ht
  go_enter Try.func59, Try.ntmps59
  go_wp2_with (first
    | (at_make; refine X.make rfl _ _ 42 rfl 36 (.slice none 0 0) 1 24 Try.underlying42 inf36 .i64 .i64 _ _ xs.length rfl rfl rfl rfl (by omega) (by simp only [maxLen]; omega) ?_; intro w1 hb1 hg1; have HB1 := Lib.hid hb1; clear hb1; have HG1 := Lib.hid hg1; clear hg1)
    | fail)
  have HI0 : Hid (KI w w1 w.heap.size (kk xs) 0 (List.replicate xs.length (.slice none 0 0)) (List.replicate xs.length []) (.slice none 0 0) []) := by
    have hr0 : ∀ j, rw' (List.replicate xs.length []) j = [] := fun j => by
      rw [rw', List.getD_eq_getElem?_getD, List.getElem?_replicate]
      split <;> rfl
    refine ⟨⟨(Below.refl _ _).grown HG1.out (Nat.le_refl _) (by simp), Nat.le_refl _, by have := HB1.out; rwa [made_rows] at this, by simp, ?_, ?_, World.ownsRow_nil _ _ _ _, fun j u hu => .inl rfl⟩, by simp [kk_length], trivial, fun j hj => ?_, fun j hj => absurd hj (Nat.not_lt_zero _), fun j _ => hr0 j, by simp, by simp⟩
    · intro j u r hu hr
      rw [List.getElem?_replicate] at hu hr
      split at hu
      · rename_i hj
        rw [if_pos hj] at hr
        obtain rfl : (Value.slice none 0 0) = u := by injection hu
        obtain rfl : ([] : List Int) = r := by injection hr
        exact World.ownsRow_nil _ _ _ _
      · cases hu
    · intro i j u u' hu _ _
      rw [List.getElem?_replicate] at hu
      split at hu
      · obtain rfl : (Value.slice none 0 0) = u := by injection hu
        exact .inl rfl
      · cases hu
    · rw [hr0]; rfl
  clear HB1 HG1
  generalize w.heap.size = K at *
  go_loopg [4, 5, 6] xs.length (fun q v i _ wr => ∃ (k : Nat) (vs : List Value) (rows : List (List Int)) (s : List Nat), q + k = xs.length ∧ i = .int .i64 k ∧ Hid (KI w wr K (kk xs) k vs rows v s ∧ (k = 0 ∧ s = [] ∨ 0 < k ∧ s ≠ [])))
  case atStart => exact ⟨0, _, _, [], by simp, rfl, HI0, .inl ⟨rfl, rfl⟩⟩
  case round =>
    clear HI0
    obtain ⟨k, vs, rows, s, hk, rfl, HI⟩ := hrel
    by_cases hlt : k < xs.length
    · go_wp2
      go_loopg [4] s.length (fun q v wr' => ∃ (s' : List Nat), q = s'.length ∧ Hid (KI w wr' K (kk xs) k vs rows v s' ∧ (k = 0 ∧ s' = [] ∨ 0 < k ∧ s' ≠ [])))
      case atStart => exact ⟨s, rfl, HI⟩
      case round =>
        clear HI
        rename World => wz
        obtain ⟨s', rfl, HI⟩ := hrel
        have hkw : wrap64 ((k : Int) + 1) = ((k + 1 : Nat) : Int) := by rw [IntWalk.wrap64_in _ (by omega)]; rfl
        match s', HI with
        | [], HI =>
          obtain ⟨a2, cap2, hv⟩ := own_form HI.out.1.kw.wown
          rw [show (stI []).length = 0 from rfl] at hv
          subst hv
          obtain rfl : k = 0 := by rcases HI.out.2 with ⟨h, _⟩ | ⟨_, h⟩; exact h; exact absurd rfl h
          go_wp2
          go_quiet (fail)
          generalize hwq : wz.drewN nq = wq
          have HI2 : Hid (KI w wq K (kk xs) 0 vs rows (.slice a2 0 cap2) []) := by rw [← hwq]; exact HI.out.1.drewN nq
          clear HI hwq
          go_wp2_with (first
            | (at_builtin; refine X.append1 rfl (.tmp 66) (.tmp 68) 36 3 rfl w.heap.size (.int .i64 0) 1 8 Try.underlying36 inf3 rfl _ 0 _ rfl HI2.out.kw.wown [.int .i64 ((0 : Nat) : Int)] rfl rfl ?_ ?_ ?_ ?_ ?_)
            | fail)
          · first
              | rfl
              | (intro u hu; simp at hu; subst hu; rfl)
          · simp only [maxLen]; omega
          · omega
          · exact HI2.out.kw.bel.size
          intro v' w3 hown hap
          have HI3 : Hid (KI w w3 K (kk xs) 1 vs rows v' [0]) := HI2.out.first (HI2.out.kw.push (s := []) hown hap)
          clear hown hap HI2
          go_wp2
          go_roundg (xs.length - 1)
          case measure => omega
          case rel => exact ⟨1, vs, rows, [0], by omega, by first | rfl | rw [hkw], HI3.out, .inr ⟨by omega, by simp⟩⟩
        | j :: r, HI =>
          have hjk : j < k := HI.out.1.wy.1
          have hjn : j < xs.length := by omega
          have hw0 := HI.out.1.kw.wown
          rw [stI, List.length_append, stI_length] at hw0
          obtain ⟨g, cap, hv⟩ := own_some hw0
          clear hw0
          subst hv
          have hcap : r.length + 1 ≤ cap := by
            have := HI.out.1.kw.wown
            rw [stI, List.length_append, stI_length] at this
            exact own_cap this
          have d0 : wz.cell? ⟨g, r.length, none⟩ = some (.int .i64 (j : Int)) := by
            have := HI.out.1.kw.wown
            rw [stI, List.length_append, stI_length] at this
            have h2 := this.cellAt r.length (by show _ < (r.length + 1) * 1; omega)
            rw [h2, nums, List.map_append, List.getElem?_append_right (by simp [stI_length]), List.length_map, stI_length, Nat.sub_self]
            rfl
          have hjr : j < rows.length := by rw [HI.out.1.len, kk_length]; exact hjn
          obtain ⟨u, hu⟩ : ∃ u, vs[j]? = some u := ⟨vs[j]'(by rw [HI.out.1.kw.len]; exact hjr), List.getElem?_eq_getElem _⟩
          have hrj : rows[j]? = some (rw' rows j) := by rw [rw', List.getD_eq_getElem?_getD, List.getElem?_eq_getElem hjr]; rfl
          have howu := HI.out.1.kw.own j u _ hu hrj
          obtain ⟨a3, cap3, hu3⟩ := own_form howu
          have e0 : wz.cell? ⟨K, j, none⟩ = some (.slice a3 (rw' rows j).length cap3) := by rw [HI.out.1.kw.blk.cell, hu, hu3]
          have f0 : wz.frozen? ⟨K, j, none⟩ = false := HI.out.1.kw.blk.frozen j
          obtain ⟨ad, eA, c0, c1, c2, c3, c4, c5, c6⟩ := step_at (Kd.C_below HR.out HI.out.1.kw.bel) j hjn
          subst eA
          clear c0 c1 c2 c3 c4 c5
          have hg := kk_get xs hjn
          have hy0 : 0 ≤ (st xs j).f6 := by
            have := List.all_eq_true.1 HPOS.out (st xs j).f6 (by rw [kk]; exact List.mem_map.2 ⟨_, st_mem hjn, rfl⟩)
            simpa using this
          generalize st xs j = y at *
          have HG : Hid ((((kk xs).getD j 0).toNat : Int) = y.f6) := by show _ = _; rw [hg]; omega
          have HU := Lib.hid hu; clear hu
          have HRJ := Lib.hid hrj; clear hrj
          have HU3 := Lib.hid hu3; clear hu3
          have HOW := Lib.hid howu; clear howu hg
          have hj0 : (0 : Int) ≤ (j : Int) := by omega
          have hj1 : (j : Int) < (xs.length : Int) := by omega
          have hr0 : (0 : Int) ≤ (r.length : Int) := by omega
          have hcap' : (r.length : Int) ≤ (cap : Int) := by omega
          have hrm : r.length ≤ 4000000 := by have := HI.out.1.few; simp only [List.length_cons] at this; omega
          obtain ⟨n, hnj⟩ : ∃ n, (rw' rows j).length = n := ⟨_, rfl⟩
          rw [hnj] at e0
          have HNJ := Lib.hid hnj; clear hnj
          by_cases hd : n = ((kk xs).getD j 0).toNat
          · have hcond : ((n : Int) == y.f6) = true := by rw [← HG.out, ← hd]; simp
            have HP := Lib.hid (HI.out.1.pop (by rw [kk_length]; omega) (by rw [HNJ.out]; exact hd))
            have HNE : Hid (r ≠ []) := by
              intro hr
              have hroot := HI.out.1.root j (by rw [hr]; rfl)
              exact Way1.some HT.out (by rw [kk_length]; exact hlt) (hroot ▸ HP.out.2)
            clear HI HU HOW HG hd
            go_wp2
            go_quiet (fail)
            go_wp2
            go_roundg r.length
            case measure => exact Nat.lt_succ_self _
            case rel => exact ⟨r, rfl, HP.out.1.drewN _, .inr ⟨by omega, HNE.out⟩⟩
          · have hcond : ((n : Int) == y.f6) = false := by rw [beq_eq_false_iff_ne, ← HG.out]; omega
            go_wp2
            go_quiet (fail)
            generalize hwq : wz.drewN nq = wq
            have HI2 : Hid (KI w wq K (kk xs) k vs rows (.slice (some ⟨g, 0, none⟩) (r.length + 1) cap) (j :: r)) := by rw [← hwq]; exact HI.out.1.drewN nq
            have d0' : wq.cell? ⟨g, r.length, none⟩ = some (.int .i64 (j : Int)) := by rw [← hwq]; exact d0
            have e0' : wq.cell? ⟨K, j, none⟩ = some (.slice a3 n cap3) := by rw [← hwq]; exact e0
            have HOW2 : Hid (wq.ownsRow w.heap.size 3 1 (.slice a3 n cap3) n (nums .i64 (rw' rows j))) := by
              have := HOW.out
              rw [HU3.out, HNJ.out] at this
              rw [← hwq]
              exact this
            have hnk : n ≤ 4000000 := by
              have h1 := HI2.out.wy.2.1
              have h2 := HI2.out.wy.2.2.1
              simp only at h1 h2
              rw [HNJ.out] at h1 h2
              have h3 := kids_few HT.out (by rw [kk_length]; exact hjn : j < (kk xs).length) h1
              rw [← h2] at h3
              omega
            clear HI hwq d0 e0 f0 c6 HOW
            go_wp2_with (first
              | (at_builtin; refine X.append1 rfl (.tmp 61) (.tmp 63) 36 3 rfl w.heap.size (.int .i64 0) 1 8 Try.underlying36 inf3 rfl _ n _ rfl HOW2.out [.int .i64 (k : Int)] rfl rfl ?_ ?_ ?_ ?_ ?_)
              | fail)
            · first
                | rfl
                | (intro u hu; simp at hu; subst hu; rfl)
            · simp only [maxLen]; omega
            · omega
            · exact HI2.out.kw.bel.size
            intro u' w3 hown hap
            obtain ⟨a4, cap4, hu4⟩ := own_form hown
            subst hu4
            have HKW : Hid (KW w (w3.setCell ⟨K, j, none⟩ (.slice a4 (n + 1) cap4)) K (vs.set j (.slice a4 (n + 1) cap4)) (rows.set j (rw' rows j ++ [(k : Int)])) (.slice (some ⟨g, 0, none⟩) (r.length + 1) cap) (stI (j :: r))) :=
              HI2.out.kw.row HU.out HRJ.out (by rw [HNJ.out]; exact hown) (by rw [HNJ.out, HU3.out, HNJ.out]; exact hap)
            have hKw : Blk w3 K 36 vs := hap.keeps_lt (HI2.out.kw.blk.grown (World.grownBy_alloc _ _ none) (by simp)) (fun e => own_ne36 HOW2.out HI2.out.kw.blk e.symm)
            have e1 : w3.cell? ⟨K, j, none⟩ = some u := by rw [hKw.cell, HU.out]
            have f1 : w3.frozen? ⟨K, j, none⟩ = false := hKw.frozen j
            have HN3 : Hid (w3.heap.size = (w3.setCell ⟨K, j, none⟩ (.slice a4 (n + 1) cap4)).heap.size) := by show _ = _; simp [World.setCell]
            have HWO : Hid ((w3.setCell ⟨K, j, none⟩ (.slice a4 (n + 1) cap4)).ownsRow w.heap.size 3 1 (.slice (some ⟨g, 0, none⟩) (r.length + 1) cap) (r.length + 1) (nums .i64 (stI (j :: r)))) := by
              have := HKW.out.wown
              rwa [stI_length] at this
            have HWS : Hid (w.heap.size ≤ (w3.setCell ⟨K, j, none⟩ (.slice a4 (n + 1) cap4)).heap.size) := HKW.out.bel.size
            clear hown hap hKw HOW2 d0' e0'
            go_wp2_with (first
              | (at_builtin; refine X.append1 rfl (.tmp 66) (.tmp 68) 36 3 rfl w.heap.size (.int .i64 0) 1 8 Try.underlying36 inf3 rfl _ (r.length + 1) _ rfl HWO.out [.int .i64 (k : Int)] (congrArg (fun n => Value.slice (some ⟨n, 0, none⟩) 1 1) HN3.out) rfl ?_ ?_ ?_ ?_ ?_)
              | fail)
            · first
                | rfl
                | (intro u hu; simp at hu; subst hu; rfl)
            · simp only [maxLen]; omega
            · omega
            · first
                | exact HWS.out
                | (rw [HN3.out]; exact HWS.out)
            intro v' w4 hown hap
            have HI4 : Hid (KI w w4 K (kk xs) (k + 1) (vs.set j (.slice a4 (n + 1) cap4)) (rows.set j (rw' rows j ++ [(k : Int)])) v' (k :: j :: r)) :=
              HI2.out.push (by rw [kk_length]; exact hlt) (by rw [HNJ.out]; exact hd) (HKW.out.push (by rw [stI_length]; exact hown) (by rw [stI_length]; exact hap))
            clear hown hap HKW HWO HI2
            go_wp2
            go_roundg (xs.length - (k + 1))
            case measure => omega
            case rel => exact ⟨k + 1, _, _, k :: j :: r, by omega, by first | rfl | rw [hkw], HI4.out, .inr ⟨by omega, by simp⟩⟩
    · obtain rfl : k = xs.length := by omega
      have HA : Hid (KI w wr K (kk xs) (kk xs).length vs rows u4 s) := by rw [kk_length]; exact HI.out.1
      clear HI
      go_wp2
      go_ret
      refine ⟨K, vs, rows, rfl, ⟨_, _, HA.out.kw⟩, ?_⟩
      have := HA.out.ans HT.out
      rw [kk_length] at this
      exact this
end Go.Proofs.Ytmikgaphknbcaaa.B
/- derive.kindOf: what kind of step a node makes: told apart are looks, captures and all others. -/
namespace Go.Proofs.Ytmikgaphknbcaaa.B
open Go Go.RowKit Go.X Go.Proofs.YtmikgaphknbcaaaW.PrintWords Go.Proofs.Ytmikgaphknbcaaa.F
def KindAns (x : S47) (e : Ending) : Prop := ∃ (T : TypeId) (v : Value), e = .returned (.iface T v) ∧ (T = 100 ↔ x.f0 = 12 ∨ x.f0 = 13) ∧ (T = 102 ↔ x.f0 = 14)
set_option maxRecDepth 100000 in
set_option maxHeartbeats 4000000 in
theorem kindOf.calls (x : S47) (ad : Addr) (n c : Nat) (p : Int) (w : World) (hn : 1 ≤ n) (hc : w.cell? ad = some (.int .i64 p)) :
    Calls Try.prog 68 #[.agg (nodeCells x).toArray, .slice (some ad) n c] w fun e w' => KindAns x e ∧ Below w.heap.size w w' := by
  obtain ⟨op, k, t, f, ⟨c0, c1, c2, c3⟩, lo, hi⟩ := x
  simp only [nodeCells]
  have HC : Hid (w.cell? ad = some (.int .i64 p)) := hc
  clear hc
  have hc : (w.alloc (.cells #[.int .i64 op, .int .i64 k, .string t, .bool f, .int .u64 c0, .int .u64 c1, .int .u64 c2, .int .u64 c3, .int .i64 lo, .int .i64 hi] 47)).cell? ad = some (.int .i64 p) :=
    Below.cell_some ((Below.refl _ w).alloc (Nat.le_refl _) _) HC.out
  have hb : Hid (Below w.heap.size w (w.alloc (.cells #[.int .i64 op, .int .i64 k, .string t, .bool f, .int .u64 c0, .int .u64 c1, .int .u64 c2, .int .u64 c3, .int .i64 lo, .int .i64 hi] 47))) := (Below.refl _ w).alloc (Nat.le_refl _) _
  have hn' : (0 : Int) < (n : Int) := by omega
  go_enter Try.func68, Try.ntmps68
  by_cases h6 : op = 6
  · subst h6
    go_wp2
    go_ret
    exact ⟨⟨_, _, rfl, by simp, by simp⟩, hb.out⟩
  by_cases h7 : op = 7
  · subst h7
    go_wp2
    go_ret
    exact ⟨⟨_, _, rfl, by simp, by simp⟩, hb.out⟩
  by_cases h9 : op = 9
  · subst h9
    go_wp2
    go_ret
    exact ⟨⟨_, _, rfl, by simp, by simp⟩, hb.out⟩
  by_cases h10 : op = 10
  · subst h10
    go_wp2
    go_ret
    exact ⟨⟨_, _, rfl, by simp, by simp⟩, hb.out⟩
  by_cases h8 : op = 8
  · subst h8
    go_wp2
    go_ret
    exact ⟨⟨_, _, rfl, by simp, by simp⟩, hb.out⟩
  by_cases h11 : op = 11
  · subst h11
    go_wp2
    go_quiet (fail)
    go_wp2
    go_ret
    exact ⟨⟨_, _, rfl, by simp, by simp⟩, hb.out.trans ((Below.drewQ ⟨_, rfl⟩).mono hb.out.size)⟩
  by_cases h12 : op = 12
  · subst h12
    go_wp2
    go_quiet (fail)
    go_wp2
    go_ret
    exact ⟨⟨_, _, rfl, by simp, by simp⟩, hb.out.trans ((Below.drewQ ⟨_, rfl⟩).mono hb.out.size)⟩
  by_cases h13 : op = 13
  · subst h13
    go_wp2
    go_quiet (fail)
    go_wp2
    go_ret
    exact ⟨⟨_, _, rfl, by simp, by simp⟩, hb.out.trans ((Below.drewQ ⟨_, rfl⟩).mono hb.out.size)⟩
  by_cases h14 : op = 14
  · subst h14
    go_wp2
    go_ret
    exact ⟨⟨_, _, rfl, by simp, by simp⟩, hb.out⟩
  go_wp2
  go_ret
  exact ⟨⟨_, _, rfl, by simp [h12, h13], by simp [h14]⟩, hb.out⟩
theorem assert100_yes (W : World) (v : Value) : (Instr.typeAssert (.iface 100 v) 97 100 true).run Try.prog W = .ok (.tuple #[v, .bool true]) W := by kernel_rfl
theorem assert102_yes (W : World) (v : Value) : (Instr.typeAssert (.iface 102 v) 97 102 true).run Try.prog W = .ok (.tuple #[v, .bool true]) W := by kernel_rfl
theorem zero100 (W : World) : (do pure (Value.tuple #[← zeroValue 100, .bool false]) : Sem Value).run Try.prog W = .ok (.tuple #[.agg #[.int .i64 0, .bool false], .bool false]) W := by kernel_rfl
theorem zero102 (W : World) : (do pure (Value.tuple #[← zeroValue 102, .bool false]) : Sem Value).run Try.prog W = .ok (.tuple #[.agg #[.int .i64 0], .bool false]) W := by kernel_rfl
theorem assert100_no (W : World) (u : TypeId) (v : Value) (h : u ≠ 100) : (Instr.typeAssert (.iface u v) 97 100 true).run Try.prog W = .ok (.tuple #[.agg #[.int .i64 0, .bool false], .bool false]) W := by
  have e : (Instr.typeAssert (.iface u v) 97 100 true).run Try.prog W = (if u = 100 then (pure (Value.tuple #[v, .bool true]) : Sem Value) else (do pure (Value.tuple #[← zeroValue 100, .bool false]))).run Try.prog W := by kernel_rfl
  rw [e, if_neg h]
  exact zero100 W
theorem assert102_no (W : World) (u : TypeId) (v : Value) (h : u ≠ 102) : (Instr.typeAssert (.iface u v) 97 102 true).run Try.prog W = .ok (.tuple #[.agg #[.int .i64 0], .bool false]) W := by
  have e : (Instr.typeAssert (.iface u v) 97 102 true).run Try.prog W = (if u = 102 then (pure (Value.tuple #[v, .bool true]) : Sem Value) else (do pure (Value.tuple #[← zeroValue 102, .bool false]))).run Try.prog W := by kernel_rfl
  rw [e, if_neg h]
  exact zero102 W
end Go.Proofs.Ytmikgaphknbcaaa.B
/- dowelbook.Captures, Outcomes; dowellaw13's heavy. -/
namespace Go.Proofs.Ytmikgaphknbcaaa.B
open Go Go.RowKit Go.X Go.Proofs.YtmikgaphknbcaaaW.PrintWords Go.Proofs.Ytmikgaphknbcaaa.F

def wt13 : List S34 → Int → Int
  | [], n => n
  | x :: r, n => if n < 262144 then wt13 r (n + ((x.f2.length : Int) + x.f1.length)) else n
theorem wt13_ge : ∀ (rs : List S34) (n : Int), n ≤ wt13 rs n
  | [], n => Int.le_refl _
  | x :: r, n => by
    rw [wt13]
    split
    · have := wt13_ge r (n + ((x.f2.length : Int) + x.f1.length))
      omega
    · omega
theorem wt13_small : ∀ (rs : List S34) (n : Int), 0 ≤ n → wt13 rs n < 262144 → n < 262144 ∧ ∀ x ∈ rs, x.f1.length ≤ 1048576 ∧ x.f2.length ≤ 1048576
  | [], n, h0, h => ⟨by simpa [wt13] using h, by simp⟩
  | x :: r, n, h0, h => by
    rw [wt13] at h
    split at h
    · rename_i hn
      obtain ⟨h1, h2⟩ := wt13_small r _ (by omega) h
      refine ⟨hn, fun y hy => ?_⟩
      rcases List.mem_cons.1 hy with rfl | hy
      · omega
      · exact h2 y hy
    · omega
theorem gramOK_of_wt13 {us : List S69} {rs : List S34} (h : wt13 rs ((us.length : Int) + rs.length) < 262144) : GramOK us rs := by
  obtain ⟨h1, h2⟩ := wt13_small rs _ (by omega) h
  exact ⟨by omega, by omega, h2⟩
set_option maxRecDepth 100000 in
set_option maxHeartbeats 4000000 in
theorem heavy13.calls (Au Ar : Option Addr) (cu cr : Nat) (us : List S69) (rs : List S34) (w : World) (hr : Kd.C k34 w Ar rs.length rs) (hf : GramFit us rs) :
    Calls Try.prog 33 #[.agg #[.slice Au us.length cu, .slice Ar rs.length cr]] w fun e w' => e = .returned (.bool (decide (262144 ≤ wt13 rs ((us.length : Int) + rs.length)))) ∧ Below w.heap.size w w' := by
  have HR := Lib.hid hr; clear hr
  obtain ⟨f1, f2, f3⟩ := hf
  have HF := Lib.hid f3; clear f3
  go_enter Try.func33, Try.ntmps33
  have g0 : wrap64 ((us.length : Int) + (rs.length : Int)) = (us.length : Int) + (rs.length : Int) := IntWalk.wrap64_in _ (by omega)
  go_wp2
  have HB : Hid (Below w.heap.size w (w.alloc (.cells #[.slice Au us.length cu, .slice Ar rs.length cr] 26)) ∧ Blk (w.alloc (.cells #[.slice Au us.length cu, .slice Ar rs.length cr] 26)) w.heap.size 26 [.slice Au us.length cu, .slice Ar rs.length cr]) :=
    ⟨(Below.refl _ w).alloc (Nat.le_refl _) _, Blk.alloc w _ _⟩
  generalize w.alloc (.cells #[.slice Au us.length cu, .slice Ar rs.length cr] 26) = wa at *
  go_loopg [3, 4] rs.length (fun q n i wr => ∃ (k : Nat) (m : Int), q + k = rs.length ∧ n = .int .i64 m ∧ i = .int .i64 k ∧ 0 ≤ m ∧ m < 2 ^ 50 ∧ Hid (wt13 (rs.drop k) m = wt13 rs ((us.length : Int) + rs.length)) ∧ Hid (Below w.heap.size w wr ∧ Blk wr w.heap.size 26 [.slice Au us.length cu, .slice Ar rs.length cr]))
  case atStart => exact ⟨0, (us.length : Int) + rs.length, by simp, rfl, rfl, by omega, by omega, rfl, HB⟩
  case round =>
    clear HB g0
    obtain ⟨k, m, hk, rfl, rfl, m0, m1, HM, HW⟩ := hrel
    have a1 : wr.cell? ⟨w.heap.size, 1, none⟩ = some (.slice Ar rs.length cr) := HW.out.2.cell 1
    by_cases hlt : k < rs.length
    · have e1 : rs.drop k = rl rs k :: rs.drop (k + 1) := by
        rw [List.drop_eq_getElem_cons hlt, rl, List.getD_eq_getElem?_getD, List.getElem?_eq_getElem hlt]; rfl
      have HX := Lib.hid (HF.out _ (rl_mem hlt))
      have HM' := Lib.hid (e1 ▸ HM.out)
      obtain ⟨ad, A1, c1, A2, c2, eA, e0, e1, e2, l1, g1, l2, g2⟩ := rule_at (Kd.C_below HR.out HW.out.1) k hlt
      subst eA
      clear l1 l2 g1 g2 e0 HM
      generalize rl rs k = x at *
      by_cases hm : m < 262144
      · have s2 : IntKind.i64.wrap ((x.f2.length : Int) + (x.f1.length : Int)) = (x.f2.length : Int) + (x.f1.length : Int) := IntWalk.i64_in _ (by have := HX.out; omega)
        have s3 : IntKind.i64.wrap (m + ((x.f2.length : Int) + (x.f1.length : Int))) = m + ((x.f2.length : Int) + (x.f1.length : Int)) := IntWalk.i64_in _ (by have := HX.out; omega)
        go_wp2
        go_quiet (fail)
        go_wp2
        go_roundg (rs.length - (k + 1))
        case measure => omega
        case rel =>
          clear s2 s3
          refine ⟨k + 1, m + ((x.f2.length : Int) + (x.f1.length : Int)), by omega, rfl, by go_num, by omega, by have := HX.out; omega, ?_, ⟨HW.out.1.trans (Below.mono (Below.drewQ ⟨_, rfl⟩) HW.out.1.size), HW.out.2.below (Below.drewQ ⟨_, rfl⟩) HW.out.2.lt⟩⟩
          have := HM'.out
          rw [wt13, if_pos hm] at this
          exact this
      · have hv : wt13 rs ((us.length : Int) + rs.length) = m := by
          have := HM'.out
          rw [wt13, if_neg hm] at this
          exact this.symm
        have HV := Lib.hid hv; clear hv
        go_wp2
        go_ret
        refine ⟨congrArg (fun b => Ending.returned (.bool b)) ?_, HW.out.1⟩
        (rw [HV.out]) <;> first | rfl | (rw [Bool.eq_iff_iff]; simp; omega)
    · have hv : wt13 rs ((us.length : Int) + rs.length) = m := by
        have := HM.out
        rw [List.drop_of_length_le (by omega), wt13] at this
        exact this.symm
      have HV := Lib.hid hv; clear hv
      go_wp2
      go_ret
      refine ⟨congrArg (fun b => Ending.returned (.bool b)) ?_, HW.out.1⟩
      (rw [HV.out]) <;> first | rfl | (rw [Bool.eq_iff_iff]; simp; omega)
def cp (xs : List S89) (i : Nat) : S89 := xs.getD i z89
theorem cap_at {w : World} {A : Option Addr} {xs : List S89} (h : Kd.C k89 w A xs.length xs) (k : Nat) (hk : k < xs.length) :
    ∃ ad, A = some ad ∧ w.cell? (ad.add (k * 4)) = some (.string (cp xs k).f0) ∧ w.cell? ⟨(ad.add (k * 4)).block, (ad.add (k * 4)).off + 1, none⟩ = some (.int .i64 (cp xs k).f1) ∧
      w.cell? ⟨(ad.add (k * 4)).block, (ad.add (k * 4)).off + 2, none⟩ = some (.int .i64 (cp xs k).f2) ∧ w.cell? ⟨(ad.add (k * 4)).block, (ad.add (k * 4)).off + 3, none⟩ = some (.int .i64 (cp xs k).f3) := by
  have := at_T89 h (k : Int) (by omega) (by omega)
  simpa only [Int.toNat_natCast, rd_T89, cp] using this
theorem eqA89 (d : Nat) (w : World) (x0 y0 : ByteArray) (x1 y1 x2 y2 x3 y3 : Int) :
    (Op.equalIn (d + 2) 89 (.agg #[.string x0, .int .i64 x1, .int .i64 x2, .int .i64 x3]) (.agg #[.string y0, .int .i64 y1, .int .i64 y2, .int .i64 y3])).run Try.prog w = .ok (x0.toList == y0.toList && (x1 == y1 && (x2 == y2 && (x3 == y3)))) w := by
  refine eqA_of Try.underlying89 (by kernel_rfl) ?_
  refine eqf_cons (by rfl) (by go_simp; rfl) (by go_simp; rfl) (by go_simp) ?_
  refine eqf_cons (by rfl) (by go_simp; rfl) (by go_simp; rfl) (by go_simp) ?_
  refine eqf_cons (by rfl) (by go_simp; rfl) (by go_simp; rfl) (by go_simp) ?_
  exact eqf_last (by rfl) (by go_simp; rfl) (by go_simp; rfl) (by go_simp)
attribute [local go_sem high] eqA89
set_option maxRecDepth 100000 in
set_option maxHeartbeats 4000000 in
theorem Captures.calls (A A1 : Option Addr) (c c1 : Nat) (xs : List S89) (w : World) (hx : Kd.C k89 w A xs.length xs) (hy : Kd.C k89 w A1 xs.length xs) (hn : xs.length ≤ 4000000) :
    Calls Try.prog 60 #[.slice A xs.length c, .slice A1 xs.length c1] w fun e w' => e = .returned (.bool true) ∧ ∃ q, w' = w.drewN q := by
  have HX := Lib.hid hx; clear hx
  have HY := Lib.hid hy; clear hy
  go_enter Try.func60, Try.ntmps60
  go_wp2
  go_loopg [5] xs.length (fun q v wr => ∃ k : Nat, q + k = xs.length ∧ v = .int .i64 k ∧ Hid (∃ q, wr = w.drewN q))
  case atStart => exact ⟨0, by simp, rfl, 0, rfl⟩
  case round =>
    obtain ⟨k, hk, rfl, HW⟩ := hrel
    obtain ⟨qw, hw⟩ := HW.out
    subst hw
    clear HW
    by_cases hlt : k < xs.length
    · obtain ⟨ad, eA, c0, c1, c2, c3⟩ := cap_at HX.out k hlt
      obtain ⟨ad', eA', d0, d1, d2, d3⟩ := cap_at HY.out k hlt
      subst eA
      subst eA'
      go_wp2
      go_quiet (fail)
      go_wp2
      go_roundg (xs.length - (k + 1))
      case measure => omega
      case rel => exact ⟨k + 1, by omega, by go_num, ⟨_, rfl⟩⟩
    · go_wp2
      go_ret
      exact ⟨rfl, qw, rfl⟩
set_option maxRecDepth 100000 in
set_option maxHeartbeats 4000000 in
theorem Outcomes.calls (A A1 : Option Addr) (c c1 : Nat) (kd en : Int) (lb : ByteArray) (xs : List S89) (w : World) (hx : Kd.C k89 w A xs.length xs) (hy : Kd.C k89 w A1 xs.length xs) (hn : xs.length ≤ 4000000) :
    Calls Try.prog 37 #[.agg #[.int .i64 kd, .int .i64 en, .string lb, .slice A xs.length c], .agg #[.int .i64 kd, .int .i64 en, .string lb, .slice A1 xs.length c1]] w fun e w' => e = .returned (.bool true) ∧ Below w.heap.size w w' := by
  have HX := Lib.hid hx; clear hx
  have HY := Lib.hid hy; clear hy
  go_enter Try.func37, Try.ntmps37
  go_wp2_with (fail)
  have HB : Hid (Below w.heap.size w ((w.alloc (.cells #[.int .i64 kd, .int .i64 en, .string lb, .slice A xs.length c] 58)).alloc (.cells #[.int .i64 kd, .int .i64 en, .string lb, .slice A1 xs.length c1] 58))) :=
    ((Below.refl _ w).alloc (Nat.le_refl _) _).alloc (by simp) _
  refine (Captures.calls A A1 c c1 xs _ (Kd.C_below HX.out HB.out) (Kd.C_below HY.out HB.out) hn).mono ?_
  rintro e w1 ⟨rfl, hq⟩
  have HB1 : Hid (Below w.heap.size w w1) := HB.out.trans ((Below.drewQ hq).mono HB.out.size)
  clear hq HB
  dsimp only
  go_wp2
  go_ret
  exact ⟨rfl, HB1.out⟩
end Go.Proofs.Ytmikgaphknbcaaa.B
/- What steps derive: a step's forest, and how many trees it has. -/
namespace Go.Proofs.Ytmikgaphknbcaaa.B
open Go Go.Proofs.Ytmikgaphknbcaaa.F

/-- The node that a step is of. -/
def nodeOf (rs : List S34) (s : S79) : S47 := nd (rl rs s.f0.toNat).f2 s.f1.toNat
def flatF (l : List (List S89 × Nat)) : List S89 := l.flatMap (·.1)
def totF (l : List (List S89 × Nat)) : Nat := (l.map (·.2)).sum
def fo (rs : List S34) (xs : List S79) : Nat → Nat → List S89 × Nat
  | 0, _ => ([], 0)
  | m + 1, i =>
    if (st xs i).f3 ≠ 1 then ([], 0)
    else if (nodeOf rs (st xs i)).f0 = 12 ∨ (nodeOf rs (st xs i)).f0 = 13 then ([], 0)
    else if (nodeOf rs (st xs i)).f0 = 14 then
      (⟨(nodeOf rs (st xs i)).f2, (st xs i).f2, (st xs i).f4, totF ((kidsOf (kk xs) i).map (fo rs xs m))⟩ :: flatF ((kidsOf (kk xs) i).map (fo rs xs m)), 1)
    else (flatF ((kidsOf (kk xs) i).map (fo rs xs m)), totF ((kidsOf (kk xs) i).map (fo rs xs m)))
/-- The kids' forests, of the first d. -/
def foTo (rs : List S34) (xs : List S79) (m i d : Nat) : List (List S89 × Nat) := (kidsFrom (kk xs) d (i + 1)).map (fo rs xs m)
theorem foTo_succ (rs : List S34) (xs : List S79) (m i d : Nat) : foTo rs xs m i (d + 1) = foTo rs xs m i d ++ [fo rs xs m (nextKid (kk xs) i d)] := by
  rw [foTo, kids_snoc, List.map_append]; rfl
theorem flatF_snoc (l : List (List S89 × Nat)) (x : List S89 × Nat) : flatF (l ++ [x]) = flatF l ++ x.1 := by simp [flatF]
theorem totF_snoc (l : List (List S89 × Nat)) (x : List S89 × Nat) : totF (l ++ [x]) = totF l + x.2 := by simp [totF]
theorem st_out {xs : List S79} {i : Nat} (h : xs.length ≤ i) : st xs i = z79 := by rw [st, List.getD_eq_getElem?_getD, List.getElem?_eq_none h]; rfl
/-- No more trees, and no more captures, than steps. -/
theorem fo_le (rs : List S34) (xs : List S79) : ∀ (m i : Nat), (fo rs xs m i).2 ≤ en (kk xs) i - i ∧ (fo rs xs m i).1.length ≤ en (kk xs) i - i
  | 0, i => ⟨Nat.zero_le _, Nat.zero_le _⟩
  | m + 1, i => by
    by_cases hi : i < xs.length
    · have hk : i < (kk xs).length := by rw [kk_length]; exact hi
      have H : ∀ d p, totF ((kidsFrom (kk xs) d p).map (fo rs xs m)) ≤ sk ((kk xs).drop p) d ∧ (flatF ((kidsFrom (kk xs) d p).map (fo rs xs m))).length ≤ sk ((kk xs).drop p) d := by
        intro d
        induction d with
        | zero => intro p; exact ⟨Nat.zero_le _, Nat.zero_le _⟩
        | succ d ih =>
          intro p
          have h1 := fo_le rs xs m p
          have h2 := ih (en (kk xs) p)
          rw [kidsFrom, List.map_cons, show d + 1 = 1 + d by omega, sk_add, List.drop_drop, ← en]
          simp only [totF, flatF, List.map_cons, List.sum_cons, List.flatMap_cons, List.length_append] at h2 ⊢
          have h3 : en (kk xs) p - p = sk ((kk xs).drop p) 1 := by rw [en]; omega
          omega
      have h0 := H ((kk xs).getD i 0).toNat (i + 1)
      have he := en_step hk
      rw [fo]
      split
      · exact ⟨Nat.zero_le _, Nat.zero_le _⟩
      · split
        · exact ⟨Nat.zero_le _, Nat.zero_le _⟩
        · split
          · simp only [kidsOf, List.length_cons]
            omega
          · simp only [kidsOf]
            omega
    · rw [fo, st_out (by omega), if_pos (by decide)]
      exact ⟨Nat.zero_le _, Nat.zero_le _⟩
theorem nextKid_zero (ks : List Int) (i : Nat) : nextKid ks i 0 = i + 1 := by rw [nextKid, sk_zero]
theorem nextKid_mono (ks : List Int) (i d e : Nat) : nextKid ks i d ≤ nextKid ks i (d + e) := by
  rw [nextKid, nextKid, sk_add]
  omega
/-- Another kid comes just where the subtree goes on. -/
theorem nextKid_iff {ks : List Int} (h : way ks 1 = true) {i d : Nat} (hi : i < ks.length) (hd : d ≤ (ks.getD i 0).toNat) : nextKid ks i d < en ks i ↔ d < (ks.getD i 0).toNat := by
  rw [← nextKid_all hi]
  constructor
  · intro h1
    by_cases h2 : d < (ks.getD i 0).toNat
    · exact h2
    · rw [show d = (ks.getD i 0).toNat by omega] at h1
      omega
  · intro h1
    have h2 := nextKid_lt h hi h1
    have h3 := en_gt h2
    rw [nextKid_succ] at h3
    have h4 := nextKid_mono ks i (d + 1) ((ks.getD i 0).toNat - (d + 1))
    rw [show d + 1 + ((ks.getD i 0).toNat - (d + 1)) = (ks.getD i 0).toNat by omega] at h4
    omega
theorem endsOf_get {ks : List Int} {i : Nat} (h : i < ks.length) : (endsOf ks)[i]? = some (en ks i : Int) := by rw [endsOf, List.getElem?_map, List.getElem?_range h]; rfl
/-- In one tree of nodes every node has an extent. -/
theorem ext_all {l : List Int} (hl : ∀ j : Nat, j < l.length → l.getD j 0 ≤ j) : ∀ (n : Nat) (e : Int), e ≤ l.length → 0 ≤ ext l n e →
    (∀ j : Nat, j < e → 0 ≤ l.getD j 0 → ∀ x : Nat, l.getD j 0 ≤ x → x ≤ j → 0 ≤ l.getD x 0) → ∀ x : Nat, ext l n e ≤ x → (x : Int) < e → 0 ≤ l.getD x 0
  | 0, e, _, h, _, x, h1, h2 => by simp only [ext] at h1; omega
  | n + 1, e, he, h, ih, x, h1, h2 => by
    obtain ⟨a1, a2, a3⟩ := ext_pos h
    have e1 : ext l (n + 1) e = ext l n (l.getD (e - 1).toNat 0) := by simp only [ext]; rw [if_pos ⟨a1, a2⟩]
    rw [e1] at h1
    have hle := hl (e - 1).toNat (by omega)
    by_cases hx : (x : Int) < l.getD (e - 1).toNat 0
    · exact ext_all hl n _ (by omega) a3 (fun j hj => ih j (by omega)) x h1 hx
    · exact ih (e - 1).toNat (by omega) a2 x (by omega) (by omega)
theorem begs_all (xs : List S47) : ∀ (i : Nat), i < xs.length → 0 ≤ (begs xs).getD i 0 → ∀ x : Nat, (begs xs).getD i 0 ≤ x → x ≤ i → 0 ≤ (begs xs).getD x 0 := by
  intro i
  induction i using Nat.strongRecOn with
  | _ i ih =>
    intro hi h x h1 h2
    by_cases hx : x = i
    · rw [hx]; exact h
    · obtain ⟨_, _, h5⟩ := begs_parts xs i hi h
      have hl := begs_inR xs
      refine ext_all (fun j hj => (hl j hj).2) (nd xs i).f1.toNat i (by rw [begs_length]; omega) (by rw [h5]; exact h) (fun j hj hj0 y hy1 hy2 => ih j (by omega) (by omega) hj0 y hy1 hy2) x (by rw [h5]; exact h1) (by omega)
/-- In one tree of nodes no node has more parts than nodes stand ahead. -/
theorem tree_parts {xs : List S47} (h : isTree xs = true) {i : Nat} (hi : i < xs.length) : (nd xs i).f1 ≤ i := by
  rw [isTree, decide_eq_true_iff] at h
  have := begs_all xs (xs.length - 1) (by omega) (by omega) i (by omega) (by omega)
  exact (begs_parts xs i hi this).2.1
end Go.Proofs.Ytmikgaphknbcaaa.B
/- Rows of captures: what forest and grown are handed, and what they keep. -/
namespace Go.Proofs.Ytmikgaphknbcaaa.B
open Go Go.RowKit Go.X Go.Proofs.YtmikgaphknbcaaaW.PrintWords Go.Proofs.Ytmikgaphknbcaaa.F

def capCells (x : S89) : List Value := [.string x.f0, .int .i64 x.f1, .int .i64 x.f2, .int .i64 x.f3]
def capsOf (L : List S89) : List Value := L.flatMap capCells
theorem capsOf_length (L : List S89) : (capsOf L).length = L.length * 4 := by
  induction L with
  | nil => rfl
  | cons x L ih => rw [capsOf, List.flatMap_cons, List.length_append, ← capsOf, ih, List.length_cons]; simp [capCells]; omega
/-- What forest and grown are handed. -/
structure FG (w1 : World) (Ar Ap : Option Addr) (g : Nat) (rs : List S34) (xs : List S79) : Prop where
  hr : Kd.C k34 w1 Ar rs.length rs
  hx : Kd.C k79 w1 Ap xs.length xs
  he : Blk w1 g 3 (nums .i64 (endsOf (kk xs)))
  tr : way (kk xs) 1 = true
  rng : ∀ i, i < xs.length → 0 ≤ (st xs i).f0 ∧ (st xs i).f0 < rs.length ∧ 0 ≤ (st xs i).f1 ∧ (st xs i).f1 < ((rl rs (st xs i).f0.toNat).f2.length : Int)
  few : ∀ x ∈ rs, ∀ i, i < x.f2.length → (nd x.f2 i).f1 ≤ 1048576
  n : xs.length ≤ 16384
/-- A row of captures that the call goes on with: what else is kept. -/
structure FR (w wr : World) (B : Nat) (v vr : Value) (L : List S89) : Prop where
  own : wr.ownsRow B 89 4 vr L.length (capsOf L)
  grown : w.grownBy wr v.ownBlock
  place : vr.ownBlock = v.ownBlock ∨ ∀ b, vr.ownBlock = some b → w.heap.size ≤ b
theorem grown_refl (w : World) (r : Option Nat) : w.grownBy w r := ⟨rfl, rfl, rfl, Nat.le_refl _, fun _ _ _ => rfl⟩
theorem grown_below {w w' : World} (h : Below w.heap.size w w') (r : Option Nat) : w.grownBy w' r := ⟨h.os, h.tape, h.output, h.size, fun k hk _ => h.block k hk⟩
theorem grown_trans {w w' w'' : World} {r r' : Option Nat} (h : w.grownBy w' r) (h' : w'.grownBy w'' r') (hr : ∀ k, r' = some k → r = some k ∨ w.heap.size ≤ k) : w.grownBy w'' r :=
  ⟨h'.os.trans h.os, h'.tape.trans h.tape, h'.output.trans h.output, Nat.le_trans h.size h'.size, fun k hk hne => (h'.block k (Nat.lt_of_lt_of_le hk h.size) (fun e => (hr k e.symm).elim (fun e2 => hne e2.symm) (fun h2 => by omega))).trans (h.block k hk hne)⟩
theorem FR.refl {w : World} {B : Nat} {v : Value} {L : List S89} (h : w.ownsRow B 89 4 v L.length (capsOf L)) : FR w w B v v L := ⟨h, grown_refl _ _, .inl rfl⟩
theorem FR.below {w wr w' : World} {B : Nat} {v vr : Value} {L : List S89} (h : FR w wr B v vr L) (hb : Below wr.heap.size wr w') : FR w w' B v vr L :=
  ⟨h.own.kept (grown_below hb none) (by cases hv : vr.ownBlock <;> simp), grown_trans h.grown (grown_below hb none) (by simp), h.place⟩
theorem FR.step {w wr w' : World} {B : Nat} {v vr v' : Value} {L L' : List S89} (h : FR w wr B v vr L) (h' : FR wr w' B vr v' L') : FR w w' B v v' L' := by
  refine ⟨h'.own, grown_trans h.grown h'.grown (fun k hk => ?_), ?_⟩
  · rcases h.place with e | e
    · exact .inl (e ▸ hk)
    · exact .inr (e k hk)
  · rcases h'.place with e | e
    · rw [e]
      exact h.place
    · exact .inr fun b hb => Nat.le_trans h.grown.size (e b hb)
theorem FR.blk {w wr : World} {B b : Nat} {v vr : Value} {L : List S89} {t : TypeId} {cs : List Value} (h : FR w wr B v vr L) (hw : w.ownsRow B 89 4 v L.length (capsOf L) ∨ ∃ n xs, w.ownsRow B 89 4 v n xs) (hb : Blk w b t cs) (ht : t ≠ 89) : Blk wr b t cs := by
  refine hb.grown h.grown fun e => ?_
  have key : ∀ n xs, w.ownsRow B 89 4 v n xs → False := fun n xs ho => by
    rcases ho.2 with ⟨rfl, _⟩ | ⟨g, cap, cur, rfl, _, hg, _⟩
    · simp [Value.ownBlock] at e
    · simp only [Value.ownBlock, Option.some.injEq] at e
      subst e
      have : w.heap[b]? = _ := hb
      rw [this] at hg
      simp at hg
      exact ht hg.2
  rcases hw with ho | ⟨n, xs, ho⟩
  · exact key _ _ ho
  · exact key n xs ho
theorem FR.bel {w1 w wr : World} {v vr : Value} {L : List S89} (h : FR w wr w1.heap.size v vr L) (hb : Below w1.heap.size w1 w) (hv : ∃ n xs, w.ownsRow w1.heap.size 89 4 v n xs) : Below w1.heap.size w1 wr := by
  obtain ⟨n, xs, ho⟩ := hv
  exact hb.grown h.grown hb.size fun k hk => (ho.lt k hk).1
theorem foTo_le (rs : List S34) (xs : List S79) (m i : Nat) : ∀ d, totF (foTo rs xs m i d) ≤ sk ((kk xs).drop (i + 1)) d ∧ (flatF (foTo rs xs m i d)).length ≤ sk ((kk xs).drop (i + 1)) d
  | 0 => ⟨Nat.zero_le _, Nat.zero_le _⟩
  | d + 1 => by
    have h1 := foTo_le rs xs m i d
    have h2 := fo_le rs xs m (nextKid (kk xs) i d)
    have h3 : en (kk xs) (nextKid (kk xs) i d) - nextKid (kk xs) i d = sk (((kk xs).drop (i + 1)).drop (sk ((kk xs).drop (i + 1)) d)) 1 := by
      rw [en, List.drop_drop, ← nextKid]; omega
    rw [foTo_succ, totF_snoc, flatF_snoc, List.length_append, sk_add]
    omega
/-- The numbers at a kid. -/
theorem kid_num {rs : List S34} {xs : List S79} {m i d : Nat} (tr : way (kk xs) 1 = true) (hi : i < xs.length) (hd : d < ((kk xs).getD i 0).toNat) (hn : xs.length ≤ 16384) {L L0 : Nat} (hL : L + (en (kk xs) i - i) ≤ 1000000) (hL0 : L0 ≤ L + 1) (hm : xs.length - i ≤ m + 1) :
    nextKid (kk xs) i d < xs.length ∧ nextKid (kk xs) i d < en (kk xs) i ∧ L0 + (flatF (foTo rs xs m i d)).length + (en (kk xs) (nextKid (kk xs) i d) - nextKid (kk xs) i d) ≤ 1000000 ∧ totF (foTo rs xs m i d) + (fo rs xs m (nextKid (kk xs) i d)).2 ≤ 16384 ∧ xs.length - nextKid (kk xs) i d ≤ m := by
  have hil : i < (kk xs).length := by rw [kk_length]; exact hi
  have h1 := nextKid_lt tr hil hd
  have h2 := (nextKid_iff tr hil (d := d) (by omega)).2 hd
  have h3 := foTo_le rs xs m i d
  have h4 := fo_le rs xs m (nextKid (kk xs) i d)
  have h5 := nextKid_mono (kk xs) i (d + 1) (((kk xs).getD i 0).toNat - (d + 1))
  rw [show d + 1 + (((kk xs).getD i 0).toNat - (d + 1)) = ((kk xs).getD i 0).toNat by omega, nextKid_all hil, ← nextKid_succ] at h5
  have h6 : nextKid (kk xs) i d = i + 1 + sk ((kk xs).drop (i + 1)) d := rfl
  have h7 := en_le (ks := kk xs) (i := i) (by omega)
  have h8 := en_gt h1
  rw [kk_length] at h1 h7
  refine ⟨h1, h2, by omega, by omega, by omega⟩
theorem int_add2 {a b : Nat} (h : a + b ≤ 16384) : wrap64 ((a : Int) + (b : Int)) = ((a + b : Nat) : Int) := by rw [IntWalk.wrap64_in _ (by omega)]; rfl
theorem caps_app (L M : List S89) : capsOf (L ++ M) = capsOf L ++ capsOf M := by simp [capsOf]
theorem caps_snoc (L M : List S89) (c : S89) : capsOf (L ++ [c] ++ M) = capsOf (L ++ (c :: M)) := by rw [List.append_assoc]; rfl
theorem caps_set (L M : List S89) (a : ByteArray) (b c d t : Int) : (capsOf (L ++ (⟨a, b, c, d⟩ :: M))).set (L.length * 4 + 3) (.int .i64 t) = capsOf (L ++ (⟨a, b, c, t⟩ :: M)) := by
  rw [caps_app, caps_app, List.set_append_right _ _ (by rw [capsOf_length]; omega), capsOf_length, Nat.add_sub_cancel_left]
  rfl
/-- How many trees a capture has is written into it. -/
theorem FR.store {w wr : World} {B g cap n : Nat} {v : Value} {L M : List S89} {a : ByteArray} {b c d t : Int} (h : FR w wr B v (.slice (some ⟨g, 0, none⟩) (n + 1) cap) (L ++ [⟨a, b, c, d⟩] ++ M))
    (hs : (wr.setCell ⟨g, L.length * 4 + 3, none⟩ (.int .i64 t)).ownsRow B 89 4 (.slice (some ⟨g, 0, none⟩) (n + 1) cap) (n + 1) ((capsOf (L ++ [⟨a, b, c, d⟩] ++ M)).set (L.length * 4 + 3) (.int .i64 t)) ∧ wr.grownBy (wr.setCell ⟨g, L.length * 4 + 3, none⟩ (.int .i64 t)) (some g)) :
    FR w (wr.setCell ⟨g, L.length * 4 + 3, none⟩ (.int .i64 t)) B v (.slice (some ⟨g, 0, none⟩) (n + 1) cap) (L ++ (⟨a, b, c, t⟩ :: M)) := by
  have h1 := hs.1
  rw [caps_snoc, caps_set] at h1
  have hl : (L ++ (⟨a, b, c, t⟩ :: M)).length = n + 1 := by
    have := h1.1
    rw [capsOf_length] at this
    omega
  refine ⟨by rw [hl]; exact h1, grown_trans h.grown hs.2 (fun k hk => ?_), h.place⟩
  obtain rfl : g = k := by injection hk
  rcases h.place with e | e
  · exact .inl (by rw [← e]; rfl)
  · exact .inr (e g rfl)
/-- A capture is put behind the row. -/
theorem FR.append {w wr w' : World} {B : Nat} {v vr v' : Value} {L : List S89} {c : S89} (h : FR w wr B v vr L) (hown : w'.ownsRow B 89 4 v' (L.length + 1) (capsOf L ++ capCells c)) (ha : Appended (wr.alloc (.cells (capCells c).toArray 89)) w' 89 4 vr v' L.length) : FR w w' B v v' (L ++ [c]) := by
  have hg : wr.grownBy (wr.alloc (.cells (capCells c).toArray 89)) none := World.grownBy_alloc _ _ none
  have g1 : w.grownBy (wr.alloc (.cells (capCells c).toArray 89)) v.ownBlock := grown_trans h.grown hg (by simp)
  refine ⟨by rw [List.length_append, caps_app]; simpa [capsOf] using hown, grown_trans g1 ha.grown (fun k hk => ?_), ?_⟩
  · rcases h.place with e | e
    · exact .inl (e ▸ hk)
    · exact .inr (e k hk)
  · rcases ha.place with e | ⟨e, _⟩
    · rw [e]; exact h.place
    · refine .inr fun b hb => ?_
      rw [e] at hb
      have := h.grown.size
      injection hb with hb
      simp at hb
      omega
theorem info89 : (Try.prog.info? 89).map (fun i => (i.zero, i.size, i.bytes)) = some (some (.agg #[.string ⟨#[]⟩, .int .i64 0, .int .i64 0, .int .i64 0]), 4, 40) := by kernel_rfl
theorem own_ne89 {w : World} {base n b : Nat} {t : TypeId} {v : Value} {xs cs : List Value} (h : w.ownsRow base 89 4 v n xs) (hb : Blk w b t cs) (ht : t ≠ 89) : v.ownBlock ≠ some b := by
  intro e
  rcases h.2 with ⟨rfl, _⟩ | ⟨g, cap, cur, rfl, _, hg, _⟩
  · simp [Value.ownBlock] at e
  · simp only [Value.ownBlock, Option.some.injEq] at e
    subst e
    have : w.heap[g]? = _ := hb
    rw [this] at hg
    simp at hg
    exact ht hg.2
theorem made_cell (w : World) {n : Nat} (h : 1 ≤ n) : (w.alloc (.cells (madeCells #[.int .i64 0] n) 3)).cell? ⟨w.heap.size, 0, none⟩ = some (.int .i64 0) := by
  have := (Blk.alloc w (madeCells #[.int .i64 0] n) 3).cell 0
  rw [this, toList_madeCells_one, List.getElem?_replicate, if_pos (by omega)]
end Go.Proofs.Ytmikgaphknbcaaa.B
