/- script.parts, script.Parts, dowelref06.parts, dowelref06.Parts: the parts of a node, by one plain function. -/
import Derived.Test.YtmikgaphknbcaaaSBeginsR
namespace Go.Proofs.Ytmikgaphknbcaaa.B
open Go Go.RowKit Go.X Go.Proofs.YtmikgaphknbcaaaW.PrintWords Go.Proofs.Ytmikgaphknbcaaa.F

/-- n extents back from b: the last nodes of the parts. -/
def backs (l : List Int) : Nat → Int → List Int
  | 0, _ => []
  | n + 1, b => backs l n (l.getD (b - 1).toNat 0) ++ [b - 1]
def partsOf (xs : List S47) (i : Int) : List Int :=
  if 0 ≤ i ∧ i < xs.length ∧ 0 ≤ (begs xs).getD i.toNat 0 then backs (begs xs) (nd xs i.toNat).f1.toNat i else []

theorem backs_length (l : List Int) : ∀ (n : Nat) (b : Int), (backs l n b).length = n
  | 0, _ => rfl
  | n + 1, b => by rw [backs, List.length_append, backs_length l n]; rfl
theorem begs_get (xs : List S47) (m j : Nat) (hj : j < m) (hm : m ≤ xs.length) : (begsTo xs m).getD j 0 = (begs xs).getD j 0 := by
  have := begsTo_take xs xs.length m hm
  rw [List.getD_eq_getElem?_getD, List.getD_eq_getElem?_getD, ← this, List.getElem?_take, if_pos hj]
  rfl
theorem begs_at (xs : List S47) (i : Nat) (hi : i < xs.length) : (begs xs).getD i 0 = beg1 (begsTo xs i) i (nd xs i).f1 := by
  rw [← begs_get xs (i + 1) i (by omega) (by omega), begsTo, List.getD_eq_getElem?_getD, List.getElem?_append_right (by rw [begsTo_length]; exact Nat.le_refl i), begsTo_length]
  simp
theorem ext_same (l l' : List Int) (hl : InR l) : ∀ (n : Nat) (b : Int), 0 ≤ b → b ≤ l.length → (∀ j : Nat, (j : Int) < b → l.getD j 0 = l'.getD j 0) → ext l n b = ext l' n b
  | 0, _, _, _, _ => rfl
  | n + 1, b, h0, h1, h => by
    simp only [ext]
    by_cases hb : 0 < b
    · have e := h (b - 1).toNat (by omega)
      rw [← e]
      have hr := hl (b - 1).toNat (by omega)
      by_cases hv : 0 ≤ l.getD (b - 1).toNat 0
      · rw [if_pos ⟨hb, hv⟩, if_pos ⟨hb, hv⟩]
        exact ext_same l l' hl n _ hv (by omega) (fun j hj => h j (by omega))
      · rw [if_neg (fun x => hv x.2), if_neg (fun x => hv x.2)]
    · rw [if_neg (fun x => hb x.1), if_neg (fun x => hb x.1)]
theorem begs_inR (xs : List S47) : InR (begs xs) := begsTo_inR xs _
theorem begs_length (xs : List S47) : (begs xs).length = xs.length := begsTo_length xs _
/-- A node with an extent has no more parts than nodes ahead; they lie in a row. -/
theorem begs_parts (xs : List S47) (i : Nat) (hi : i < xs.length) (h : 0 ≤ (begs xs).getD i 0) : 0 ≤ (nd xs i).f1 ∧ (nd xs i).f1 ≤ i ∧ ext (begs xs) (nd xs i).f1.toNat i = (begs xs).getD i 0 := by
  have hb := begs_at xs i hi
  have hl := begsTo_inR xs i
  have hlen := begsTo_length xs i
  by_cases hN : (nd xs i).f1 < 0
  · rw [hb, beg1, if_pos hN] at h; omega
  · rw [beg1, if_neg hN] at hb
    by_cases hN2 : (nd xs i).f1 ≤ i
    · refine ⟨by omega, hN2, ?_⟩
      rw [hb]
      exact (ext_same (begsTo xs i) (begs xs) hl _ _ (by omega) (by omega) (fun j hj => begs_get xs i j (by omega) (by omega))).symm
    · rw [hb, ext_many _ hl _ _ (by omega) (by omega) (by omega)] at h; omega
theorem ext_pos {l : List Int} {n : Nat} {b : Int} (h : 0 ≤ ext l (n + 1) b) : 0 < b ∧ 0 ≤ l.getD (b - 1).toNat 0 ∧ 0 ≤ ext l n (l.getD (b - 1).toNat 0) := by
  simp only [ext] at h
  split at h
  · rename_i hh; exact ⟨hh.1, hh.2, h⟩
  · omega

/-- The loop that fills the list from behind: k + 1 places are open, at b. -/
structure AtP (xs : List S47) (i n : Nat) (out : List Int) (b : Int) (k : Nat) : Prop where
  le : b ≤ i
  tail : ∃ t, out = List.replicate k 0 ++ t ∧ backs (begs xs) k b ++ t = backs (begs xs) n i
  pos : 0 ≤ ext (begs xs) k b
theorem AtP.length {xs : List S47} {i n : Nat} {out : List Int} {b : Int} {k : Nat} (h : AtP xs i n out b k) : out.length = n ∧ k ≤ n := by
  obtain ⟨t, h1, h2⟩ := h.tail
  have := congrArg List.length h2
  rw [List.length_append, backs_length, backs_length] at this
  rw [h1, List.length_append, List.length_replicate]
  omega
theorem AtP.begin {xs : List S47} {i : Nat} (hi : i < xs.length) (h : 0 ≤ (begs xs).getD i 0) : AtP xs i (nd xs i).f1.toNat (List.replicate (nd xs i).f1.toNat 0) i (nd xs i).f1.toNat :=
  ⟨by omega, ⟨[], by simp, by simp⟩, by rw [(begs_parts xs i hi h).2.2]; exact h⟩
theorem AtP.step {xs : List S47} {i n : Nat} {out : List Int} {b : Int} {k : Nat} (h : AtP xs i n out b (k + 1)) (hi : i < xs.length) :
    0 < b ∧ AtP xs i n (out.set k (b - 1)) ((begs xs).getD (b - 1).toNat 0) k := by
  obtain ⟨hb, hv, he⟩ := ext_pos h.pos
  obtain ⟨t, h1, h2⟩ := h.tail
  have hr := begs_inR xs (b - 1).toNat (by rw [begs_length]; have := h.le; omega)
  refine ⟨hb, by have := h.le; omega, ⟨(b - 1) :: t, ?_, ?_⟩, he⟩
  · rw [h1, List.replicate_succ', List.append_assoc, List.set_append_right _ _ (by simp)]
    simp
  · rw [← h2, backs, List.append_assoc]
    rfl
theorem AtP.done {xs : List S47} {i n : Nat} {out : List Int} {b : Int} (h : AtP xs i n out b 0) : out = backs (begs xs) n i := by
  obtain ⟨t, h1, h2⟩ := h.tail
  simp at h1
  simp only [backs, List.nil_append] at h2
  rw [h1, h2]

def OwnI (w w' : World) (l : List Int) (e : Ending) : Prop :=
  ∃ v, e = .returned v ∧ w'.ownsRow w.heap.size 3 1 v l.length (nums .i64 l) ∧ Below w.heap.size w w'
theorem OwnI.nil (w : World) {w' : World} (h : Below w.heap.size w w') : OwnI w w' [] (.returned (.slice none 0 0)) := ⟨_, rfl, World.ownsRow_nil _ _ _ _, h⟩
theorem own_of_blk {w : World} {g base : Nat} {l : List Int} (h : Blk w g 3 (nums .i64 l)) (hb : base ≤ g) (hm : l.length ≤ maxLen) : w.ownsRow base 3 1 (.slice (some ⟨g, 0, none⟩) l.length l.length) l.length (nums .i64 l) := by
  refine ⟨by simp [nums_length], .inr ⟨g, l.length, _, rfl, hb, h, Nat.le_refl _, hm, by simp [nums_length], ?_⟩⟩
  rw [List.toList_toArray, List.take_of_length_le (by simp [nums_length])]
/-- An int of a list that is read. -/
theorem int_at {w : World} {A : Option Addr} {l : List Int} {n : Nat} (h : Kd.C (Kd.int .i64) w A n l) (k : Nat) (hk : k < n) : ∃ ad, A = some ad ∧ w.cell? (ad.add k) = some (.int .i64 (l.getD k 0)) := by
  have := Kd.at_int h (k : Int) (by omega) (by omega)
  simpa only [Int.toNat_natCast, rd] using this
theorem C_of_own {w : World} {base : Nat} {v : Value} {l : List Int} (h : w.ownsRow base 3 1 v l.length (nums .i64 l)) : ∃ A c, v = .slice A l.length c ∧ l.length ≤ c ∧ Kd.C (Kd.int .i64) w A l.length l := by
  have hR : (Kd.int .i64).R 3 w base (fun _ => True) v l := Kd.R_of_own h (fun _ _ => trivial)
  exact Kd.R_reads hR

set_option maxRecDepth 100000 in
set_option maxHeartbeats 4000000 in
theorem parts.calls (A A1 : Option Addr) (c c1 m : Nat) (xs : List S47) (i : Int) (w : World) (hr : Kd.C k47 w A xs.length xs) (hl : Kd.C (Kd.int .i64) w A1 m (begsTo xs m)) (hm : m ≤ xs.length) (him : 0 ≤ i → i < xs.length → i < m) (hn : xs.length ≤ 4000000) :
    Calls Try.prog 42 #[.slice A xs.length c, .slice A1 m c1, .int .i64 i] w fun e w' => OwnI w w' (partsOf xs i) e := by
  have HR := Lib.hid hr; clear hr
  have HL := Lib.hid hl; clear hl
  have hnil : ∀ w' : World, Below w.heap.size w w' → (¬ 0 ≤ i ∨ ¬ i < xs.length ∨ 0 ≤ i ∧ i < xs.length ∧ ((begs xs).getD i.toNat 0 < 0 ∨ (nd xs i.toNat).f1 = 0)) → OwnI w w' (partsOf xs i) (.returned (.slice none 0 0)) := by
    intro w' hb h
    have : partsOf xs i = [] := by
      unfold partsOf
      split
      · rename_i hh
        rcases h with h | h | ⟨_, _, h | h⟩
        · exact absurd hh.1 h
        · exact absurd hh.2.1 h
        · omega
        · rw [h]; rfl
      · rfl
    rw [this]
    exact OwnI.nil w hb
  have HNIL := Lib.hid hnil; clear hnil
  by_cases h0 : i < 0
  · go_enter Try.func42, Try.ntmps42
    go_wp2
    go_ret
    exact HNIL.out _ (Below.refl _ _) (.inl (by omega))
  obtain ⟨n, rfl⟩ : ∃ n : Nat, i = n := ⟨i.toNat, by omega⟩
  clear h0
  by_cases h1 : n < xs.length
  case neg =>
    have h1' : ¬ (n : Int) < xs.length := by omega
    have hb1 : decide (xs.length ≤ n) = true := by simp; omega
    go_enter Try.func42, Try.ntmps42
    go_wp2
    go_ret
    exact HNIL.out _ (Below.refl _ _) (.inr (.inl h1'))
  have hnm : n < m := by have := him (by omega) (by omega); omega
  obtain ⟨a1, eA1, d1⟩ := int_at HL.out n hnm
  subst eA1
  rw [begs_get xs m n hnm hm] at d1
  obtain ⟨ad, eA, -, e1, -⟩ := node_at HR.out n h1
  subst eA
  by_cases h2 : (begs xs).getD n 0 < 0
  · have HV : Hid ((begs xs).getD n 0 < 0) := h2
    generalize (begs xs).getD n 0 = v at d1 h2
    go_enter Try.func42, Try.ntmps42
    go_wp2
    go_ret
    exact HNIL.out _ (Below.refl _ _) (.inr (.inr ⟨by omega, by omega, .inl HV.out⟩))
  have hpt := begs_parts xs n h1 (by omega)
  have HB : Hid (AtP xs n (nd xs n).f1.toNat (List.replicate (nd xs n).f1.toNat 0) n (nd xs n).f1.toNat) := AtP.begin h1 (by omega)
  have HP : Hid (partsOf xs n = backs (begs xs) (nd xs n).f1.toNat n) := by show _ = _; unfold partsOf; rw [if_pos ⟨by omega, by omega, by rw [Int.toNat_natCast]; omega⟩, Int.toNat_natCast]
  obtain ⟨p1, p2, -⟩ := hpt
  generalize (begs xs).getD n 0 = v at d1 h2
  have HNN : Hid ((nd xs n).f1 = 0 → partsOf xs n = []) := by intro h; rw [HP.out, h]; rfl
  generalize hNq : (nd xs n).f1 = N at *
  obtain ⟨q, rfl⟩ : ∃ q : Nat, N = q := ⟨N.toNat, by omega⟩
  clear hNq
  rw [Int.toNat_natCast] at HB HP
  by_cases hz : (q : Int) = 0
  · have hz1 : ((q : Int) == 0) = true := by simpa using hz
    have HZ := Lib.hid hz; clear hz
    go_enter Try.func42, Try.ntmps42
    go_wp2
    go_ret
    rw [HNN.out HZ.out]
    exact OwnI.nil w (Below.refl _ _)
  have hz1 : ((q : Int) == 0) = false := by simpa using hz
  clear hz
  go_enter Try.func42, Try.ntmps42
  go_wp2_with (first
    | (at_make; refine X.make rfl _ _ 36 rfl 3 (.int .i64 0) 1 8 Try.underlying36 info3 .i64 .i64 _ _ q rfl rfl rfl rfl (by omega) (by simp only [maxLen]; omega) ?_; intro w1 hb1 hg1; have HB1 := Lib.hid hb1; clear hb1; have HG1 := Lib.hid hg1; clear hg1)
    | fail)
  have HI : Hid (Blk w1 w.heap.size 3 (nums .i64 (List.replicate q 0)) ∧ Below w.heap.size w w1) := ⟨by have := HB1.out; rwa [made_ints] at this, (Below.refl _ _).grown HG1.out (Nat.le_refl _) (by simp)⟩
  clear HB1 HG1
  go_loopg [8, 9] q (fun k v8 v9 wr => ∃ (b : Int) (out : List Int), v8 = .int .i64 b ∧ v9 = .int .i64 ((k : Int) - 1) ∧ k ≤ q ∧ Hid (AtP xs n q out b k) ∧ Hid (Blk wr w.heap.size 3 (nums .i64 out) ∧ Below w.heap.size w wr))
  case atStart => exact ⟨n, _, rfl, by simp, Nat.le_refl _, HB, HI⟩
  clear HB HI d1 e1
  case round =>
    obtain ⟨b, out, rfl, rfl, hkq, HA, HI⟩ := hrel
    cases gk with
    | zero =>
      go_wp2
      go_ret
      have hd := HA.out.done
      have hlen := HA.out.length.1
      refine ⟨.slice (some ⟨w.heap.size, 0, none⟩) q q, rfl, ?_, HI.out.2⟩
      rw [HP.out, ← hd]
      have ho := own_of_blk HI.out.1 (Nat.le_refl _) (by simp only [maxLen]; omega)
      rwa [hlen] at ho ⊢
    | succ k =>
      obtain ⟨hb, hst⟩ := HA.out.step h1
      have hlen := HA.out.length.1
      have hble := HA.out.le
      obtain ⟨bm, rfl⟩ : ∃ bm : Nat, b = bm + 1 := ⟨(b - 1).toNat, by omega⟩
      rw [show ((bm : Int) + 1 - 1).toNat = bm by omega, show ((bm : Int) + 1 - 1) = bm by omega] at hst
      have HST := Lib.hid hst; clear hst HA
      have hgl := HI.out.1.cell k
      rw [List.getElem?_eq_getElem (by rw [nums, List.length_map]; omega)] at hgl
      generalize (nums .i64 out)[k]'(by rw [nums, List.length_map]; omega) = old at hgl
      have hfz := HI.out.1.frozen k
      have HJ : Hid (Blk (wr.setCell ⟨w.heap.size, k, none⟩ (.int .i64 bm)) w.heap.size 3 (nums .i64 (out.set k bm)) ∧ Below w.heap.size w (wr.setCell ⟨w.heap.size, k, none⟩ (.int .i64 bm))) := by
        refine ⟨?_, HI.out.2.setCell (Nat.le_refl _) _⟩
        have := HI.out.1.setCell k (.int .i64 bm)
        rwa [nums, ← List.map_set] at this
      clear HI
      obtain ⟨a1', eA1, d1⟩ := int_at (Kd.C_below HL.out HJ.out.2) bm (by omega)
      obtain rfl : a1 = a1' := Option.some.inj eA1
      clear eA1 hlen
      rw [begs_get xs m bm (by omega) hm] at d1
      have HST' := HST
      generalize (begs xs).getD bm 0 = v at d1 HST'
      clear HST
      go_wp2
      go_roundg k
      case measure => omega
      case rel => exact ⟨v, out.set k bm, rfl, by simp; try omega, by omega, HST', HJ⟩

set_option maxRecDepth 100000 in
set_option maxHeartbeats 4000000 in
theorem partsR.calls (A A1 : Option Addr) (c c1 m : Nat) (xs : List S47) (i : Int) (w : World) (hr : Kd.C k47 w A xs.length xs) (hl : Kd.C (Kd.int .i64) w A1 m (begsTo xs m)) (hm : m ≤ xs.length) (him : 0 ≤ i → i < xs.length → i < m) (hn : xs.length ≤ 4000000) :
    Calls Try.prog 44 #[.slice A xs.length c, .slice A1 m c1, .int .i64 i] w fun e w' => OwnI w w' (partsOf xs i) e := by
  have HR := Lib.hid hr; clear hr
  have HL := Lib.hid hl; clear hl
  have hnil : ∀ w' : World, Below w.heap.size w w' → (¬ 0 ≤ i ∨ ¬ i < xs.length ∨ 0 ≤ i ∧ i < xs.length ∧ ((begs xs).getD i.toNat 0 < 0 ∨ (nd xs i.toNat).f1 = 0)) → OwnI w w' (partsOf xs i) (.returned (.slice none 0 0)) := by
    intro w' hb h
    have : partsOf xs i = [] := by
      unfold partsOf
      split
      · rename_i hh
        rcases h with h | h | ⟨_, _, h | h⟩
        · exact absurd hh.1 h
        · exact absurd hh.2.1 h
        · omega
        · rw [h]; rfl
      · rfl
    rw [this]
    exact OwnI.nil w hb
  have HNIL := Lib.hid hnil; clear hnil
  by_cases h0 : i < 0
  · go_enter Try.func44, Try.ntmps44
    go_wp2
    go_ret
    exact HNIL.out _ (Below.refl _ _) (.inl (by omega))
  obtain ⟨n, rfl⟩ : ∃ n : Nat, i = n := ⟨i.toNat, by omega⟩
  clear h0
  by_cases h1 : n < xs.length
  case neg =>
    have h1' : ¬ (n : Int) < xs.length := by omega
    have hb1 : decide (xs.length ≤ n) = true := by simp; omega
    go_enter Try.func44, Try.ntmps44
    go_wp2
    go_ret
    exact HNIL.out _ (Below.refl _ _) (.inr (.inl h1'))
  have hnm : n < m := by have := him (by omega) (by omega); omega
  obtain ⟨a1, eA1, d1⟩ := int_at HL.out n hnm
  subst eA1
  rw [begs_get xs m n hnm hm] at d1
  obtain ⟨ad, eA, -, e1, -⟩ := node_at HR.out n h1
  subst eA
  by_cases h2 : (begs xs).getD n 0 < 0
  · have HV : Hid ((begs xs).getD n 0 < 0) := h2
    generalize (begs xs).getD n 0 = v at d1 h2
    go_enter Try.func44, Try.ntmps44
    go_wp2
    go_ret
    exact HNIL.out _ (Below.refl _ _) (.inr (.inr ⟨by omega, by omega, .inl HV.out⟩))
  have hpt := begs_parts xs n h1 (by omega)
  have HB : Hid (AtP xs n (nd xs n).f1.toNat (List.replicate (nd xs n).f1.toNat 0) n (nd xs n).f1.toNat) := AtP.begin h1 (by omega)
  have HP : Hid (partsOf xs n = backs (begs xs) (nd xs n).f1.toNat n) := by show _ = _; unfold partsOf; rw [if_pos ⟨by omega, by omega, by rw [Int.toNat_natCast]; omega⟩, Int.toNat_natCast]
  obtain ⟨p1, p2, -⟩ := hpt
  generalize (begs xs).getD n 0 = v at d1 h2
  have HNN : Hid ((nd xs n).f1 = 0 → partsOf xs n = []) := by intro h; rw [HP.out, h]; rfl
  generalize hNq : (nd xs n).f1 = N at *
  obtain ⟨q, rfl⟩ : ∃ q : Nat, N = q := ⟨N.toNat, by omega⟩
  clear hNq
  rw [Int.toNat_natCast] at HB HP

  go_enter Try.func44, Try.ntmps44
  go_wp2_with (first
    | (at_make; refine X.make rfl _ _ 36 rfl 3 (.int .i64 0) 1 8 Try.underlying36 info3 .i64 .i64 _ _ q rfl rfl rfl rfl (by omega) (by simp only [maxLen]; omega) ?_; intro w1 hb1 hg1; have HB1 := Lib.hid hb1; clear hb1; have HG1 := Lib.hid hg1; clear hg1; have e2 := (World.grownBy.cell HG1.out e1 (by simp)))
    | fail)
  have HI : Hid (Blk w1 w.heap.size 3 (nums .i64 (List.replicate q 0)) ∧ Below w.heap.size w w1) := ⟨by have := HB1.out; rwa [made_ints] at this, (Below.refl _ _).grown HG1.out (Nat.le_refl _) (by simp)⟩
  clear HB1 HG1 e2
  go_loopg [8, 9] q (fun k v8 v9 wr => ∃ (b : Int) (out : List Int), v8 = .int .i64 b ∧ v9 = .int .i64 ((k : Int) - 1) ∧ k ≤ q ∧ Hid (AtP xs n q out b k) ∧ Hid (Blk wr w.heap.size 3 (nums .i64 out) ∧ Below w.heap.size w wr))
  case atStart => exact ⟨n, _, rfl, by simp, Nat.le_refl _, HB, HI⟩
  clear HB HI d1 e1
  case round =>
    obtain ⟨b, out, rfl, rfl, hkq, HA, HI⟩ := hrel
    cases gk with
    | zero =>
      go_wp2
      go_ret
      have hd := HA.out.done
      have hlen := HA.out.length.1
      refine ⟨.slice (some ⟨w.heap.size, 0, none⟩) q q, rfl, ?_, HI.out.2⟩
      rw [HP.out, ← hd]
      have ho := own_of_blk HI.out.1 (Nat.le_refl _) (by simp only [maxLen]; omega)
      rwa [hlen] at ho ⊢
    | succ k =>
      obtain ⟨hb, hst⟩ := HA.out.step h1
      have hlen := HA.out.length.1
      have hble := HA.out.le
      obtain ⟨bm, rfl⟩ : ∃ bm : Nat, b = bm + 1 := ⟨(b - 1).toNat, by omega⟩
      rw [show ((bm : Int) + 1 - 1).toNat = bm by omega, show ((bm : Int) + 1 - 1) = bm by omega] at hst
      have HST := Lib.hid hst; clear hst HA
      have hgl := HI.out.1.cell k
      rw [List.getElem?_eq_getElem (by rw [nums, List.length_map]; omega)] at hgl
      generalize (nums .i64 out)[k]'(by rw [nums, List.length_map]; omega) = old at hgl
      have hfz := HI.out.1.frozen k
      have HJ : Hid (Blk (wr.setCell ⟨w.heap.size, k, none⟩ (.int .i64 bm)) w.heap.size 3 (nums .i64 (out.set k bm)) ∧ Below w.heap.size w (wr.setCell ⟨w.heap.size, k, none⟩ (.int .i64 bm))) := by
        refine ⟨?_, HI.out.2.setCell (Nat.le_refl _) _⟩
        have := HI.out.1.setCell k (.int .i64 bm)
        rwa [nums, ← List.map_set] at this
      clear HI
      obtain ⟨a1', eA1, d1⟩ := int_at (Kd.C_below HL.out HJ.out.2) bm (by omega)
      obtain rfl : a1 = a1' := Option.some.inj eA1
      clear eA1 hlen
      rw [begs_get xs m bm (by omega) hm] at d1
      have HST' := HST
      generalize (begs xs).getD bm 0 = v at d1 HST'
      clear HST
      go_wp2
      go_roundg k
      case measure => omega
      case rel => exact ⟨v, out.set k bm, rfl, by simp; try omega, by omega, HST', HJ⟩
end Go.Proofs.Ytmikgaphknbcaaa.B
