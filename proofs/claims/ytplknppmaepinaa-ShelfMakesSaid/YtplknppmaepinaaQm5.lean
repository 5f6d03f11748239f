/- Texts joined and shortened (wip/tools/shrink.py): ShFiles, ShBegin, ShMakes. -/
import Derived.Maps.RangeWalk
import Derived.Sort.KeysCollected
import Derived.Sort.OwnSorted
import Derived.Test.YtplknppmaepinaaQm4
/- The program's Files: the names collected off the map, sorted; each file's bytes copied. -/
namespace Go.Proofs.Ytplknppmaepinaa.S
open Go Go.RowKit Go.X Go.Maps Go.Sort Go.Proofs.YtplknppmaepinaaW.PrintWords Go.Proofs.Ytplknppmaepinaa.F
set_option maxRecDepth 100000

theorem info9 : (Try.prog.info? 9).map (fun i => (i.zero, i.size, i.bytes)) = some (some (.string ⟨#[]⟩), 1, 16) := by kernel_rfl
theorem encStr_ky (n : ByteArray) : Go.Proofs.encStr (ky n) = .string n := by simp [Go.Proofs.encStr, ky]
def nameCells (L : List S73) : List Value := L.map fun f => .string f.f0
/-- The keys, sorted, are the names in the list's own order. -/
theorem keys_sorted {D : DataW Value} {left : Lit → Bool} {ss : List (List UInt8)} {L : List S73} (h : Collected D left ss) (hl : ∀ kl, left kl = false) (hh : ∀ n : ByteArray, Maps.has D (.string (ky n)) = hasN L n) (hr : Rises L) :
    ss.length = L.length ∧ (ss.mergeSort fun x y => decide (x ≤ y)).map Go.Proofs.encStr = nameCells L := by
  have hm : ∀ x, x ∈ ss ↔ x ∈ L.map fun f => ky f.f0 := fun x => by
    have e : x = ky ⟨x.toArray⟩ := by simp [ky]
    rw [h.2 x, hl]
    rw [e, hh, hasN_iff, List.mem_map]
    simp
  have hnd : (L.map fun f => ky f.f0).Nodup := List.pairwise_map.2 (hr.imp fun hlt => ne_of_lt' hlt)
  have hp : ss.Perm (L.map fun f => ky f.f0) := (List.perm_ext_iff_of_nodup h.1 hnd).2 hm
  refine ⟨by simpa using hp.length_eq, ?_⟩
  have h1 := mergeSort_of_perm hp
  have h2 : (L.map fun f => ky f.f0).mergeSort leB = L.map fun f => ky f.f0 := by
    refine List.mergeSort_of_pairwise (List.pairwise_map.2 (hr.imp fun {a b} hlt => ?_))
    simp only [leB, decide_eq_true_eq]
    exact List.le_of_lt hlt
  have h3 : (ss.mergeSort fun x y => decide (x ≤ y)) = L.map fun f => ky f.f0 := h1.trans h2
  rw [h3, List.map_map, nameCells]
  exact List.map_congr_left fun f _ => encStr_ky f.f0
/-- slices.Sort of a row of the call's own. -/
theorem sort.calls {w : World} {base : Nat} {v : Value} {ss : List (List UInt8)} (h : w.ownsRow base 9 1 v ss.length (ss.map Go.Proofs.encStr)) (hb : base ≤ w.heap.size) (hl : ss.length < 4611686018427387904) :
    Calls Try.prog 31 #[v] w fun e w' => e = .returned (.tuple #[]) ∧ w'.ownsRow base 9 1 v ss.length ((ss.mergeSort fun x y => decide (x ≤ y)).map Go.Proofs.encStr) ∧ Below base w w' := by
  rcases h.2 with ⟨rfl, h0⟩ | ⟨g, cap, cur, rfl, h1, h2, h3, h4, h5, h6⟩
  · obtain rfl := List.eq_nil_of_length_eq_zero h0
    refine (Try.slices_Sort_string_none none 0 w).mono ?_
    rintro e w' ⟨rfl, rfl⟩
    exact ⟨rfl, by simpa using h, Below.refl _ _⟩
  · have hgl : g < w.heap.size := (Array.getElem?_eq_some_iff.1 h2).1
    refine (Try.slices_Sort_string g 0 cap ss w (holds_of_block h2 (by simpa using h6)) hgl hl).mono ?_
    rintro e w' ⟨rfl, n, os, rfl⟩
    exact ⟨rfl, ownsRow_sorted (by simp) h1 h2 h3 h4 h5, (Below.refl _ _).grown (grownBy_sorted _) hb (fun j hj => by cases hj; exact h1)⟩

/-- The first loop's head. -/
structure Names (w wr : World) (N fm : Nat) (D : DataW Value) (v : Value) (q : Nat) (left : Lit → Bool) (ss : List (List UInt8)) : Prop where
  rng : wr.ranges Try.prog 9 RH fm N (Maps.size D) D left q
  few : ss.length + q ≤ Maps.size D
  row : wr.ownsRow N 9 1 v ss.length (ss.map Go.Proofs.encStr)
  col : Collected D left ss
  bel : Below N w wr
theorem Names.next {w wr w2 w4 : World} {N fm : Nat} {D : DataW Value} {v v4 : Value} {q q2 : Nat} {left : Lit → Bool} {ss : List (List UInt8)} {x : List UInt8} {y : DataW Value} (h : Names w wr N fm D v q left ss) (hlk : left (.string x) = true) (hat : ∀ zd, D.atKey (.string x) zd = y)
    (hrg : w2.ranges Try.prog 9 RH fm N (Maps.size D) D (fun z => left z && !z.sameKey (.string x)) q2) (hlt : q2 < q) (hg : wr.grownBy w2 (some N)) (o : Obj) (ho : w4.ownsRow N 9 1 v4 (ss.length + 1) (ss.map Go.Proofs.encStr ++ [Go.Proofs.encStr x]))
    (ha : Appended (w2.alloc o) w4 9 1 v v4 ss.length) (hfm : fm < N) (hN : N ≤ w.heap.size) : Names w w4 N fm D v4 q2 (fun z => left z && !z.sameKey (.string x)) (ss ++ [x]) := by
  have row2 : w2.ownsRow N 9 1 v ss.length (ss.map Go.Proofs.encStr) := h.row.kept hg (Or.inr (row_ne_iter h.row h.rng).symm)
  refine ⟨(hrg.alloc o).kept ha.grown (row_ne_low row2 hfm) (row_ne_iter row2 hrg), ?_, by simpa using ho, h.col.step hlk hat, ?_⟩
  · have := h.few
    simp; omega
  · have b2 : Below N w w2 := h.bel.grown hg (Nat.le_trans hN h.bel.size) (fun j hj => by cases hj; exact Nat.le_refl _)
    exact (b2.alloc (Nat.le_trans hN b2.size) o).grown ha.grown (by have := b2.size; simp; omega) (fun j hj => (row2.lt j hj).1)
theorem name_at {w : World} {base : Nat} {L : List S73} {A : Option Addr} {n c : Nat} (h : w.ownsRow base 9 1 (.slice A n c) n (nameCells L)) {i : Nat} {f : S73} (hf : L[i]? = some f) : ∃ ad, A = some ad ∧ w.cell? (ad.add i) = some (.string f.f0) := by
  obtain ⟨ad, e, hc⟩ := own_news h (by
    intro h0
    have hl := (List.getElem?_eq_some_iff.1 hf).1
    have h1 := congrArg List.length h0
    simp [nameCells] at h1
    simp [h1] at hl)
  exact ⟨ad, e, hc i _ (by simp [nameCells, hf])⟩
theorem own_type9 {w : World} {base base' : Nat} {n m : Nat} {v u : Value} {xs ys : List Value} (h : w.ownsRow base 9 1 v n xs) (h' : w.ownsRow base' 73 2 u m ys) : v.ownBlock = none ∨ v.ownBlock ≠ u.ownBlock := own_type_ne h h' (by decide)
/-- The second loop's head. -/
structure Told (w wr : World) (N : Nat) (v u : Value) (L : List S73) (i : Nat) : Prop where
  files : FilesAt wr (fun k => N ≤ k) u (L.take i)
  names : wr.ownsRow N 9 1 v L.length (nameCells L)
  bel : Below N w wr
theorem Told.next {w wr w3 w4 : World} {N : Nat} {v u u4 x : Value} {L : List S73} {f : S73} {i : Nat} {cs : List Value} (h : Told w wr N v u L i) (hf : L[i]? = some f) (hok : ∀ g, u.ownBlock = some g → N ≤ g) (hfc : FileCells wr (fun k => N ≤ k) (L.take i) cs) (how : wr.ownsRow 0 73 2 u i cs)
    (hb : Below wr.heap.size wr w3) (hN : N ≤ w.heap.size) (hd : DataAt w3 (fun k => N ≤ k) x f.f1) (ho : w4.ownsRow 0 73 2 u4 (i + 1) (cs ++ [.string f.f0, x])) (ha : Appended (w3.alloc (.cells #[.string f.f0, x] 73)) w4 73 2 u u4 i) : Told w w4 N v u4 L (i + 1) := by
  have hil := (List.getElem?_eq_some_iff.1 hf).1
  have hal : Below w3.heap.size w3 (w3.alloc (.cells #[.string f.f0, x] 73)) := (Below.refl _ w3).alloc (Nat.le_refl _) _
  have hb' := hb.trans (hal.mono hb.size)
  have hle := Nat.le_trans hN h.bel.size
  have k := files_next (by rw [List.length_take]; omega) hok hfc how hb' hle (hd.keep (Keeps.below hal)) ho ha
  have r1 : (w3.alloc (.cells #[.string f.f0, x] 73)).ownsRow N 9 1 v L.length (nameCells L) := ownsRow_keep (ok := fun _ => True) h.names (Keeps.below hb') (fun _ _ => trivial)
  have r2 : (w3.alloc (.cells #[.string f.f0, x] 73)).ownsRow 0 73 2 u i cs := ownsRow_keep (ok := fun _ => True) how (Keeps.below hb') (fun _ _ => trivial)
  exact ⟨by rw [take_next hf]; exact k.1, ha.keeps _ _ _ _ _ _ r1 ((own_type9 r1 r2).imp id fun q => .inl q), h.bel.trans k.2⟩
set_option maxHeartbeats 8000000 in
theorem files.calls {w : World} {ok : Nat → Prop} {sb : Nat} {s : Sh} (h : ShelfAt w ok sb s) (hg : Good s) :
    Calls Try.prog 11 #[.pointer (some ⟨sb, 0, none⟩)] w fun e w' => ∃ v, e = .returned v ∧ FilesAt w' (fun k => w.heap.size ≤ k) v s.L ∧ Below w.heap.size w w' := by
  obtain ⟨i0, hi, hz0, hz1, hz2⟩ := info_parts info9
  obtain ⟨j0, hj, hy0, hy1, hy2⟩ := info_parts info73
  obtain ⟨fm, pm, am, cv, h1, h2, -⟩ := h.out
  obtain ⟨D, h3, h4, h5, h6⟩ := h2.out
  have hfl := h2.lt
  have hn : s.L.length ≤ 64 := hg.few
  have c0 : w.cell? ⟨sb, 0, none⟩ = some (.map (some fm)) := h1.cell 0
  have HC0 := Lib.hid c0
  have HOW := Lib.hid h3; clear h3
  have HF := Lib.hid h2; clear h2 h6 h1 h
  have HSZ := Lib.hid h4
  have HHAS := Lib.hid h5; clear h5
  have HR : Hid (Rises s.L) := hg.rises
  have HNM : Hid (∀ f ∈ s.L, f.f0.size ≤ maxLen ∧ f.f1.length ≤ 16777216) := fun f hf => by
    have := len_sz hf
    have := hg.fits
    have := hg.room1
    have hk := hg.names f hf
    simp only [nmOK, Bool.and_eq_true, decide_eq_true_eq] at hk
    exact ⟨by simp only [maxLen]; omega, by omega⟩
  clear hg
  have HI := Lib.hid hi; clear hi
  have HZ0 := Lib.hid hz0; clear hz0
  have HZ1 := Lib.hid hz1; clear hz1
  have HZ2 := Lib.hid hz2; clear hz2
  have HJ := Lib.hid hj; clear hj
  have HY0 := Lib.hid hy0; clear hy0
  have HY1 := Lib.hid hy1; clear hy1
  have HY2 := Lib.hid hy2; clear hy2
  go_enter Try.func11, Try.ntmps11
  go_wp2_with (first
    | (at_range; refine wpList_range_own _ rfl _ 80 rfl 9 39 lawS Try.underlying80 RH fm (Maps.size D) D rfl HOW.out ?_; intro w0 hrg0 hg0 hs0)
    | fail)
  go_frame
  have HFM : Hid (fm < w.heap.size) := Lib.hid hfl
  have H0 : Hid (Names w w0 w.heap.size fm D (.slice none 0 0) (Maps.size D) (Maps.has D) []) :=
    ⟨hrg0, by simp, own_nil _ _ _ _, Collected.start D, (Below.refl _ _).grown hg0 (Nat.le_refl _) (fun j hj => by cases hj)⟩
  clear hrg0 hg0 hs0 hfl c0 h4
  obtain ⟨N, hN⟩ : ∃ N, w.heap.size = N := ⟨_, rfl⟩
  have HN := Lib.hid hN
  rw [hN] at H0 HFM ⊢
  clear hN
  go_loopg [3] (Maps.size D) (fun q v wr => ∃ cnt left ss, q = cnt ∧ Hid (Names w wr N fm D v cnt left ss))
  case atStart => exact ⟨_, _, [], rfl, H0.out⟩
  case round =>
    clear H0
    obtain ⟨cnt, left, ss, hq, H⟩ := hrel
    go_wp2_with (first
      | (at_next; refine wpList_next_ranges _ rfl _ rfl 9 lawS RH Go.Proofs.encStr (fun v : Value => v) (fun key kl hk => by obtain ⟨x, hx, _⟩ := Maps.keyOf_str Try.underlying9 hk; exact ⟨x, hx⟩) (fun v y hv => ⟨v, rfl⟩) fm N (Maps.size D) D left cnt rfl H.out.rng ?_ ?_)
      | fail)
    · intro hc0 hl0
      obtain ⟨hlen, hsort⟩ := keys_sorted H.out.col hl0 HHAS.out HR.out
      have HL := Lib.hid hl0; clear hl0 hc0 hq
      obtain ⟨A3, c3, rfl⟩ := own_slice H.out.row
      have HROW : Hid (wr.ownsRow N 9 1 (.slice A3 s.L.length c3) ss.length (ss.map Go.Proofs.encStr)) := by
        have := H.out.row
        rw [hlen] at this ⊢
        exact this
      have HBEL : Hid (Below N w wr) := H.out.bel
      have HLEN := Lib.hid hlen
      have HSORT := Lib.hid hsort; clear hsort
      rw [hlen]
      clear hlen H
      go_wp2_with (first
        | (go_at_call 31; refine (sort.calls HROW.out (Nat.le_trans (HN.out ▸ Nat.le_refl _) HBEL.out.size) (by have := HLEN.out; omega)).mono ?_; rintro e w1 ⟨rfl, hrow1, hb1⟩
           have HR1 : Hid (w1.ownsRow N 9 1 (.slice A3 s.L.length c3) s.L.length (nameCells s.L)) := by rw [HSORT.out, HLEN.out] at hrow1; exact hrow1
           have HB1 : Hid (Below N w w1) := HBEL.out.trans hb1
           clear hrow1 hb1)
        | (at_make; refine wpList_make_own _ rfl _ _ 22 rfl N 73 j0 _ 2 Try.underlying22 HJ.out HY0.out HY1.out .i64 .i64 _ s.L.length rfl rfl rfl (by rw [HY2.out]; omega) (by simp only [maxLen]; omega) (Nat.le_trans (HN.out ▸ Nat.le_refl _) HB1.out.size) ?_; intro w2 ho2 hg2
           have H2 : Hid (Told w w2 N (.slice A3 s.L.length c3) (.slice (some ⟨w1.heap.size, 0, none⟩) 0 s.L.length) s.L 0) :=
             ⟨⟨fun g hg => own_ge ho2 g hg, [], .nil, own_low ho2 (Nat.zero_le _)⟩, HR1.out.kept hg2 (by cases (Value.slice A3 s.L.length c3).ownBlock <;> simp), HB1.out.grown hg2 (Nat.le_trans (HN.out ▸ Nat.le_refl _) HB1.out.size) (fun j hj => by cases hj)⟩
           clear ho2 hg2)
        | fail)
      go_loopg [5, 28] s.L.length (fun q u v wr => ∃ i : Nat, q + i = s.L.length ∧ v = .int .i64 (i : Nat) ∧ Hid (Told w wr N (.slice A3 s.L.length c3) u s.L i))
      case atStart => exact ⟨0, by simp, rfl, H2.out⟩
      case round =>
        clear H2
        rename World => wr2
        obtain ⟨i, hi, rfl, H⟩ := hrel
        by_cases hlt : i < s.L.length
        · obtain ⟨f, hf⟩ : ∃ f, s.L[i]? = some f := ⟨_, List.getElem?_eq_getElem hlt⟩
          obtain ⟨ad, rfl, e0⟩ := name_at H.out.names hf
          have hmem := List.mem_of_getElem? hf
          have hsize := (HNM.out f hmem).1
          have HFL : Hid (f.f1.length ≤ 16777216) := (HNM.out f hmem).2
          have HBW : Hid (Below w.heap.size w wr2) := by have := H.out.bel; rw [← HN.out] at this; exact this
          have hbw : ∀ {ok : Nat → Prop}, Keeps ok w wr2 := Keeps.below HBW.out
          obtain ⟨ov, hlk, -, hdat⟩ := HF.out.look hsize
          have hlk0 := (hlk wr2 hbw).2
          obtain ⟨A1, c1, rfl, _, hc1⟩ := (hdat f hmem rfl).slice
          have HC1 : Hid (Kd.C (Kd.int .u8) wr2 A1 f.f1.length f.f1) := Kd.C_below hc1 HBW.out
          have c0 : wr2.cell? ⟨sb, 0, none⟩ = some (.map (some fm)) := Below.cellS HBW.out HC0.out
          have HFF := Lib.hid hf
          clear hlk hdat hc1 hmem hsize hf hbw
          have hi0 : (0 : Int) ≤ (i : Int) := Int.natCast_nonneg _
          have hi1 : (i : Int) < (s.L.length : Int) := Int.ofNat_lt.2 hlt
          obtain ⟨cs, HX⟩ : ∃ cs, Hid (FileCells wr2 (fun k => N ≤ k) (s.L.take i) cs ∧ wr2.ownsRow 0 73 2 u5 i cs ∧ (∀ g, u5.ownBlock = some g → N ≤ g)) := by
            obtain ⟨k1, cs, k2, k3⟩ := H.out.files
            have hl : (s.L.take i).length = i := by rw [List.length_take]; omega
            rw [hl] at k3
            exact ⟨cs, k2, k3, k1⟩
          have HIL : Hid (i < 64) := by show _ < _; omega
          go_wp2_with (first
            | (go_at_call 32; refine (fresh.calls A1 c1 f.f1 wr2 HC1.out (by have := HFL.out; omega)).mono ?_; rintro e w3 ⟨v3, rfl, hdat, hbl⟩
               have HB3 : Hid (Below wr2.heap.size wr2 w3) := hbl
               have HD3 : Hid (DataAt w3 (fun k => N ≤ k) v3 f.f1) := hdat.mono fun k hk => Nat.le_trans (Nat.le_trans (HN.out ▸ Nat.le_refl _) H.out.bel.size) hk
               have HO3 : Hid (w3.ownsRow 0 73 2 u5 i cs) := ownsRow_keep (ok := fun _ => True) HX.out.2.1 (Keeps.below hbl) (fun _ _ => trivial)
               obtain ⟨A6, c6, rfl, _, _⟩ := hdat.slice
               clear hdat hbl)
            | (at_builtin; refine append1 (w := w3) rfl (.tmp 32) (.tmp 42) 22 73 rfl 0 _ 2 40 Try.underlying22 info73 rfl u5 i cs rfl HO3.out [.string f.f0, .slice A6 f.f1.length c6] rfl rfl (by simp [Value.oneCell']) (by have := HIL.out; simp only [maxLen]; omega) (by have := HIL.out; omega) (Nat.zero_le _) ?_)
            | fail)
          intro v4 w4 ho4 ha4
          obtain ⟨A4, c4, rfl⟩ := own_slice ho4
          have HNX : Hid (Told w w4 N (.slice (some ad) s.L.length c3) (.slice A4 (i + 1) c4) s.L (i + 1)) := H.out.next HFF.out HX.out.2.2 HX.out.1 HX.out.2.1 HB3.out (HN.out ▸ Nat.le_refl _) HD3.out ho4 ha4
          have hiw : wrap64 ((i : Int) + 1) = ((i + 1 : Nat) : Int) := by have := HIL.out; rw [IntWalk.wrap64_in _ (by omega)]; rfl
          clear ho4 ha4 hlk0 c0 e0 hi0 hi1 HX H
          go_wp2
          go_roundg (s.L.length - (i + 1))
          case measure => clear hiw; omega
          case rel => exact ⟨i + 1, by clear hiw; omega, by first | rfl | rw [hiw], HNX.out⟩
        · obtain rfl : i = s.L.length := by omega
          have HT : Hid (FilesAt wr2 (fun k => N ≤ k) u5 s.L ∧ Below N w wr2) := by have := H.out.files; rw [List.take_length] at this; exact ⟨this, H.out.bel⟩
          clear H
          go_wp2
          go_ret
          exact ⟨u5, rfl, by rw [HN.out]; exact HT.out.1, by rw [HN.out]; exact HT.out.2⟩
    · intro x c kl yd yp w2 cnt2 hkey hlk hv hat hrg2 hlt hg2 hs2 hen
      obtain ⟨x', ex, rfl, hxl⟩ := Maps.keyOf_str Try.underlying9 hkey
      obtain rfl : x = x' := encStr_inj ex
      have HX : Hid ((left (.string x) = true) ∧ (∀ zd, D.atKey (.string x) zd = yd) ∧ w2.ranges Try.prog 9 RH fm N (Maps.size D) D (fun z => left z && !z.sameKey (.string x)) cnt2 ∧ wr.grownBy w2 (some N)) := ⟨hlk, hat, hrg2, hg2⟩
      clear hs2 hkey hlk hat hrg2 hg2 hv ex hxl
      have HROW : Hid (w2.ownsRow N 9 1 u3 ss.length (ss.map Go.Proofs.encStr)) := H.out.row.kept HX.out.2.2.2 (Or.inr (row_ne_iter H.out.row H.out.rng).symm)
      have HSS : Hid (ss.length ≤ 64) := by have := H.out.few; have := HSZ.out; show _ ≤ _; omega
      go_wp2_with (first
        | (at_builtin; refine append1 (w := w2) rfl (.tmp 17) (.tmp 19) 79 9 rfl N _ 1 16 Try.underlying79 info9 rfl u3 ss.length (ss.map Go.Proofs.encStr) rfl HROW.out [Go.Proofs.encStr x] rfl rfl (by simp [Value.oneCell', Go.Proofs.encStr]) (by have := HSS.out; simp only [maxLen]; omega) (by have := HSS.out; omega) (Nat.le_trans (HN.out ▸ Nat.le_refl _) (Nat.le_trans H.out.bel.size HX.out.2.2.2.size)) ?_)
        | fail)
      intro v4 w4 ho4 ha4
      obtain ⟨A4, c4, rfl⟩ := own_slice ho4
      have HNX : Hid (Names w w4 N fm D (.slice A4 (ss.length + 1) c4) cnt2 (fun z => left z && !z.sameKey (.string x)) (ss ++ [x])) :=
        H.out.next HX.out.1 HX.out.2.1 HX.out.2.2.1 hlt HX.out.2.2.2 _ ho4 ha4 HFM.out (HN.out ▸ Nat.le_refl _)
      clear ho4 ha4 hen
      go_wp2
      go_roundg cnt2
      case measure => omega
      case rel => exact ⟨cnt2, _, _, rfl, HNX.out⟩
end Go.Proofs.Ytplknppmaepinaa.S
/- The law's begin: both shelves made; what was handed in, held against its copy and written over. -/
namespace Go.Proofs.Ytplknppmaepinaa.S
open Go Go.RowKit Go.X Go.Maps Go.Proofs.YtplknppmaepinaaW.PrintWords Go.Proofs.Ytplknppmaepinaa.F
set_option maxRecDepth 100000

theorem ShelfAt.bound {w : World} {ok : Nat → Prop} {sb : Nat} {s : Sh} (h : ShelfAt w ok sb s) : ShelfAt w (fun k => ok k ∧ k < w.heap.size) sb s := by
  obtain ⟨fm, pm, am, cv, h1, h2, h3, h4, h5, h6, h7⟩ := h.out
  obtain ⟨D, k1, k2, k3, k4⟩ := h2.out
  exact ⟨fm, pm, am, cv, h1, ⟨D, k1, k2, k3, fun f hf => by obtain ⟨v, e, hd⟩ := k4 f hf; exact ⟨v, e, hd.bound⟩⟩, h3, h4, h5, ⟨⟨h6.1, h1.lt⟩, ⟨h6.2.1, h2.lt⟩, ⟨h6.2.2.1, h3.lt⟩, ⟨h6.2.2.2.1, h4.lt⟩, fun g hg => ⟨h6.2.2.2.2 g hg, own_lt h5 g hg⟩⟩, h7⟩
/-- What the program's New leaves, told at once. -/
theorem NewPost.told {w w' : World} {fs : List S73} {room : Int} {ps : List S76} {e : Ending} (h : NewPost w fs room ps e w') : Below w.heap.size w w' ∧ ∃ sp : Option Addr, e = .returned (.tuple #[.pointer sp, .int .i64 (newE fs room ps)]) ∧ (sp = none ↔ newE fs room ps ≠ 0) ∧ (newE fs room ps = 0 → ∃ sb, sp = some ⟨sb, 0, none⟩ ∧ ShelfAt w' (fun k => w.heap.size ≤ k) sb (newS fs room ps)) := by
  obtain ⟨hb, h | h⟩ := h
  · exact ⟨hb, none, h.2, by simp [h.1], fun e => absurd e h.1⟩
  · obtain ⟨h0, sb, rfl, hs⟩ := h
    exact ⟨hb, some ⟨sb, 0, none⟩, by rw [h0], by simp [h0], fun _ => ⟨sb, rfl, hs⟩⟩
theorem RNewPost.told {w w' : World} {fs : List S73} {room : Int} {ps : List S76} {e : Ending} (h : RNewPost w fs room ps e w') : Below w.heap.size w w' ∧ ∃ sp : Option Addr, e = .returned (.tuple #[.pointer sp, .int .i64 (newE fs room ps)]) ∧ (sp = none ↔ newE fs room ps ≠ 0) ∧ (newE fs room ps = 0 → ∃ sb, sp = some ⟨sb, 0, none⟩ ∧ RefAt w' (fun k => w.heap.size ≤ k) sb (newS fs room ps)) := by
  obtain ⟨hb, h | h⟩ := h
  · exact ⟨hb, none, h.2, by simp [h.1], fun e => absurd e h.1⟩
  · obtain ⟨h0, sb, rfl, hs⟩ := h
    exact ⟨hb, some ⟨sb, 0, none⟩, by rw [h0], by simp [h0], fun _ => ⟨sb, rfl, hs⟩⟩
theorem LentAt.keep {w w' : World} {base g : Nat} {gs : List Nat} {fs : List S73} (h : LentAt w base g gs fs) (hb : Below w.heap.size w w') : LentAt w' base g gs fs := by
  obtain ⟨cs, h1, h2, h3, h4⟩ := h
  exact ⟨cs, h1.keep fun b _ hlt => hb.block b hlt, h2.below hb h2.lt, h3, h4⟩
theorem LentAt.C {w : World} {base g : Nat} {gs : List Nat} {fs : List S73} (h : LentAt w base g gs fs) (hn : fs.length ≤ 67108864) (hm : ∀ f ∈ fs, f.f1.length ≤ 140737488355328) : Kd.C k73 w (some ⟨g, 0, none⟩) fs.length fs := by
  obtain ⟨cs, h1, h2, h3, h4⟩ := h
  exact C_of_blk h2 (h1.files fun f hf => by have := hm f hf; simp only [maxLen]; omega).reps (by omega)
def plan77 : List Value := [.int .i64 77, .int .i64 0, .int .i64 0]
theorem plan_C {w : World} {base : Nat} {A : Option Addr} {c : Nat} {ps : List S76} {xs : List Value} (h : w.ownsRow base 76 3 (.slice A (ps.length + 1) c) (ps.length + 1) (troubleCells ps ++ xs)) : Kd.C k76 w A ps.length ps := by
  have h1 := own_take (own_low h (Nat.zero_le _)) ps.length (Nat.le_succ _)
  rw [List.take_append_of_le_length (by rw [troubleCells_length]; omega), List.take_of_length_le (by rw [troubleCells_length]; omega)] at h1
  obtain ⟨A', c', e, _, hC⟩ := row_slice (d := k76) h1 (troubleCells_reps w ps)
  cases e
  exact hC
theorem reps_plan {w : World} : ∀ {ps : List S76} {cs : List Value}, Reps (k76.K w) 3 ps cs → cs = troubleCells ps
  | [], cs, h => List.eq_nil_of_length_eq_zero (by simpa using h.1)
  | p :: r, cs, h => by
    have h0 := k76_open (h.2 0 p rfl)
    have ht : Reps (k76.K w) 3 r (cs.drop 3) := ⟨by have := h.1; simp at this ⊢; omega, fun j q hj => by
      have := h.2 (j + 1) q (by simpa using hj)
      rw [List.drop_drop]
      rwa [show 3 + j * 3 = (j + 1) * 3 by omega]⟩
    have e := reps_plan ht
    have h1 : cs.take 3 = [.int .i64 p.f0, .int .i64 p.f1, .int .i64 p.f2] := by simpa using h0
    rw [← List.take_append_drop 3 cs, h1, e]
    rfl
theorem C_plan {w : World} {A : Option Addr} {ps : List S76} (h : Kd.C k76 w A ps.length ps) : troubleCells ps ≠ [] → ∃ ad, A = some ad ∧ ∀ j u, (troubleCells ps)[j]? = some u → w.cell? (ad.add j) = some u := by
  obtain ⟨cs, h1, h2⟩ := C_cells h
  rw [← reps_plan h1]
  exact h2
theorem trouble_one (xs : List S76) : ∀ u ∈ troubleCells xs, u.oneCell' = true := by
  induction xs with
  | nil => intro u hu; cases hu
  | cons x r ih =>
    intro u hu
    simp only [troubleCells, List.mem_cons] at hu
    rcases hu with rfl | rfl | rfl | hu
    · rfl
    · rfl
    · rfl
    · exact ih u hu
theorem isNone_ne {α : Type} {o : Option α} {x : Int} (h : o = none ↔ x ≠ 0) : o.isNone = (x != 0) := by
  cases o <;> by_cases hx : x = 0 <;> simp [hx] at h ⊢
theorem holder_list : holder.toList = [45, 104, 111, 108, 100, 101, 114, 45] := by rw [ByteArray.toList_eq]; rfl
theorem LentAt.facts {w : World} {base g : Nat} {gs : List Nat} {fs : List S73} (h : LentAt w base g gs fs) : gs.length = fs.length ∧ gs.Nodup ∧ g ∉ gs ∧ (∀ b ∈ gs, base ≤ b ∧ b < w.heap.size) ∧ base ≤ g ∧ g < w.heap.size := by
  obtain ⟨cs, h1, h2, h3, h4⟩ := h
  refine ⟨h1.length.2, h3, fun hg => ?_, fun b hb => ⟨(h1.lt b hb).1, (h1.lt b hb).2.1⟩, h4, h2.lt⟩
  obtain ⟨_, _, cells, hc⟩ := h1.lt g hg
  have hk : w.heap[g]? = _ := h2
  rw [hc] at hk
  simp at hk
/-- The lent files, i of them written over. -/
structure Spoil (w0 wr : World) (g : Nat) (gs : List Nat) (fs : List S73) (i : Nat) : Prop where
  but : But (fun k => k = g ∨ k ∈ gs) w0 wr
  row : ∃ cur, Blk wr g 73 cur ∧ cur.length = fs.length * 2 + 2 ∧ ∀ (j b : Nat) (f : S73), gs[j]? = some b → fs[j]? = some f → cur[j * 2 + 1]? = some (.slice (some ⟨b, 0, none⟩) f.f1.length (f.f1.length + 2))
  left : ∀ (j b : Nat) (f : S73), i ≤ j → gs[j]? = some b → fs[j]? = some f → Blk wr b 5 (nums .u8 f.f1 ++ holdB)
theorem Spoil.start {w : World} {base g : Nat} {gs : List Nat} {fs : List S73} (h : LentAt w base g gs fs) : Spoil w w g gs fs 0 := by
  obtain ⟨cs, h1, h2, h3, h4⟩ := h
  refine ⟨But.refl _ _, ⟨_, h2, by rw [List.length_append, h1.length.1]; rfl, fun j b f hb hf => ?_⟩, fun j b f _ hb hf => ?_⟩
  · obtain ⟨b', e, _, _, _, k⟩ := h1.get hf
    rw [hb] at e
    cases e
    rw [List.getElem?_append_left (List.getElem?_eq_some_iff.1 k).1]
    exact k
  · obtain ⟨b', e, _, k, _⟩ := h1.get hf
    rw [hb] at e
    cases e
    exact k
theorem Spoil.next {w0 wr wk w' : World} {g b i : Nat} {gs : List Nat} {fs : List S73} {v : Value} (h : Spoil w0 wr g gs fs i) (hnd : gs.Nodup) (hg : g ∉ gs) (hb : gs[i]? = some b) (k : But (fun k => k = b) wr wk) (e : w' = wk.setCell ⟨g, i * 2, none⟩ v) : Spoil w0 w' g gs fs (i + 1) := by
  subst e
  obtain ⟨cur, h1, h2, h3⟩ := h.row
  have hmem := List.mem_of_getElem? hb
  have hgb : g ≠ b := fun e => hg (e ▸ hmem)
  have gr := grown_setCell wk ⟨g, i * 2, none⟩ v
  refine ⟨(h.but.trans2 (k.imp fun q e => .inr (e ▸ hmem))).trans2 (But.of_grown gr fun q e => by cases e; exact .inl rfl), ⟨_, (h1.but k hgb).setCell (i * 2) v, by rw [List.length_set]; exact h2, fun j b' f hj hf => ?_⟩, fun j b' f hj hj' hf => ?_⟩
  · rw [List.getElem?_set_ne (by omega)]
    exact h3 j b' f hj hf
  · have hne : b' ≠ b := fun e => by
      subst e
      have := (List.getElem?_inj (List.getElem?_eq_some_iff.1 hb).1 hnd).1 (hb.trans hj'.symm)
      omega
    have hne2 : b' ≠ g := fun e => hg (e ▸ List.mem_of_getElem? hj')
    exact ((h.left j b' f (by omega) hj' hf).but k hne).grown gr (fun e => hne2 (by injection e))
theorem trouble_get : ∀ {ps : List S76} {j : Nat} {p : S76}, ps[j]? = some p → (troubleCells ps)[j * 3]? = some (.int .i64 p.f0) ∧ (troubleCells ps)[j * 3 + 1]? = some (.int .i64 p.f1) ∧ (troubleCells ps)[j * 3 + 2]? = some (.int .i64 p.f2)
  | [], j, p, h => by simp at h
  | q :: r, 0, p, h => by simp at h; subst h; exact ⟨rfl, rfl, rfl⟩
  | q :: r, j + 1, p, h => by
    have := trouble_get (ps := r) (j := j) (by simpa using h)
    rw [show (j + 1) * 3 = j * 3 + 1 + 1 + 1 by omega]
    exact this
structure PSpoil (w0 wr : World) (pg : Nat) (ps : List S76) (i : Nat) : Prop where
  but : But (fun k => k = pg) w0 wr
  row : ∃ cur, Blk wr pg 76 cur ∧ ps.length * 3 ≤ cur.length ∧ ∀ (j : Nat) (p : S76), i ≤ j → ps[j]? = some p → cur[j * 3]? = some (.int .i64 p.f0) ∧ cur[j * 3 + 1]? = some (.int .i64 p.f1) ∧ cur[j * 3 + 2]? = some (.int .i64 p.f2)
theorem PSpoil.start {w : World} {base pg c : Nat} {ps : List S76} {xs : List Value} (h : w.ownsRow base 76 3 (.slice (some ⟨pg, 0, none⟩) (ps.length + 1) c) (ps.length + 1) (troubleCells ps ++ xs)) : PSpoil w w pg ps 0 := by
  rcases h.2 with ⟨h1, _⟩ | ⟨g, cap, cur, h1, _, h2, h3, h4, h5, h6⟩
  · cases h1
  · cases h1
    have hl : ps.length * 3 ≤ cur.toList.length := by
      have e := congrArg List.length h6
      rw [List.length_append, troubleCells_length, List.length_take] at e
      omega
    refine ⟨But.refl _ _, ⟨cur.toList, by simpa [Blk] using h2, hl, fun j p _ hp => ?_⟩⟩
    have hj := (List.getElem?_eq_some_iff.1 hp).1
    have tk : ∀ m, m < ps.length * 3 → cur.toList[m]? = (troubleCells ps)[m]? := fun m hm => by
      have e := congrArg (fun l : List Value => l[m]?) h6
      rw [List.getElem?_take_of_lt (by omega), List.getElem?_append_left (by rw [troubleCells_length]; omega)] at e
      exact e
    obtain ⟨k0, k1, k2⟩ := trouble_get hp
    exact ⟨(tk _ (by omega)).trans k0, (tk _ (by omega)).trans k1, (tk _ (by omega)).trans k2⟩
theorem splice_far (cur xs : List Value) (off m : Nat) (h : off + xs.length ≤ m) (hl : off + xs.length ≤ cur.length) : (splice cur off xs)[m]? = cur[m]? := by
  unfold splice
  rw [← List.append_assoc, List.getElem?_append_right (by simp; omega), List.getElem?_drop]
  congr 1
  simp
  omega
theorem PSpoil.next {w0 wr w' : World} {pg i : Nat} {ps : List S76} {xs cur : List Value} (h : PSpoil w0 wr pg ps i) (hb : Blk wr pg 76 cur) (hx : xs.length = 3) (hi : i < ps.length) (h' : Blk w' pg 76 (splice cur (i * 3) xs)) (hg : wr.grownBy w' (some pg)) : PSpoil w0 w' pg ps (i + 1) := by
  obtain ⟨cur', h1, h2, h3⟩ := h.row
  have e : cur = cur' := by
    have k1 : wr.heap[pg]? = _ := hb
    have k2 : wr.heap[pg]? = _ := h1
    rw [k1] at k2
    simpa using k2
  subst e
  refine ⟨h.but.trans2 (But.of_grown hg fun k e => by cases e; rfl), ⟨_, h', ?_, fun j p hj hp => ?_⟩⟩
  · have : (splice cur (i * 3) xs).length = cur.length := by
      simp [splice]
      omega
    omega
  · have hjl := (List.getElem?_eq_some_iff.1 hp).1
    rw [splice_far _ _ _ _ (by omega) (by omega), splice_far _ _ _ _ (by omega) (by omega), splice_far _ _ _ _ (by omega) (by omega)]
    exact h3 j p (by omega) hp
/-- What begin leaves. -/
def BeginPost (w : World) (fs : List S73) (room : Int) (ps : List S76) (e : Ending) (w' : World) : Prop :=
  Below w.heap.size w w' ∧ ∃ sp rp : Option Addr, e = .returned (.tuple #[.pointer sp, .pointer rp, .bool true]) ∧ (rp = none ↔ newE fs room ps ≠ 0) ∧
    (newE fs room ps = 0 → ∃ sb rb m, sp = some ⟨sb, 0, none⟩ ∧ rp = some ⟨rb, 0, none⟩ ∧ w.heap.size ≤ m ∧ ShelfAt w' (fun k => w.heap.size ≤ k ∧ k < m) sb (newS fs room ps) ∧ RefAt w' (fun k => m ≤ k) rb (newS fs room ps))
theorem begin_end {w w3 w4 w5 W0 wE : World} {sp rp : Option Addr} {x room : Int} {fs : List S73} {ps : List S76} {g pg : Nat} {gs : List Nat} (h3 : Below w.heap.size w w3) (h4 : Below w3.heap.size w3 w4) (h5 : Below w4.heap.size w4 w5) (hd : Below w5.heap.size w5 W0) (hx : newE fs room ps = x)
    (hrp : rp = none ↔ x ≠ 0) (hsh : x = 0 → ∃ sb, sp = some ⟨sb, 0, none⟩ ∧ ShelfAt w4 (fun k => w3.heap.size ≤ k) sb (newS fs room ps)) (hrh : x = 0 → ∃ rb, rp = some ⟨rb, 0, none⟩ ∧ RefAt w5 (fun k => w4.heap.size ≤ k) rb (newS fs room ps))
    (hg : w.heap.size ≤ g ∧ g < w3.heap.size) (hgs : ∀ b ∈ gs, w.heap.size ≤ b ∧ b < w3.heap.size) (hpg : w.heap.size ≤ pg ∧ pg < w3.heap.size) (hE : But (fun k => (k = g ∨ k ∈ gs) ∨ k = pg) W0 wE) :
    BeginPost w fs room ps (.returned (.tuple #[.pointer sp, .pointer rp, .bool true])) wE := by
  have s3 := h3.size
  have s4 := h4.size
  have b4 : Below w4.heap.size w4 W0 := h5.trans (hd.mono h5.size)
  have b3 : Below w.heap.size w W0 := h3.trans ((h4.trans (b4.mono s4)).mono s3)
  have lo : ∀ k, ((k = g ∨ k ∈ gs) ∨ k = pg) → w.heap.size ≤ k ∧ k < w3.heap.size := fun k hk => by
    rcases hk with (rfl | hk) | rfl
    · exact hg
    · exact hgs k hk
    · exact hpg
  refine ⟨b3.trans (hE.below (fun k hk => (lo k hk).1) b3.size), sp, rp, rfl, by rw [hx]; exact hrp, fun h0 => ?_⟩
  obtain ⟨sb, e1, k1⟩ := hsh (hx ▸ h0)
  obtain ⟨rb, e2, k2⟩ := hrh (hx ▸ h0)
  refine ⟨sb, rb, w4.heap.size, e1, e2, by omega, ?_, ?_⟩
  · refine ((k1.bound.keep (Keeps.below b4)).keep (Keeps.but hE fun k hk hs => ?_)).mono fun k hk => ⟨by omega, hk.2⟩
    have := (lo k hs).2
    omega
  · refine (k2.keep (Keeps.below hd)).keep (Keeps.but hE fun k hk hs => ?_)
    have := (lo k hs).2
    omega
set_option maxHeartbeats 8000000 in
theorem begin.calls (Af Ap : Option Addr) (cf cp : Nat) (fs : List S73) (ps : List S76) (room : Int) (w : World) (hf : Kd.C k73 w Af fs.length fs) (hp : Kd.C k76 w Ap ps.length ps) (hcf : fs.length ≤ cf) (hcp : ps.length ≤ cp) (hn : fs.length ≤ 67108864) (hm : ∀ f ∈ fs, f.f1.length ≤ 67108864) (hz : ∀ f ∈ fs, f.f0.size ≤ maxLen) (hq : ps.length ≤ 5864062014804)
    (hwf : ∀ p ∈ ps, (Lit.int .i64 p.f0).wf = true ∧ (Lit.int .i64 p.f1).wf = true ∧ (Lit.int .i64 p.f2).wf = true) :
    Calls Try.prog 9 #[.agg #[.slice Af fs.length cf, .int .i64 room, .slice Ap ps.length cp]] w (BeginPost w fs room ps) := by
  have HF := Lib.hid hf; clear hf
  have HP := Lib.hid hp; clear hp
  have HCF := Lib.hid hcf; clear hcf
  have HCP := Lib.hid hcp; clear hcp
  have HM := Lib.hid hm; clear hm
  have HM2 : Hid (∀ f ∈ fs, f.f1.length ≤ 140737488355328) := fun f hf => by have := HM.out f hf; omega
  have HZ := Lib.hid hz; clear hz
  have HQ := Lib.hid hq; clear hq
  have HNF := Lib.hid hn; clear hn
  have HWF := Lib.hid hwf; clear hwf
  have HB0 : Hid (Below w.heap.size w (w.alloc (.cells #[.slice Af fs.length cf, .int .i64 room, .slice Ap ps.length cp] 25)) ∧ Blk (w.alloc (.cells #[.slice Af fs.length cf, .int .i64 room, .slice Ap ps.length cp] 25)) w.heap.size 25 [.slice Af fs.length cf, .int .i64 room, .slice Ap ps.length cp]) :=
    ⟨(Below.refl _ _).alloc (Nat.le_refl _) _, Blk.alloc w _ _⟩
  go_enter Try.func9, Try.ntmps9
  go_wp2_with (first
    | (go_at_call 22; refine (lent.calls Af cf fs _ (Kd.C_below HF.out HB0.out.1) HNF.out HM2.out).mono ?_; rintro e w1 ⟨g, gs, rfl, hL, hb⟩
       have HL1 := Lib.hid hL; clear hL
       have HB1 : Hid (Below (w.alloc (.cells #[.slice Af fs.length cf, .int .i64 room, .slice Ap ps.length cp] 25)).heap.size (w.alloc (.cells #[.slice Af fs.length cf, .int .i64 room, .slice Ap ps.length cp] 25)) w1) := hb
       have HX1 : Hid (Blk w1 w.heap.size 25 [.slice Af fs.length cf, .int .i64 room, .slice Ap ps.length cp]) := HB0.out.2.below hb HB0.out.2.lt
       have x2 : (w1.alloc (.cells #[] 76)).cell? ⟨w.heap.size, 2, none⟩ = some (.slice Ap ps.length cp) := (HX1.out.below ((Below.refl _ w1).alloc (Nat.le_refl _) _) HX1.out.lt).cell 2
       have HP1 : Hid (Below w.heap.size w (w1.alloc (.cells #[] 76))) := (HB0.out.1.trans (hb.mono HB0.out.1.size)).trans (((Below.refl _ w1).alloc (Nat.le_refl _) _).mono (HB0.out.1.trans (hb.mono HB0.out.1.size)).size)
       clear hb)
    | (at_builtin; refine appendAny rfl (.tmp 18) (.tmp 20) 23 76 rfl w1.heap.size _ 3 24 Try.underlying23 info76 rfl (by decide) (.slice (some ⟨w1.heap.size, 0, none⟩) 0 0) 0 [] rfl (own_empty w1 76 3) Ap ps.length cp (troubleCells ps) rfl (troubleCells_length _)
         (C_plan (Kd.C_below HP.out HP1.out)) (trouble_one _) (by have := HQ.out; simp only [maxLen]; omega) (by have := HQ.out; omega) (by simp) ?_
       intro v2 w2 ho2 ha2
       obtain ⟨A2, c2, rfl⟩ := own_slice ho2
       have HO2 : Hid (w2.ownsRow w1.heap.size 76 3 (.slice A2 ps.length c2) ps.length (troubleCells ps)) := Lib.hid (by simpa using ho2)
       have HB2 : Hid (Below w1.heap.size w1 w2) := ((Below.refl _ w1).alloc (Nat.le_refl _) _).grown ha2.grown (by simp) (by simp [Value.ownBlock])
       clear ho2 ha2 x2)
    | (at_builtin; refine append1 (w := w2) rfl (.tmp 21) (.tmp 23) 23 76 rfl w1.heap.size _ 3 24 Try.underlying23 info76 rfl (.slice A2 ps.length c2) ps.length (troubleCells ps) rfl HO2.out plan77 rfl rfl (by simp [Value.oneCell', plan77]) (by have := HQ.out; simp only [maxLen]; omega) (by have := HQ.out; omega) HB2.out.size ?_
       intro v3 w3 ho3 ha3
       obtain ⟨A3, c3, rfl⟩ := own_slice ho3
       have HO3 := Lib.hid ho3; clear ho3
       have HB3 : Hid (Below w1.heap.size w1 w3) := (HB2.out.trans (((Below.refl _ w2).alloc (Nat.le_refl _) (.cells plan77.toArray 76)).mono HB2.out.size)).grown ha3.grown (by have := HB2.out.size; simp; omega) (own_ge HO2.out)
       clear ha3)
    | fail)
  have HX3 : Hid (Blk w3 w.heap.size 25 [.slice Af fs.length cf, .int .i64 room, .slice Ap ps.length cp]) := HX1.out.below HB3.out HX1.out.lt
  have HPC : Hid (Kd.C k76 w3 A3 ps.length ps) := plan_C HO3.out
  have HL3 : Hid (LentAt w3 (w.alloc (.cells #[.slice Af fs.length cf, .int .i64 room, .slice Ap ps.length cp] 25)).heap.size g gs fs) := HL1.out.keep HB3.out
  have HBW3 : Hid (Below w.heap.size w w3) := HB0.out.1.trans ((HB1.out.trans (HB3.out.mono HB1.out.size)).mono HB0.out.1.size)
  have x1 : w3.cell? ⟨w.heap.size, 1, none⟩ = some (.int .i64 room) := HX3.out.cell 1
  have x2 : w3.cell? ⟨w.heap.size, 2, none⟩ = some (.slice Ap ps.length cp) := HX3.out.cell 2
  have hpl : (ps.length : Int) ≤ (c3 : Int) := by
    rcases HO3.out.2 with ⟨h1, _⟩ | ⟨_, _, _, h1, _, _, h2, _⟩
    · cases h1
    · cases h1; omega
  obtain ⟨x, hx⟩ : ∃ x, newE fs room ps = x := ⟨_, rfl⟩
  have HXE := Lib.hid hx; clear hx
  clear HL1 HX1 HP1
  have hp0 : (0 : Int) ≤ (ps.length : Int) := Int.natCast_nonneg _
  go_region_held3 (fun w' => w'.cell? ⟨w.heap.size, 1, none⟩ = some (.int .i64 room) ∧ w'.cell? ⟨w.heap.size, 2, none⟩ = some (.slice Ap ps.length cp))
    (first
      | with_reducible exact ⟨p1, p2⟩
      | go_keep)
    (first
      | (go_at_call 17; refine (new.calls (some ⟨g, 0, none⟩) A3 (fs.length + 1) c3 fs ps room _ (Kd.C_below (HL3.out.C HNF.out HM2.out) (Below.refl _ w3).drew) (Kd.C_below HPC.out (Below.refl _ w3).drew) HNF.out HM2.out HZ.out (by have := HQ.out; omega) HWF.out).mono ?_; rintro e w4 hpost
         obtain ⟨hb4, sp, rfl, hsp, hsh⟩ := hpost.told
         have p1 : w4.cell? ⟨w.heap.size, 1, none⟩ = some (.int .i64 room) := Below.cellS hb4 x1
         have p2 : w4.cell? ⟨w.heap.size, 2, none⟩ = some (.slice Ap ps.length cp) := Below.cellS hb4 x2
         have HB4 : Hid (Below w3.heap.size w3 w4) := (Below.refl _ w3).drew.trans hb4
         rw [HXE.out] at hsp hsh ⊢
         have HSP := Lib.hid hsp
         have HSH : Hid (x = 0 → ∃ sb, sp = some ⟨sb, 0, none⟩ ∧ ShelfAt w4 (fun k => w3.heap.size ≤ k) sb (newS fs room ps)) := hsh
         clear hpost hb4 hsp hsh))
  rename _ ∧ _ => hHeld
  clear hHeld p1 p2 x1 x2
  have HX4 : Hid (Blk w4 w.heap.size 25 [.slice Af fs.length cf, .int .i64 room, .slice Ap ps.length cp]) := HX3.out.below HB4.out HX3.out.lt
  have HBW4 : Hid (Below w.heap.size w w4) := HBW3.out.trans (HB4.out.mono HBW3.out.size)
  have x0 : w4.cell? ⟨w.heap.size, 0, none⟩ = some (.slice Af fs.length cf) := HX4.out.cell 0
  have x1 : w4.cell? ⟨w.heap.size, 1, none⟩ = some (.int .i64 room) := HX4.out.cell 1
  have x2 : w4.cell? ⟨w.heap.size, 2, none⟩ = some (.slice Ap ps.length cp) := HX4.out.cell 2
  go_wp2_with (first
    | (go_at_call 29; refine (refNew.calls Af Ap cf cp fs ps room _ (Kd.C_below HF.out HBW4.out) (Kd.C_below HP.out HBW4.out) HNF.out HM2.out (by have := HQ.out; omega)).mono ?_; rintro e w5 hpost
       obtain ⟨hb5, rp, rfl, hrp, hrh⟩ := hpost.told
       have HB5 : Hid (Below w4.heap.size w4 w5) := hb5
       rw [HXE.out] at hrp hrh ⊢
       have HRP := Lib.hid hrp
       have HRH : Hid (x = 0 → ∃ rb, rp = some ⟨rb, 0, none⟩ ∧ RefAt w5 (fun k => w4.heap.size ≤ k) rb (newS fs room ps)) := hrh
       clear hpost hb5 hrp hrh)
    | fail)
  clear x0 x1 x2
  have HX5 : Hid (Blk w5 w.heap.size 25 [.slice Af fs.length cf, .int .i64 room, .slice Ap ps.length cp]) := HX4.out.below HB5.out HX4.out.lt
  have HB35 : Hid (Below w3.heap.size w3 w5) := HB4.out.trans (HB5.out.mono HB4.out.size)
  have HBW5 : Hid (Below w.heap.size w w5) := HBW4.out.trans (HB5.out.mono HBW4.out.size)
  have HL5 : Hid (LentAt w5 (w.alloc (.cells #[.slice Af fs.length cf, .int .i64 room, .slice Ap ps.length cp] 25)).heap.size g gs fs) := HL3.out.keep HB35.out
  have HO5 : Hid (w5.ownsRow w1.heap.size 76 3 (.slice A3 (ps.length + 1) c3) (ps.length + 1) (troubleCells ps ++ plan77)) := ownsRow_keep (ok := fun _ => True) HO3.out (Keeps.below HB35.out) (fun _ _ => trivial)
  obtain ⟨pg, rfl, HPG⟩ : ∃ pg, A3 = some ⟨pg, 0, none⟩ ∧ Hid (w5.cell? ⟨pg, ps.length * 3, none⟩ = some (.int .i64 77)) := by
    obtain ⟨ad, e, hc⟩ := own_news HO5.out (by simp [plan77])
    rcases HO5.out.2 with ⟨h1, _⟩ | ⟨pg, _, _, h1, _⟩
    · cases h1
    · cases h1
      cases e
      have := hc (ps.length * 3) (.int .i64 77) (by rw [List.getElem?_append_right (by rw [troubleCells_length]; omega), troubleCells_length, Nat.sub_self]; rfl)
      rw [Addr.add_mid, Nat.zero_add] at this
      exact ⟨pg, rfl, this⟩
  have x0 : w5.cell? ⟨w.heap.size, 0, none⟩ = some (.slice Af fs.length cf) := HX5.out.cell 0
  have x2 : w5.cell? ⟨w.heap.size, 2, none⟩ = some (.slice Ap ps.length cp) := HX5.out.cell 2
  have xh : w5.cell? ⟨g, fs.length * 2, none⟩ = some (.string holder) := by
    obtain ⟨cs, k1, k2, _, _⟩ := HL5.out
    rw [k2.cell, List.getElem?_append_right (by rw [k1.length.1]; omega), k1.length.1, Nat.sub_self]
    rfl
  have xp := HPG.out
  have hfn : (fs.length : Int) ≤ 67108864 := by have := HNF.out; omega
  have hfw : IntKind.i64.wrap ((fs.length : Int) + 1) = (fs.length : Int) + 1 := by rw [IntWalk.i64_in _ (by omega)]
  have hf0 : (0 : Int) ≤ (fs.length : Int) := Int.natCast_nonneg _
  have HSF : Hid (dowellaw01_sameFiles.f (fs.length + 67108864 + 2) fs fs = some true) := same_f fs 67108864 (by have := HNF.out; omega) HM.out (by omega)
  have hf01 : (0 : Int) ≤ (fs.length : Int) + 1 := by omega
  have hf1 : (fs.length : Int) < (fs.length : Int) + 1 := by omega
  have hp1 : (ps.length : Int) < (ps.length : Int) + 1 := by omega
  have hhl := holder_list
  have hs : sp.isNone = (x != 0) := isNone_ne HSP.out
  go_quiet ((go_at_call 10; refine (dowellaw01_sameFiles.calls _ (some ⟨g, 0, none⟩) (fs.length + 1) fs Af cf fs true (w5.drewN _) (Kd.C_drewN (HL5.out.C HNF.out HM2.out) _) (by omega) (Kd.C_below HF.out (HBW5.out.trans ((drawn_drewN w5 _).mono HBW5.out.size))) HCF.out HSF.out).mono ?_; rintro e w' ⟨rfl, ⟨nd, rfl⟩⟩; exact ⟨rfl, _, World.drewN_drewN _ _ _⟩))
  clear x0 x2 xh xp hfw hf0 hf01 hf1 hp1 hhl hs
  have hd := drawn_drewN w5 nq
  have HX0 : Hid (Blk (w5.drewN nq) w.heap.size 25 [.slice Af fs.length cf, .int .i64 room, .slice Ap ps.length cp]) := HX5.out.below hd HX5.out.lt
  have HL0 : Hid (LentAt (w5.drewN nq) (w.alloc (.cells #[.slice Af fs.length cf, .int .i64 room, .slice Ap ps.length cp] 25)).heap.size g gs fs) := HL5.out.keep hd
  have HO0 : Hid ((w5.drewN nq).ownsRow w1.heap.size 76 3 (.slice (some ⟨pg, 0, none⟩) (ps.length + 1) c3) (ps.length + 1) (troubleCells ps ++ plan77)) := ownsRow_keep (ok := fun _ => True) HO5.out (Keeps.below hd) (fun _ _ => trivial)
  have HBW0 : Hid (Below w.heap.size w (w5.drewN nq)) := HBW5.out.trans (hd.mono HBW5.out.size)
  have HLF : Hid (gs.length = fs.length ∧ gs.Nodup ∧ g ∉ gs ∧ (∀ b ∈ gs, w.heap.size ≤ b ∧ b < w3.heap.size) ∧ w.heap.size ≤ g ∧ g < w3.heap.size) := by
    obtain ⟨k1, k2, k3, k4, k5, k6⟩ := HL3.out.facts
    have := HB0.out.1.size
    exact ⟨k1, k2, k3, fun b hb => ⟨Nat.le_trans this (k4 b hb).1, (k4 b hb).2⟩, Nat.le_trans this k5, k6⟩
  have HPF : Hid (w.heap.size ≤ pg ∧ pg < w3.heap.size) := by
    have h1 := HO3.out.lt pg (by simp [Value.ownBlock])
    have := HB0.out.1.size
    have := HB1.out.size
    exact ⟨by omega, h1.2⟩
  have HEND : Hid (∀ wE, But (fun k => (k = g ∨ k ∈ gs) ∨ k = pg) (w5.drewN nq) wE → BeginPost w fs room ps (.returned (.tuple #[.pointer sp, .pointer rp, .bool true])) wE) :=
    fun wE hE => begin_end HBW3.out HB4.out HB5.out hd HXE.out HRP.out HSH.out HRH.out ⟨HLF.out.2.2.2.2.1, HLF.out.2.2.2.2.2⟩ HLF.out.2.2.2.1 HPF.out hE
  have HGP : Hid (g ≠ pg ∧ pg ∉ gs) := by
    obtain ⟨cs, k1, k2, _, _⟩ := HL5.out
    refine ⟨row_ne_blk HO5.out k2 (by decide) (by simp [Value.ownBlock]) |>.symm, fun hb => ?_⟩
    obtain ⟨_, _, cells, hc⟩ := k1.lt pg hb
    obtain ⟨cells', h'⟩ := own_typed HO5.out pg (by simp [Value.ownBlock])
    rw [hc] at h'
    simp at h'
  have HN : Hid (w.heap.size ≠ g ∧ w.heap.size ∉ gs ∧ w.heap.size ≠ pg) := by
    obtain ⟨cs, k1, k2, _, _⟩ := HL5.out
    refine ⟨HX5.out.ne k2 (by decide), fun hb => ?_, fun e => row_ne_blk HO5.out HX5.out (by decide) (g := pg) (by simp [Value.ownBlock]) e.symm⟩
    obtain ⟨_, _, cells, hc⟩ := k1.lt _ hb
    have h' : w5.heap[w.heap.size]? = _ := HX5.out
    rw [hc] at h'
    simp at h'
  clear HX5 HL5 HO5 HBW5 HPG HB35 HRH HRP HB5 HX4 HBW4 HSH HSP HB4 HPC HX3 HL3 HBW3 HO3 HB3 HO2 HB2 HB0 HB1 hd HSF HXE hpl
  generalize w5.drewN nq = W0 at *
  go_wp2
  go_loopg [11, 12] fs.length (fun q o v wr => ∃ i : Nat, q + i = fs.length ∧ o = .bool true ∧ v = .int .i64 (i : Nat) ∧ Hid (Spoil W0 wr g gs fs i))
  case atStart => exact ⟨0, by simp, rfl, rfl, Spoil.start HL0.out⟩
  case round =>
    obtain ⟨i, hi, rfl, rfl, HI⟩ := hrel
    by_cases hlt : i < fs.length
    · obtain ⟨f, hf⟩ : ∃ f, fs[i]? = some f := ⟨_, List.getElem?_eq_getElem hlt⟩
      obtain ⟨b, hb⟩ : ∃ b, gs[i]? = some b := ⟨_, List.getElem?_eq_getElem (by rw [HLF.out.1]; exact hlt)⟩
      have HBI : Hid (Below w.heap.size w wr) := HBW0.out.trans (HI.out.but.below (fun k hk => hk.elim (fun e => e ▸ HLF.out.2.2.2.2.1) fun h => (HLF.out.2.2.2.1 k h).1) HBW0.out.size)
      obtain ⟨ad, A1, c1, eA, e0, e1, hc1l, hc1⟩ := fs_at (Kd.C_below HF.out HBI.out) hf
      subst eA
      have HFL : Hid (f.f1.length ≤ 67108864) := HM.out f (List.mem_of_getElem? hf)
      have HBK : Hid (Blk wr b 5 (nums .u8 f.f1 ++ holdB)) := HI.out.left i b f (Nat.le_refl _) hb hf
      have x0 : wr.cell? ⟨w.heap.size, 0, none⟩ = some (.slice (some ad) fs.length cf) := but_cell HI.out.but (HX0.out.cell 0) (fun h => h.elim HN.out.1 HN.out.2.1)
      have y1 : wr.cell? ⟨g, i * 2 + 1, none⟩ = some (.slice (some ⟨b, 0, none⟩) f.f1.length (f.f1.length + 2)) := by
        obtain ⟨cur, k1, _, k3⟩ := HI.out.row
        exact (k1.cell _).trans (k3 i b f hb hf)
      have HC1 := Lib.hid hc1; clear hc1
      have HFF := Lib.hid hf; clear hf
      have HBB := Lib.hid hb; clear hb
      have HCL := Lib.hid hc1l; clear hc1l
      have hi0 : (0 : Int) ≤ (i : Int) := Int.natCast_nonneg _
      have hi1 : (i : Int) < (fs.length : Int) := Int.ofNat_lt.2 hlt
      go_wp2
      go_quiet ((go_at_call 30; refine (kept.calls b c1 A1 f.f1 (wr.drewN _) (HBK.out.below (drawn_drewN wr _) HBK.out.lt) (Kd.C_drewN HC1.out _) HCL.out (by have := HFL.out; omega)).mono ?_; rintro e w' ⟨rfl, ⟨nd, rfl⟩⟩; exact ⟨rfl, _, World.drewN_drewN _ _ _⟩))
      have HGB : Hid (g ≠ b) := fun e => HLF.out.2.2.1 (e ▸ List.mem_of_getElem? HBB.out)
      have HK0 : Hid (But (fun m => m = b) wr (wr.drewN nq) ∧ ∃ cur, Blk (wr.drewN nq) b 5 cur ∧ cur.length = f.f1.length + 2) :=
        ⟨But.of_below (drawn_drewN wr nq), _, HBK.out.below (drawn_drewN wr nq) HBK.out.lt, by rw [List.length_append, nums_length]; rfl⟩
      have HY1 := Lib.hid y1; clear y1 x0 e0 e1
      generalize wr.drewN nq = wq at *
      go_wp2
      go_loopg [13] f.f1.length (fun q v wk => ∃ k : Nat, q + k = f.f1.length ∧ v = .int .i64 (k : Nat) ∧ Hid (But (fun m => m = b) wr wk ∧ ∃ cur, Blk wk b 5 cur ∧ cur.length = f.f1.length + 2))
      case atStart => exact ⟨0, by simp, rfl, HK0.out⟩
      case round =>
        clear HK0
        rename World => wk
        obtain ⟨k, hk, rfl, HK⟩ := hrel
        have y1 : wk.cell? ⟨g, i * 2 + 1, none⟩ = some (.slice (some ⟨b, 0, none⟩) f.f1.length (f.f1.length + 2)) := but_cell HK.out.1 HY1.out HGB.out
        by_cases hkl : k < f.f1.length
        · have hk0 : (0 : Int) ≤ (k : Int) := Int.natCast_nonneg _
          have hk1 : (k : Int) < (f.f1.length : Int) := Int.ofNat_lt.2 hkl
          obtain ⟨z, hz⟩ : ∃ z, wk.cell? ⟨b, k, none⟩ = some z := by
            obtain ⟨cur, k1, k2⟩ := HK.out.2
            exact ⟨_, (k1.cell k).trans (List.getElem?_eq_getElem (by omega))⟩
          have hzf : wk.frozen? ⟨b, k, none⟩ = false := by
            obtain ⟨cur, k1, k2⟩ := HK.out.2
            exact k1.frozen k
          have hkw : wrap64 ((k : Int) + 1) = ((k + 1 : Nat) : Int) := by have := HFL.out; rw [IntWalk.wrap64_in _ (by omega)]; rfl
          have HNK : Hid (But (fun m => m = b) wr (wk.setCell ⟨b, k, none⟩ (.int .u8 99)) ∧ ∃ cur, Blk (wk.setCell ⟨b, k, none⟩ (.int .u8 99)) b 5 cur ∧ cur.length = f.f1.length + 2) := by
            obtain ⟨cur, k1, k2⟩ := HK.out.2
            exact ⟨HK.out.1.trans2 (But.of_grown (grown_setCell wk _ _) fun q e => by cases e; rfl), _, k1.setCell k _, by rw [List.length_set]; exact k2⟩
          go_wp2
          clear y1 hz hzf hk0 hk1
          go_roundg (f.f1.length - (k + 1))
          case measure => clear hkw; omega
          case rel => exact ⟨k + 1, by clear hkw; omega, by first | rfl | rw [hkw], HNK.out⟩
        · have hk1 : ¬ (k : Int) < (f.f1.length : Int) := by omega
          obtain ⟨z, hz⟩ : ∃ z, wk.cell? ⟨g, i * 2, none⟩ = some z := by
            obtain ⟨cur, k1, k2, _⟩ := HI.out.row
            exact ⟨_, ((k1.but HK.out.1 HGB.out).cell _).trans (List.getElem?_eq_getElem (by omega))⟩
          have hzf : wk.frozen? ⟨g, i * 2, none⟩ = false := by
            obtain ⟨cur, k1, k2, _⟩ := HI.out.row
            exact (k1.but HK.out.1 HGB.out).frozen _
          have hiw : wrap64 ((i : Int) + 1) = ((i + 1 : Nat) : Int) := by have := HNF.out; rw [IntWalk.wrap64_in _ (by omega)]; rfl
          have HNI : ∀ v, Hid (Spoil W0 (wk.setCell ⟨g, i * 2, none⟩ v) g gs fs (i + 1)) := fun v => HI.out.next HLF.out.2.1 HLF.out.2.2.1 HBB.out HK.out.1 rfl
          go_wp2
          clear y1 hz hzf hk1
          go_roundg (fs.length - (i + 1))
          case measure => clear hiw; omega
          case rel => exact ⟨i + 1, by clear hiw; omega, rfl, by first | rfl | rw [hiw], (HNI _).out⟩
    · have hi1 : ¬ (i : Int) < (fs.length : Int) := by omega
      have HB1 : Hid (But (fun k => k = g ∨ k ∈ gs) W0 wr) := HI.out.but
      have HO1 : Hid (wr.ownsRow w1.heap.size 76 3 (.slice (some ⟨pg, 0, none⟩) (ps.length + 1) c3) (ps.length + 1) (troubleCells ps ++ plan77)) := row_but HO0.out HB1.out fun b hb e => by
        have e2 : pg = b := by simpa [Value.ownBlock] using e
        exact hb.elim (fun h => HGP.out.1 (by rw [e2]; exact h.symm)) fun h => HGP.out.2 (by rw [e2]; exact h)
      have HP1 : Hid (PSpoil wr wr pg ps 0) := PSpoil.start HO1.out
      have HBI : Hid (Below w.heap.size w wr) := HBW0.out.trans (HB1.out.below (fun k hk => hk.elim (fun e => e ▸ HLF.out.2.2.2.2.1) fun h => (HLF.out.2.2.2.1 k h).1) HBW0.out.size)
      have HX1 : Hid (Blk wr w.heap.size 25 [.slice Af fs.length cf, .int .i64 room, .slice Ap ps.length cp]) := HX0.out.but HB1.out (fun h => h.elim HN.out.1 HN.out.2.1)
      clear HI HO1 HO0 HX0 HL0
      have hu76 := Try.underlying76
      go_wp2
      go_loopg [11, 14] ps.length (fun q o v w6 => ∃ j : Nat, q + j = ps.length ∧ o = .bool true ∧ v = .int .i64 (j : Nat) ∧ Hid (PSpoil wr w6 pg ps j))
      case atStart => exact ⟨0, by simp, rfl, rfl, HP1.out⟩
      case round =>
        clear HP1
        rename World => w6
        obtain ⟨j, hj, rfl, rfl, HJ⟩ := hrel
        have x2 : w6.cell? ⟨w.heap.size, 2, none⟩ = some (.slice Ap ps.length cp) := but_cell HJ.out.but (HX1.out.cell 2) HN.out.2.2
        by_cases hjl : j < ps.length
        · obtain ⟨p, hp⟩ : ∃ p, ps[j]? = some p := ⟨_, List.getElem?_eq_getElem hjl⟩
          have HB6 : Hid (Below w.heap.size w w6) := HBI.out.trans (HJ.out.but.below (fun k hk => hk ▸ HPF.out.1) HBI.out.size)
          obtain ⟨ad, eA, e0, e1, e2⟩ := ps_at (Kd.C_below HP.out HB6.out) hp
          subst eA
          obtain ⟨cur, HCR⟩ : ∃ cur, Hid (Blk w6 pg 76 cur ∧ ps.length * 3 ≤ cur.length ∧ cur[j * 3]? = some (.int .i64 p.f0) ∧ cur[j * 3 + 1]? = some (.int .i64 p.f1) ∧ cur[j * 3 + 2]? = some (.int .i64 p.f2)) := by
            obtain ⟨cur, k1, k2, k3⟩ := HJ.out.row
            exact ⟨cur, k1, k2, k3 j p (Nat.le_refl _) hp⟩
          have d0 : w6.cell? ⟨pg, j * 3, none⟩ = some (.int .i64 p.f0) := (HCR.out.1.cell _).trans HCR.out.2.2.1
          have d1 : w6.cell? ⟨pg, j * 3 + 1, none⟩ = some (.int .i64 p.f1) := (HCR.out.1.cell _).trans HCR.out.2.2.2.1
          have d2 : w6.cell? ⟨pg, j * 3 + 2, none⟩ = some (.int .i64 p.f2) := (HCR.out.1.cell _).trans HCR.out.2.2.2.2
          have hj0 : (0 : Int) ≤ (j : Int) := Int.natCast_nonneg _
          have hj1 : (j : Int) < (ps.length : Int) := Int.ofNat_lt.2 hjl
          have hj2 : (j : Int) < (ps.length : Int) + 1 := by omega
          clear hp
          go_wp2
          go_quiet (fail)
          have HD6 : Hid (Below w6.heap.size w6 (w6.drewN nq)) := drawn_drewN w6 nq
          have HJ2 : Hid (PSpoil wr (w6.drewN nq) pg ps j) := by
            obtain ⟨cur', k1, k2, k3⟩ := HJ.out.row
            exact ⟨HJ.out.but.trans2 (But.of_below HD6.out), cur', k1.below HD6.out k1.lt, k2, k3⟩
          have HCQ : Hid (Blk (w6.drewN nq) pg 76 cur) := HCR.out.1.below HD6.out HCR.out.1.lt
          have HJL := Lib.hid hjl
          have hjw : wrap64 ((j : Int) + 1) = ((j + 1 : Nat) : Int) := by have := HQ.out; rw [IntWalk.wrap64_in _ (by omega)]; rfl
          clear d0 d1 d2 e0 e1 e2 x2 HJ HD6
          generalize w6.drewN nq = w7 at *
          go_wp2_with (first
            | (with_reducible refine X.store rfl 76 (.tmp 153) (.tmp 152) rfl pg (j * 3) (.agg #[.int .i64 1, .int .i64 1, .int .i64 12]) ?_ ?_ _ _ HCQ.out ?_ ?_ ?_ ?_)
            | fail)
          · rfl
          · rfl
          · exact sz76
          · have := HCR.out.2.1
            have := HJL.out
            show j * 3 + 3 ≤ _
            omega
          · intro u hu
            simp [Value.cells] at hu
            rcases hu with rfl | rfl <;> rfl
          intro w8 hb8 hg8
          have HN8 : Hid (PSpoil wr w8 pg ps (j + 1)) := HJ2.out.next HCQ.out rfl HJL.out hb8 hg8
          clear hb8 hg8 hj0 hj1 hj2
          go_wp2
          go_roundg (ps.length - (j + 1))
          case measure => clear hjw; omega
          case rel => exact ⟨j + 1, by clear hjw; omega, rfl, by first | rfl | rw [hjw], HN8.out⟩
        · have hj1 : ¬ (j : Int) < (ps.length : Int) := by omega
          have HFIN := HEND.out w6 ((HB1.out.imp fun k hk => .inl hk).trans2 (HJ.out.but.imp fun k hk => .inr hk))
          have HFN := Lib.hid HFIN; clear HFIN
          go_wp2
          go_ret3
          exact HFN.out
end Go.Proofs.Ytplknppmaepinaa.S
/- ShelfMakes: the walk. -/
namespace Go.Proofs.Ytplknppmaepinaa.S
open Go Go.RowKit Go.X Go.Maps Go.Proofs.YtplknppmaepinaaW.PrintWords Go.Proofs.Ytplknppmaepinaa.F
set_option maxRecDepth 100000

theorem Good.noname {s : Sh} (h : Good s) : hasN s.L ⟨#[]⟩ = false := by
  rw [Bool.eq_false_iff]
  intro hh
  obtain ⟨f, hf, e⟩ := hasN_iff.1 hh
  have := h.names f hf
  rw [ky_inj e] at this
  revert this
  decide
/-- A shelf begun, and the document's: told at once. -/
structure Begun (w : World) (N : Nat) (sb rb m : Nat) (s : Sh) : Prop where
  good : Good s
  shelf : ShelfAt w (fun k => N ≤ k ∧ k < m) sb s
  ref : RefAt w (fun k => m ≤ k) rb s
theorem Begun.keep {w w' : World} {N sb rb m : Nat} {s : Sh} (h : Begun w N sb rb m s) (hb : Below w.heap.size w w') : Begun w' N sb rb m s := ⟨h.good, h.shelf.keep (Keeps.below hb), h.ref.keep (Keeps.below hb)⟩
theorem FilesAt.same {w w' : World} {ok ok' : Nat → Prop} {v u : Value} {L : List S73} (h : FilesAt w ok v L) (h' : FilesAt w' ok' u L) (hb : Below w.heap.size w w') (hl : L.length ≤ 67108864) (hm : ∀ f ∈ L, f.f1.length ≤ 67108864) :
    Calls Try.prog 10 #[v, u] w' fun e w'' => e = .returned (.bool true) ∧ Drawn0 w' w'' := by
  obtain ⟨A, c, rfl, k1, k2⟩ := h.slice
  obtain ⟨A', c', rfl, k3, k4⟩ := h'.slice
  exact dowellaw01_sameFiles.calls (L.length + 67108864 + 2) A c L A' c' L true w' (Kd.C_below k2 hb) k1 k4 k3 (same_f L 67108864 (by omega) hm (by omega))
theorem RefAt.left {w : World} {ok : Nat → Prop} {rb : Nat} {s : Sh} (h : RefAt w ok rb s) (hg : Good s) : Calls Try.prog 14 #[.pointer (some ⟨rb, 0, none⟩)] w fun e w' => e = .returned (.int .i64 (s.room - szL s.L)) ∧ Drawn0 w w' := by
  obtain ⟨lv, pv, cv, h1, h2, -⟩ := h.out
  obtain ⟨A, c, rfl, k1, k2⟩ := h2.slice
  exact refLeft.calls rb A c s.L s.room w (h1.cell 0) (h1.cell 1) k2 (by have := hg.few; omega) (by have := hg.fits; have := hg.room1; omega) hg.noname ⟨hg.room0, hg.room1⟩
set_option maxHeartbeats 8000000 in
theorem makes.calls (Af Ap : Option Addr) (cf cp : Nat) (fs : List S73) (ps : List S76) (room : Int) (w : World) (hf : Kd.C k73 w Af fs.length fs) (hp : Kd.C k76 w Ap ps.length ps) (hcf : fs.length ≤ cf) (hcp : ps.length ≤ cp) (hn : fs.length ≤ 140737488355328) (hm : ∀ f ∈ fs, f.f1.length ≤ 140737488355328) (hz : ∀ f ∈ fs, f.f0.size ≤ maxLen) (hq : ps.length ≤ 5864062014804)
    (hwf : ∀ p ∈ ps, (Lit.int .i64 p.f0).wf = true ∧ (Lit.int .i64 p.f1).wf = true ∧ (Lit.int .i64 p.f2).wf = true) :
    Calls Try.prog 3 #[.agg #[.slice Af fs.length cf, .int .i64 room, .slice Ap ps.length cp]] w fun e w' => e = .returned (.bool true) ∧ Below w.heap.size w w' := by
  obtain ⟨W, hW⟩ : ∃ W, wl 0 fs = W := ⟨_, rfl⟩
  have hwt := weight_f fs hn hm
  rw [hW] at hwt
  have HB0 : Hid (Below w.heap.size w (w.alloc (.cells #[.slice Af fs.length cf, .int .i64 room, .slice Ap ps.length cp] 25)) ∧ Blk (w.alloc (.cells #[.slice Af fs.length cf, .int .i64 room, .slice Ap ps.length cp] 25)) w.heap.size 25 [.slice Af fs.length cf, .int .i64 room, .slice Ap ps.length cp]) :=
    ⟨(Below.refl _ _).alloc (Nat.le_refl _) _, Blk.alloc w _ _⟩
  have HF := Lib.hid hf; clear hf
  have HP := Lib.hid hp; clear hp
  have HCF := Lib.hid hcf; clear hcf
  have HCP := Lib.hid hcp; clear hcp
  have HM := Lib.hid hm; clear hm
  have HZ := Lib.hid hz; clear hz
  have HQ := Lib.hid hq; clear hq
  have HNF := Lib.hid hn; clear hn
  have HWF := Lib.hid hwf; clear hwf
  have HWT := Lib.hid hwt; clear hwt
  have HW := Lib.hid hW; clear hW
  by_cases hg : W > 67108864
  · go_enter Try.func3, Try.ntmps3
    go_wp2_with (first
      | (go_at_call 8; refine (dowellaw01_weight.calls _ Af cf fs W _ (Kd.C_below HF.out HB0.out.1) HCF.out HWT.out).mono ?_; rintro e w1 ⟨rfl, hd⟩
         have HB1 : Hid (Below w.heap.size w w1) := HB0.out.1.trans (hd.below.mono HB0.out.1.size)
         clear hd; dsimp only)
      | fail)
    go_ret
    exact ⟨rfl, HB1.out⟩
  · have hsz := wl_le fs 0 (by rw [HW.out]; omega)
    have HSZ := Lib.hid hsz; clear hsz
    have HM2 : Hid (∀ f ∈ fs, f.f1.length ≤ 67108864) := fun f hf => by have := len_sz hf; have := HSZ.out; omega
    by_cases hx : newE fs room ps = 0
    · go_enter Try.func3, Try.ntmps3
      go_wp2_with (first
        | (go_at_call 8; refine (dowellaw01_weight.calls _ Af cf fs W _ (Kd.C_below HF.out HB0.out.1) HCF.out HWT.out).mono ?_; rintro e w1 ⟨rfl, hd⟩
           have HB1 : Hid (Below w.heap.size w w1) := HB0.out.1.trans (hd.below.mono HB0.out.1.size)
           have HX1 : Hid (Blk w1 w.heap.size 25 [.slice Af fs.length cf, .int .i64 room, .slice Ap ps.length cp]) := HB0.out.2.below hd.below HB0.out.2.lt
           have b0 := HX1.out.cell 0
           have b1 := HX1.out.cell 1
           have b2 := HX1.out.cell 2
           clear hd; dsimp only)
        | (go_at_call 9; refine (begin.calls Af Ap cf cp fs ps room w1 (Kd.C_below HF.out HB1.out) (Kd.C_below HP.out HB1.out) HCF.out HCP.out (by have := HSZ.out; omega) HM2.out HZ.out HQ.out HWF.out).mono ?_; rintro e w2 ⟨hb2, sp, rp, rfl, hrp, hS⟩
           have HB2 : Hid (Below w.heap.size w w2) := HB1.out.trans (hb2.mono HB1.out.size)
           obtain ⟨sb, rb, m, rfl, rfl, hm, hsh, hrf⟩ := hS hx
           have HS2 : Hid (Begun w2 w1.heap.size sb rb m (newS fs room ps)) := ⟨newS_good hx, hsh, hrf⟩
           clear hb2 hrp hS b0 b1 b2 hm hsh hrf)
        | fail)
      have HG : Hid (Good (newS fs room ps)) := newS_good hx
      have HL : Hid ((newS fs room ps).L.length ≤ 67108864 ∧ ∀ f ∈ (newS fs room ps).L, f.f1.length ≤ 67108864) := ⟨by have := HG.out.few; omega, fun f hf => by have := len_sz hf; have := HG.out.fits; have := HG.out.room1; omega⟩
      have HALL : Hid ((newS fs room ps).all = []) := rfl
      clear hx
      generalize newS fs room ps = S at *
      go_wp2_with (first
        | (go_at_call 11; refine (files.calls HS2.out.shelf HG.out).mono ?_; rintro e w3 ⟨v3, rfl, hf3, hb3⟩
           have HF3 := Lib.hid hf3
           have HS3 : Hid (Begun w3 w1.heap.size sb rb m S) := HS2.out.keep hb3
           have HB3 : Hid (Below w.heap.size w w3) := HB2.out.trans (hb3.mono HB2.out.size)
           clear hf3 hb3)
        | (go_at_call 12; refine (refFiles.calls HS3.out.ref HG.out).mono ?_; rintro e w4 ⟨v4, rfl, hf4, hb4⟩
           have HF4 := Lib.hid hf4
           have HB34 : Hid (Below w3.heap.size w3 w4) := hb4
           have HS4 : Hid (Begun w4 w1.heap.size sb rb m S) := HS3.out.keep hb4
           have HB4 : Hid (Below w.heap.size w w4) := HB3.out.trans (hb4.mono HB3.out.size)
           clear hf4 hb4)
        | (go_at_call 10; refine (FilesAt.same HF3.out HF4.out HB34.out HL.out.1 HL.out.2).mono ?_; rintro e w5 ⟨rfl, hd⟩
           have HS5 : Hid (Begun w5 w1.heap.size sb rb m S) := HS4.out.keep hd.below
           have HB5 : Hid (Below w.heap.size w w5) := HB4.out.trans (hd.below.mono HB4.out.size)
           clear hd)
        | (go_at_call 13; refine (left.calls HS5.out.shelf HG.out).mono ?_; rintro e w6 ⟨rfl, hd⟩
           have HS6 : Hid (Begun w6 w1.heap.size sb rb m S) := HS5.out.keep hd.below
           have HB6 : Hid (Below w.heap.size w w6) := HB5.out.trans (hd.below.mono HB5.out.size)
           clear hd)
        | (go_at_call 14; refine (RefAt.left HS6.out.ref HG.out).mono ?_; rintro e w7 ⟨rfl, hd⟩
           have HS7 : Hid (Begun w7 w1.heap.size sb rb m S) := HS6.out.keep hd.below
           have HB7 : Hid (Below w.heap.size w w7) := HB6.out.trans (hd.below.mono HB6.out.size)
           clear hd)
        | (go_at_call 15; refine (calls.calls HS7.out.shelf (by rw [HALL.out]; decide)).mono ?_; rintro e w8 ⟨v8, rfl, hr8, hb8⟩
           obtain ⟨A8, c8, rfl⟩ := own_slice hr8
           have HB8 : Hid (Below w.heap.size w w8) := HB7.out.trans (hb8.mono HB7.out.size)
           rw [HALL.out]
           clear hr8 hb8)
        | fail)
      go_ret
      exact ⟨rfl, HB8.out⟩
    · go_enter Try.func3, Try.ntmps3
      go_wp2_with (first
        | (go_at_call 8; refine (dowellaw01_weight.calls _ Af cf fs W _ (Kd.C_below HF.out HB0.out.1) HCF.out HWT.out).mono ?_; rintro e w1 ⟨rfl, hd⟩
           have HB1 : Hid (Below w.heap.size w w1) := HB0.out.1.trans (hd.below.mono HB0.out.1.size)
           have HX1 : Hid (Blk w1 w.heap.size 25 [.slice Af fs.length cf, .int .i64 room, .slice Ap ps.length cp]) := HB0.out.2.below hd.below HB0.out.2.lt
           have b0 := HX1.out.cell 0
           have b1 := HX1.out.cell 1
           have b2 := HX1.out.cell 2
           clear hd; dsimp only)
        | (go_at_call 9; refine (begin.calls Af Ap cf cp fs ps room w1 (Kd.C_below HF.out HB1.out) (Kd.C_below HP.out HB1.out) HCF.out HCP.out (by have := HSZ.out; omega) HM2.out HZ.out HQ.out HWF.out).mono ?_; rintro e w2 ⟨hb2, sp, rp, rfl, hrp, hS⟩
           have HB2 : Hid (Below w.heap.size w w2) := HB1.out.trans (hb2.mono HB1.out.size)
           obtain rfl : rp = none := hrp.2 hx
           clear hb2 hrp hS b0 b1 b2)
        | fail)
      go_ret
      exact ⟨rfl, HB2.out⟩
end Go.Proofs.Ytplknppmaepinaa.S
