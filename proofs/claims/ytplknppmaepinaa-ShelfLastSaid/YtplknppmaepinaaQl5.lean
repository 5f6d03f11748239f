/- Texts joined and shortened (wip/tools/shrink.py): ShLastP, ShWorks, ShMakes, ShBin, ShReg, ShLast. -/
import Derived.Test.YtplknppmaepinaaQl4
import Derived.Lib.SlBytesConst
import Derived.Test.YtplknppmaepinaaQl1
import Derived.Test.YtplknppmaepinaaQl3
import Derived.Deep.CutRange
import Derived.Deep.CutBlock
/- What was written last under a name, in plain Lean; a row of steps that were done, beside the shelf. -/
namespace Go.Proofs.Ytplknppmaepinaa.S
open Go Go.RowKit Go.X Go.Proofs.YtplknppmaepinaaW.PrintWords Go.Proofs.Ytplknppmaepinaa.F

/-- The last step under a name; none: all zero. -/
def lastO (n : ByteArray) (done : List S41) : S41 := done.foldl (fun acc o => if ky o.f1 = ky n then o else acc) z41
theorem lastO_snoc (n : ByteArray) (done : List S41) (o : S41) : lastO n (done ++ [o]) = if ky o.f1 = ky n then o else lastO n done := by
  simp [lastO, List.foldl_append]
theorem lastO_take {done : List S41} {k : Nat} {o : S41} (n : ByteArray) (h : done[k]? = some o) : lastO n (done.take (k + 1)) = if ky o.f1 = ky n then o else lastO n (done.take k) := by
  have hlt := (List.getElem?_eq_some_iff.1 h).1
  rw [List.take_succ_eq_append_getElem hlt, (List.getElem?_eq_some_iff.1 h).2, lastO_snoc]
/-- The files are what the steps left. -/
structure DoneOK (done : List S41) (L : List S73) : Prop where
  has : ∀ n, hasN L n = true ↔ (lastO n done).f0 = 2
  look : ∀ n, (lastO n done).f0 = 2 → lookL n L = (lastO n done).f2
  kinds : ∀ o ∈ done, o.f0 = 2 ∨ o.f0 = 3
theorem DoneOK.nil : DoneOK [] [] := ⟨fun n => by simp [hasN, lastO, z41], fun n h => by simp [lastO, z41] at h, fun o h => by cases h⟩
theorem DoneOK.wr {done : List S41} {L : List S73} {o : S41} (h : DoneOK done L) (hr : Rises L) (h2 : o.f0 = 2) : DoneOK (done ++ [o]) (putL o.f1 o.f2 L) := by
  refine ⟨fun n => ?_, fun n hn => ?_, fun p hp => ?_⟩
  · rw [has_putL, lastO_snoc]
    by_cases e : ky o.f1 = ky n
    · simp [e, h2]
    · simp only [if_neg e]
      rw [← h.has n]
      simp [e]
  · rw [look_putL hr, lastO_snoc] at *
    by_cases e : ky o.f1 = ky n
    · simp [e]
    · rw [if_neg e] at hn ⊢
      rw [if_neg e]
      exact h.look n hn
  · rcases List.mem_append.1 hp with hp | hp
    · exact h.kinds p hp
    · simp at hp; rw [hp]; exact .inl h2
theorem DoneOK.rem {done : List S41} {L : List S73} {o : S41} (h : DoneOK done L) (hr : Rises L) (h3 : o.f0 = 3) : DoneOK (done ++ [o]) (delL o.f1 L) := by
  refine ⟨fun n => ?_, fun n hn => ?_, fun p hp => ?_⟩
  · rw [has_delL hr, lastO_snoc]
    by_cases e : ky o.f1 = ky n
    · simp [e, h3]
    · simp only [if_neg e]
      rw [← h.has n]
      simp [e]
  · rw [lastO_snoc] at *
    by_cases e : ky o.f1 = ky n
    · rw [if_pos e] at hn; omega
    · rw [if_neg e] at hn ⊢
      rw [look_delL e]
      exact h.look n hn
  · rcases List.mem_append.1 hp with hp | hp
    · exact h.kinds p hp
    · simp at hp; rw [hp]; exact .inr h3
theorem askE_plain {s : Sh} (h : s.plan = []) (c : Int) (n : ByteArray) (lk : Int) : askE s c n lk = if nmOK n then lk else 10 := by
  unfold askE
  rw [h]
  simp [planF]
/-- The names of files are names. -/
theorem Good.named {s : Sh} (h : Good s) {n : ByteArray} (hn : hasN s.L n = true) : nmOK n = true := by
  obtain ⟨f, hf, e⟩ := hasN_iff.1 hn
  rw [← ky_inj e]
  exact h.names f hf
theorem read_has {s : Sh} (hg : Good s) (hp : s.plan = []) {n : ByteArray} (h : hasN s.L n = true) : askE s 1 n (lkE s n) = 0 := by
  rw [askE_plain hp, if_pos (hg.named h), lkE, if_pos h]
theorem read_not {s : Sh} (hp : s.plan = []) {n : ByteArray} (h : ¬ hasN s.L n = true) : askE s 1 n (lkE s n) ≠ 0 := by
  rw [askE_plain hp, lkE, if_neg h]
  split <;> decide
def nameA : ByteArray := ⟨#[97]⟩
theorem nameA_ok : nmOK nameA = true := by kernel_rfl
/-- Into an empty shelf "a" can be written. -/
theorem write_a {s : Sh} (hp : s.plan = []) (hL : s.L = []) (hr : s.room = 16777216) {d : List Int} (hd : (d.length : Int) ≤ 16777216) : askE s 2 nameA (lkW s nameA d) = 0 := by
  rw [askE_plain hp, if_pos nameA_ok, lkW, hL, if_neg]
  rintro (⟨_, h⟩ | h)
  · simp at h
  · simp [szBut] at h
    omega
/-- How much a script holds. -/
def szO : List S41 → Nat
  | [] => 0
  | o :: r => 1 + o.f2.length + szO r
theorem szO_append (xs ys : List S41) : szO (xs ++ ys) = szO xs + szO ys := by
  induction xs with
  | nil => simp [szO]
  | cons x r ih => simp only [List.cons_append, szO, ih]; omega
theorem szO_take {os : List S41} {i : Nat} {o : S41} (h : os[i]? = some o) : szO (os.take (i + 1)) = szO (os.take i) + (1 + o.f2.length) := by
  have hlt := (List.getElem?_eq_some_iff.1 h).1
  rw [List.take_succ_eq_append_getElem hlt, (List.getElem?_eq_some_iff.1 h).2, szO_append]
  simp [szO]
theorem szO_mem {os : List S41} {o : S41} (h : o ∈ os) : o.f2.length ≤ szO os := by
  induction os with
  | nil => cases h
  | cons x r ih =>
    unfold szO
    rcases List.mem_cons.1 h with rfl | h
    · omega
    · have := ih h; omega

/-- Steps done so far, and the shelf: in memory apart. -/
structure LB (w w2 wr : World) (N sb : Nat) (vD : Value) (done : List S41) (cs : List Value) (okS : Nat → Prop) (s : Sh) : Prop where
  mk' ::
  sh : ShelfAt wr okS sb s
  okB : ∀ k, okS k → N ≤ k ∧ k < wr.heap.size
  reps : Reps (k41.K w) 5 done cs
  row : wr.ownsRow N 41 5 vD done.length cs
  apart : ∀ g, vD.ownBlock = some g → ¬ okS g
  bel : Below N w2 wr
  le : N ≤ w2.heap.size
theorem LB.keep {w w2 wr w' : World} {N sb : Nat} {vD : Value} {done : List S41} {cs : List Value} {okS : Nat → Prop} {s : Sh} (h : LB w w2 wr N sb vD done cs okS s) (hb : Below wr.heap.size wr w') : LB w w2 w' N sb vD done cs okS s :=
  ⟨h.sh.keep (Keeps.below hb), fun k hk => ⟨(h.okB k hk).1, Nat.lt_of_lt_of_le (h.okB k hk).2 hb.size⟩, h.reps, ownsRow_keep (ok := fun _ => True) h.row (Keeps.below hb) (fun _ _ => trivial), h.apart, h.bel.trans (hb.mono (Nat.le_trans h.le h.bel.size)), h.le⟩
theorem LB.step {w w2 wr w' : World} {N sb : Nat} {vD : Value} {done : List S41} {cs : List Value} {okS : Nat → Prop} {s s' : Sh} (h : LB w w2 wr N sb vD done cs okS s) (hb : But okS wr w') (hs : ShelfAt w' (fun k => okS k ∨ wr.heap.size ≤ k) sb s') :
    LB w w2 w' N sb vD done cs (fun k => (okS k ∨ wr.heap.size ≤ k) ∧ k < w'.heap.size) s' := by
  have hle := Nat.le_trans h.le h.bel.size
  refine ⟨hs.bound, fun k hk => ⟨hk.1.elim (fun h1 => (h.okB k h1).1) fun h1 => Nat.le_trans hle h1, hk.2⟩, h.reps, ?_, fun g hg hk => ?_, h.bel.trans (hb.below (fun k hk => (h.okB k hk).1) hle), h.le⟩
  · exact ownsRow_keep (ok := fun k => ¬ okS k) h.row (Keeps.but hb fun k hk => hk) h.apart
  · exact hk.1.elim (h.apart g hg) fun h1 => Nat.not_lt.2 h1 (own_lt h.row g hg)
theorem LB.app {w w2 wr w7 w8 : World} {N sb : Nat} {vD v8 : Value} {done : List S41} {cs oc : List Value} {okS : Nat → Prop} {s : Sh} {o : S41} (h : LB w w2 wr N sb vD done cs okS s) (hb : Below wr.heap.size wr w7) (ho : k41.K w o oc)
    (hr : w8.ownsRow N 41 5 v8 (done.length + 1) (cs ++ oc)) (ha : Appended w7 w8 41 5 vD v8 done.length) : LB w w2 w8 N sb v8 (done ++ [o]) (cs ++ oc) okS s := by
  have h7 := h.keep hb
  have hg := ha.grown
  refine ⟨h7.sh.keep (Keeps.grown hg fun k hk e => h.apart k e.symm hk), fun k hk => ⟨(h7.okB k hk).1, Nat.lt_of_lt_of_le (h7.okB k hk).2 hg.size⟩, h.reps.snoc ho (k41.K_len ho), by simpa using hr, fun g hg' hk => ?_, ?_, h.le⟩
  · rcases ha.place with h1 | ⟨h1, _⟩
    · rw [h1] at hg'; exact h.apart g hg' hk
    · rw [h1] at hg'
      injection hg' with e
      have := (h7.okB g hk).2
      omega
  · exact h7.bel.grown hg (Nat.le_trans h.le h7.bel.size) fun k e => own_base h7.row k e
/-- What the steps and the files have to do with one another. -/
structure LP (i : Nat) (done : List S41) (s : Sh) : Prop where
  good : Good s
  room : s.room = 16777216
  plan : s.plan = []
  few : s.all.length ≤ i ∧ done.length ≤ i
  ok : DoneOK done s.L
  first : done = [] → s.L = []
  lens : ∀ o ∈ done, o.f2.length ≤ 140737488355328
theorem opS_plan (s : Sh) (o : S41) : (opS s o).plan = s.plan := by
  unfold opS
  split
  · rfl
  · split
    · rfl
    · split <;> rfl
theorem opN_le (o : S41) : opN o ≤ 1 := by unfold opN; split <;> omega
theorem LP.fail {i : Nat} {done : List S41} {s : Sh} {o : S41} (h : LP i done s) (he : opE s o ≠ 0) : LP (i + 1) done (opS s o) := by
  have hs := opS_same (s := s) (o := o) (.inr he)
  have hn := opN_le o
  exact ⟨opS_good h.good o, (opS_room s o).trans h.room, (opS_plan s o).trans h.plan, ⟨by rw [opS_all]; have := h.few.1; omega, by have := h.few.2; omega⟩, by rw [hs]; exact h.ok, by rw [hs]; exact h.first, h.lens⟩
theorem LP.skip {i : Nat} {done : List S41} {s : Sh} (h : LP i done s) : LP (i + 1) done s := ⟨h.good, h.room, h.plan, ⟨by have := h.few.1; omega, by have := h.few.2; omega⟩, h.ok, h.first, h.lens⟩
theorem LP.done {i : Nat} {done : List S41} {s : Sh} {o : S41} (h : LP i done s) (he : opE s o = 0) (hk : o.f0 = 2 ∨ o.f0 = 3) (hl : o.f2.length ≤ 140737488355328) : LP (i + 1) (done ++ [o]) (opS s o) := by
  have hn := opN_le o
  refine ⟨opS_good h.good o, (opS_room s o).trans h.room, (opS_plan s o).trans h.plan, ⟨by rw [opS_all]; have := h.few.1; omega, by simp; have := h.few.2; omega⟩, ?_, by simp, fun p hp => (List.mem_append.1 hp).elim (h.lens p) fun h1 => by rw [List.mem_singleton.1 h1]; exact hl⟩
  have h1 : ¬ o.f0 = 1 := by omega
  rcases hk with hk | hk
  · have e : (opS s o).L = putL o.f1 o.f2 s.L := by
      rw [opE, if_neg h1, if_pos hk] at he
      rw [opS, if_neg h1, if_pos hk]
      show (if askE s 2 o.f1 (lkW s o.f1 o.f2) = 0 then putL o.f1 o.f2 s.L else s.L) = _
      rw [if_pos he]
    rw [e]
    exact h.ok.wr h.good.rises hk
  · have h2 : ¬ o.f0 = 2 := by omega
    have e : (opS s o).L = delL o.f1 s.L := by
      rw [opE, if_neg h1, if_neg h2, if_pos hk] at he
      rw [opS, if_neg h1, if_neg h2, if_pos hk]
      show (if askE s 3 o.f1 (lkE s o.f1) = 0 then delL o.f1 s.L else s.L) = _
      rw [if_pos he]
    rw [e]
    exact h.ok.rem h.good.rises hk
theorem LP.a {i : Nat} {s : Sh} {o : S41} (h : LP i [] s) (hk : o.f0 = 2) (hn : o.f1 = nameA) (hd : (o.f2.length : Int) ≤ 16777216) : opE s o = 0 := by
  have h1 : ¬ o.f0 = 1 := by omega
  rw [opE, if_neg h1, if_pos hk, hn]
  exact write_a h.plan (h.first rfl) h.room hd
theorem LP.note {i : Nat} {done : List S41} {s : Sh} (h : LP i done s) (n : ByteArray) (e : Int) : LP (i + 1) done (s.note 1 n e) :=
  ⟨h.good.note _ _ _, h.room, h.plan, ⟨by have := h.few.1; simp [Sh.note]; omega, by have := h.few.2; omega⟩, h.ok, h.first, h.lens⟩
theorem LP.mono {i i' : Nat} {done : List S41} {s : Sh} (h : LP i done s) (hi : i ≤ i') : LP i' done s := ⟨h.good, h.room, h.plan, ⟨Nat.le_trans h.few.1 hi, Nat.le_trans h.few.2 hi⟩, h.ok, h.first, h.lens⟩
/-- A block apart from both is written. -/
theorem LB.but {w w2 wr w' : World} {N sb lb : Nat} {vD : Value} {done : List S41} {cs : List Value} {okS : Nat → Prop} {s : Sh} (h : LB w w2 wr N sb vD done cs okS s) (hb : But (fun k => k = lb) wr w') (hN : N ≤ lb) (h1 : ¬ okS lb) (h2 : vD.ownBlock ≠ some lb) : LB w w2 w' N sb vD done cs okS s :=
  ⟨h.sh.keep (Keeps.but hb fun _ hk e => h1 (e ▸ hk)), fun k hk => ⟨(h.okB k hk).1, Nat.lt_of_lt_of_le (h.okB k hk).2 hb.size⟩, h.reps, ownsRow_keep (ok := fun k => k ≠ lb) h.row (Keeps.but hb fun _ hk => hk) (fun _ hg e => h2 (e ▸ hg)), h.apart, h.bel.trans (hb.below (fun _ hk => hk ▸ hN) (Nat.le_trans h.le h.bel.size)), h.le⟩
/-- One of the steps done, where it lies. -/
theorem LB.at {w w2 wr : World} {N sb : Nat} {A : Option Addr} {c k : Nat} {done : List S41} {cs : List Value} {okS : Nat → Prop} {s : Sh} {d : S41} (h : LB w w2 wr N sb (.slice A done.length c) done cs okS s) (hd : done[k]? = some d) :
    ∃ g A2 c2, A = some ⟨g, 0, none⟩ ∧ wr.cell? ⟨g, k * 5, none⟩ = some (.int .i64 d.f0) ∧ wr.cell? ⟨g, k * 5 + 1, none⟩ = some (.string d.f1) ∧ wr.cell? ⟨g, k * 5 + 2, none⟩ = some (.slice A2 d.f2.length c2) ∧ wr.cell? ⟨g, k * 5 + 3, none⟩ = some (.int .i64 d.f3) ∧ wr.cell? ⟨g, k * 5 + 4, none⟩ = some (.bool d.f4) ∧ d.f2.length ≤ c2 ∧ Kd.C (Kd.int .u8) w A2 d.f2.length d.f2 := by
  obtain ⟨A2, c2, e2, l2, g2⟩ := k41_open (h.reps.2 k d hd)
  have hlt := (List.getElem?_eq_some_iff.1 hd).1
  rcases h.row.2 with ⟨_, h0⟩ | ⟨g, cap, cur, e, _, hh, h1, h2, h3, h4⟩
  · omega
  · cases e
    have hc : ∀ m, m < 5 → wr.cell? ⟨g, k * 5 + m, none⟩ = ((cs.drop (k * 5)).take 5)[m]? := fun m hm => by
      have hb : Blk wr g 41 cur.toList := by simpa [Blk] using hh
      rw [hb.cell, List.getElem?_take, if_pos hm, List.getElem?_drop, ← h4, List.getElem?_take, if_pos (by omega)]
    rw [e2] at hc
    exact ⟨g, A2, c2, rfl, hc 0 (by omega), hc 1 (by omega), hc 2 (by omega), hc 3 (by omega), hc 4 (by omega), l2, g2⟩
/-- A variable that holds a step. -/
structure OpVar (w wk : World) (lb : Nat) (o : S41) (A : Option Addr) (c : Nat) : Prop where
  blk : Blk wk lb 41 [.int .i64 o.f0, .string o.f1, .slice A o.f2.length c, .int .i64 o.f3, .bool o.f4]
  len : o.f2.length ≤ c
  data : Kd.C (Kd.int .u8) w A o.f2.length o.f2
theorem lastO_len {n : ByteArray} {m : Nat} {done : List S41} (h : ∀ o ∈ done, o.f2.length ≤ m) : (lastO n done).f2.length ≤ m := by
  have H : ∀ (done : List S41) (acc : S41), acc.f2.length ≤ m → (∀ o ∈ done, o.f2.length ≤ m) → (done.foldl (fun acc o => if ky o.f1 = ky n then o else acc) acc).f2.length ≤ m := by
    intro done
    induction done with
    | nil => exact fun acc h _ => h
    | cons x r ih =>
      intro acc ha h
      refine ih _ ?_ fun o ho => h o (List.mem_cons_of_mem _ ho)
      show (if ky x.f1 = ky n then x else acc).f2.length ≤ m
      split
      · exact h x (List.mem_cons_self ..)
      · exact ha
  exact H done z41 (by simp [z41]) h
theorem str_yes {a b : ByteArray} (h : ky a = ky b) : (a.toList == b.toList) = true := by rw [ByteArray.toList_eq, ByteArray.toList_eq]; simpa [ky] using h
theorem str_no {a b : ByteArray} (h : ¬ ky a = ky b) : (a.toList == b.toList) = false := by rw [ByteArray.toList_eq, ByteArray.toList_eq, beq_eq_false_iff_ne]; exact h
end Go.Proofs.Ytplknppmaepinaa.S
/- The law's works: a file is written, read, told and removed. -/
namespace Go.Proofs.Ytplknppmaepinaa.S
open Go Go.RowKit Go.X Go.Maps Go.Proofs.YtplknppmaepinaaW.PrintWords Go.Proofs.Ytplknppmaepinaa.F
set_option maxRecDepth 100000
def nA : ByteArray := ⟨#[97]⟩
def nB : ByteArray := ⟨#[98]⟩
def wFs : List S73 := [⟨nA, [120, 121, 122]⟩]
def wPs : List S76 := [⟨1, 2, 12⟩]
def wS0 : Sh := newS wFs 9 wPs
def wS1 : Sh := wS0.note 1 nA 0
def wS2 : Sh := wS1.note 1 nA 12
def wS3 : Sh := wS2.wr nB [49, 50]
def wS4 : Sh := wS3.rem nA
theorem w_new : newE wFs 9 wPs = 0 := by kernel_rfl
theorem w_read1 : askE wS0 1 nA (lkE wS0 nA) = 0 := by kernel_rfl
theorem w_look1 : lookL nA wS0.L = [120, 121, 122] := by kernel_rfl
theorem w_read2 : askE wS1 1 nA (lkE wS1 nA) = 12 := by kernel_rfl
theorem w_write : askE wS2 2 nB (lkW wS2 nB [49, 50]) = 0 := by kernel_rfl
theorem w_rem : askE wS3 3 nA (lkE wS3 nA) = 0 := by kernel_rfl
theorem w_len : wS3.L = [⟨nA, [120, 121, 122]⟩, ⟨nB, [49, 50]⟩] := by kernel_rfl
theorem w_left : wS3.room - (szL wS3.L : Int) = 4 := by kernel_rfl
theorem w_calls : wS4.all.length = 4 := by kernel_rfl

/-- Bytes of a constant: their row bears the run-time's mark; its cells read as ever. -/
theorem C_mark {w : World} {b : Nat} {bs : List Int} {fr : Nat × Nat} (h : w.heap[b]? = some (.cells (nums .u8 bs).toArray 5 fr)) (hm : bs.length ≤ 9223372036854775807) : Kd.C (Kd.int .u8) w (some ⟨b, 0, none⟩) bs.length bs := by
  refine ⟨rfl, hm, fun _ => ⟨_, rfl, fun j p hj => ⟨[.int .u8 p], rfl, rfl, fun i u hu => ?_⟩⟩⟩
  cases i with
  | succ i => simp at hu
  | zero =>
    simp at hu
    subst hu
    have e : w.cell? ⟨b, j, none⟩ = (nums .u8 bs)[j]? := by simp [World.cell?, h]
    rw [add_plain]
    have e2 : (⟨b, j * (Kd.int .u8).sz + 0, none⟩ : Addr) = ⟨b, j, none⟩ := by
      show (⟨b, j * 1 + 0, none⟩ : Addr) = _
      simp
    rw [e2, e]
    simp [nums, hj]
def abc (w : World) : World := ((w.alloc (.cells #[.int .u8 120, .int .u8 121, .int .u8 122] 5 (3, 4))).alloc (.cells #[.string nA, .slice (some ⟨w.heap.size, 0, none⟩) 3 3] 73)).alloc (.cells #[.int .i64 1, .int .i64 2, .int .i64 12] 76)
/-- What works makes first: three bytes, a file, a trouble. -/
theorem works_made (w : World) : Below w.heap.size w (abc w) ∧ Kd.C k73 (abc w) (some ⟨w.heap.size + 1, 0, none⟩) wFs.length wFs ∧ Kd.C k76 (abc w) (some ⟨w.heap.size + 1 + 1, 0, none⟩) wPs.length wPs := by
  have e1 : (w.alloc (.cells #[.int .u8 120, .int .u8 121, .int .u8 122] 5 (3, 4))).heap.size = w.heap.size + 1 := by simp
  have e2 : ((w.alloc (.cells #[.int .u8 120, .int .u8 121, .int .u8 122] 5 (3, 4))).alloc (.cells #[.string nA, .slice (some ⟨w.heap.size, 0, none⟩) 3 3] 73)).heap.size = w.heap.size + 1 + 1 := by simp
  have k0 := heap_alloc_new w (.cells #[.int .u8 120, .int .u8 121, .int .u8 122] 5 (3, 4))
  have k1 := Blk.alloc (w.alloc (.cells #[.int .u8 120, .int .u8 121, .int .u8 122] 5 (3, 4))) #[.string nA, .slice (some ⟨w.heap.size, 0, none⟩) 3 3] 73
  have k2 := Blk.alloc ((w.alloc (.cells #[.int .u8 120, .int .u8 121, .int .u8 122] 5 (3, 4))).alloc (.cells #[.string nA, .slice (some ⟨w.heap.size, 0, none⟩) 3 3] 73)) #[.int .i64 1, .int .i64 2, .int .i64 12] 76
  rw [e1] at k1
  rw [e2] at k2
  have b1 := (Below.refl _ (w.alloc (.cells #[.int .u8 120, .int .u8 121, .int .u8 122] 5 (3, 4)))).alloc (Nat.le_refl _) (.cells #[.string nA, .slice (some ⟨w.heap.size, 0, none⟩) 3 3] 73)
  have b2 := (Below.refl _ ((w.alloc (.cells #[.int .u8 120, .int .u8 121, .int .u8 122] 5 (3, 4))).alloc (.cells #[.string nA, .slice (some ⟨w.heap.size, 0, none⟩) 3 3] 73))).alloc (Nat.le_refl _) (.cells #[.int .i64 1, .int .i64 2, .int .i64 12] 76)
  have j0 : (abc w).heap[w.heap.size]? = some (.cells (nums .u8 [120, 121, 122]).toArray 5 (3, 4)) := (b2.block _ (by rw [e2]; omega)).trans ((b1.block _ (by rw [e1]; omega)).trans k0)
  have j1 := k1.below b2 k1.lt
  refine ⟨(((Below.refl _ w).alloc (Nat.le_refl _) _).alloc (by simp) _).alloc (by simp; omega) _, C_of_blk (cs := [.string nA, .slice (some ⟨w.heap.size, 0, none⟩) 3 3]) (rest := []) j1 ⟨rfl, fun j f hj => ?_⟩ (by decide), C_of_blk (cs := troubleCells wPs) (rest := []) k2 (troubleCells_reps _ wPs) (by decide)⟩
  cases j with
  | succ j => simp [wFs] at hj
  | zero =>
    simp [wFs] at hj
    subst hj
    exact k73_mk (abc w) ⟨nA, [120, 121, 122]⟩ (A1 := some ⟨w.heap.size, 0, none⟩) (c1 := 3) (by decide) (C_mark j0 (by decide))
theorem data_abc {w : World} {ok : Nat → Prop} {A : Option Addr} {c : Nat} (h : DataAt w ok (.slice A 3 c) [120, 121, 122]) : (convert 39 9 (.slice A 3 c)).run Try.prog w = .ok (.string ⟨#[120, 121, 122]⟩) w := by
  rcases h with ⟨h, _⟩ | ⟨g, c', rest, e, _, _, _, hb⟩
  · cases h
  · cases e
    refine run_convert_bytes_back (P := Try.prog) w 39 9 5 ⟨g, 0, none⟩ c [120, 121, 122] Try.underlying39 Try.underlying5 Try.underlying9 fun j hj => ?_
    rw [Addr.add_mid, Nat.zero_add, hb.cell]
    match j, hj with
    | 0, _ => rfl
    | 1, _ => rfl
    | 2, _ => rfl
    | j + 3, h => simp at h; omega
set_option maxHeartbeats 8000000 in
theorem works.calls (w : World) : Calls Try.prog 16 #[] w fun e w' => e = .returned (.bool true) ∧ Below w.heap.size w w' := by
  have HM := Lib.hid (works_made w)
  have hG0 : Good wS0 := newS_good w_new
  have HG := Lib.hid (show Good wS0 ∧ Good wS1 ∧ Good wS2 ∧ Good wS3 ∧ Good wS4 from ⟨hG0, hG0.note _ _ _, (hG0.note _ _ _).note _ _ _, ((hG0.note _ _ _).note _ _ _).wr _ _, (((hG0.note _ _ _).note _ _ _).wr _ _).rem _⟩)
  clear hG0
  have hz : errV 0 = .nilIface := rfl
  have hnB : nB.toList = [98] := by rw [ByteArray.toList_eq]; rfl
  have hnn : ∀ W : World, (binOp .eql 46 .nilIface .nilIface).run Try.prog W = .ok (.bool true) W := fun W => by kernel_rfl
  have hcv := fun (w : World) (C : Array Value) (n c : Nat) => Go.Lib.run_convert_bytes_const (P := Try.prog) w 39 5 C n c Try.underlying39 Try.underlying5
  go_enter Try.func16, Try.ntmps16
  go_wp2_with (first
    | (go_at_call 17; refine (new.calls (some ⟨w.heap.size + 1, 0, none⟩) (some ⟨w.heap.size + 1 + 1, 0, none⟩) 1 1 wFs wPs 9 _ HM.out.2.1 HM.out.2.2 (by decide) (by decide) (by decide) (by decide) (by decide)).mono ?_; rintro e w1 hpost
       obtain ⟨hb1, sp, rfl, hsp, hsh⟩ := hpost.told
       obtain ⟨sb, rfl, hs⟩ := hsh w_new
       rw [w_new]
       have HB1 : Hid (Below w.heap.size w w1) := HM.out.1.trans (hb1.mono HM.out.1.size)
       have HS1 : Hid (ShelfAt w1 (fun k => w.heap.size ≤ k) sb wS0) := hs.mono fun k hk => Nat.le_trans HM.out.1.size hk
       clear hpost hb1 hsp hsh hs)
    | (go_at_call 20; refine (read.calls HS1.out HG.out.1 nA (by decide) (by decide)).mono ?_; rintro e w2 ⟨v2, rfl, hd2, hs2, hb2, -⟩
       rw [w_read1] at hd2 hs2 ⊢
       rw [if_pos rfl, w_look1] at hd2
       have HB2 : Hid (Below w.heap.size w w2) := HB1.out.trans (hb2.below (fun k hk => hk) HB1.out.size)
       have HS2 : Hid (ShelfAt w2 (fun k => w.heap.size ≤ k) sb wS1) := hs2.mono fun k hk => hk.elim id fun h => Nat.le_trans HB1.out.size h
       have HD2 : Hid (DataAt w2 (fun _ => True) v2 [120, 121, 122]) := hd2.mono fun _ _ => trivial
       obtain ⟨A2, c2, rfl, _, _⟩ := hd2.slice
       clear hd2 hs2 hb2)
    | (go_at_call 20; refine (read.calls HS2.out HG.out.2.1 nA (by decide) (by decide)).mono ?_; rintro e w3 ⟨v3, rfl, hd3, hs3, hb3, ht3⟩
       rw [w_read2] at hs3 ⊢
       have HB3 : Hid (Below w.heap.size w w3) := HB2.out.trans (hb3.below (fun k hk => hk) HB2.out.size)
       have HS3 : Hid (ShelfAt w3 (fun k => w.heap.size ≤ k) sb wS2) := hs3.mono fun k hk => hk.elim id fun h => Nat.le_trans HB2.out.size h
       have HS3b : Hid (ShelfAt (w3.alloc (.cells #[.int .u8 49, .int .u8 50] 5 (2, 3))) (fun k => w.heap.size ≤ k ∧ k < w3.heap.size) sb wS2) := HS3.out.bound.keep (Keeps.below ((Below.refl _ w3).alloc (Nat.le_refl _) _))
       have HK3 : Hid (∀ W, But (fun k => w.heap.size ≤ k ∧ k < w3.heap.size) (w3.alloc (.cells #[.int .u8 49, .int .u8 50] 5 (2, 3))) W → (∀ okd v bs, DataAt (w3.alloc (.cells #[.int .u8 49, .int .u8 50] 5 (2, 3))) okd v bs → DataAt W okd v bs) → Kd.C (Kd.int .u8) W (some ⟨w3.heap.size, 0, none⟩) [49, 50].length [49, 50]) := fun W hW _ =>
         C_mark (bs := [49, 50]) ((hW.block w3.heap.size (by simp) (fun h => by have := h.2; omega)).trans (heap_alloc_new w3 _)) (by decide)
       have HD3 : Hid (DataAt w3 (fun _ => True) (.slice A2 3 c2) [120, 121, 122]) := ht3 _ _ _ HD2.out
       clear hd3 hs3 hb3 ht3)
    | (go_at_call 18; refine (write.calls HS3b.out HG.out.2.2.1 nB (by decide) (by decide) (some ⟨w3.heap.size, 0, none⟩) 2 [49, 50] HK3.out (by decide)).mono ?_; rintro e w4 ⟨rfl, hs4, hb4, ht4⟩
       rw [w_write]
       have HB3b : Hid (Below w.heap.size w (w3.alloc (.cells #[.int .u8 49, .int .u8 50] 5 (2, 3)))) := HB3.out.alloc HB3.out.size _
       have HB4 : Hid (Below w.heap.size w w4) := HB3b.out.trans (hb4.below (fun k hk => hk.1) HB3b.out.size)
       have HS4 : Hid (ShelfAt w4 (fun k => w.heap.size ≤ k) sb wS3) := hs4.mono fun k hk => hk.elim (fun h => h.1) fun h => Nat.le_trans HB3b.out.size h
       have HD4 : Hid (DataAt w4 (fun _ => True) (.slice A2 3 c2) [120, 121, 122]) := ht4 _ _ _ (HD3.out.keep (Keeps.below ((Below.refl _ w3).alloc (Nat.le_refl _) _)))
       clear hs4 hb4 ht4)
    | (go_at_call 11; refine (files.calls HS4.out HG.out.2.2.2.1).mono ?_; rintro e w5 ⟨v5, rfl, hf5, hb5⟩
       have HB5 : Hid (Below w.heap.size w w5) := HB4.out.trans (hb5.mono HB4.out.size)
       have HS5 : Hid (ShelfAt w5 (fun k => w.heap.size ≤ k) sb wS3) := HS4.out.keep (Keeps.below hb5)
       obtain ⟨A5, c5, rfl, _, hC5⟩ := hf5.slice
       obtain ⟨g5, rfl⟩ : ∃ g5, A5 = some ⟨g5, 0, none⟩ := by
         obtain ⟨_, cs5, _, how5⟩ := hf5
         rcases how5.2 with ⟨h, h0⟩ | ⟨g5, cap, cur, h, _⟩
         · rw [w_len] at h0; cases h0
         · cases h; exact ⟨g5, rfl⟩
       rw [w_len] at hC5 ⊢
       obtain ⟨ad, _, _, e5, hx0, _⟩ := fs_at hC5 (i := 1) (f := ⟨nB, [49, 50]⟩) rfl
       cases e5
       have hx1 : w5.cell? ⟨g5, 2, none⟩ = some (.string nB) := hx0
       clear hx0
       have hst := data_abc (HD4.out.keep (Keeps.below hb5))
       clear hf5 hb5 hC5)
    | (go_at_call 35; refine (number.calls 12 (by decide) w5).mono ?_; rintro e w6 ⟨rfl, rfl⟩)
    | (go_at_call 13; refine (left.calls HS5.out HG.out.2.2.2.1).mono ?_; rintro e w6 ⟨rfl, hd6⟩; rw [w_left]
       have HB6 : Hid (Below w.heap.size w w6) := HB5.out.trans (hd6.below.mono HB5.out.size)
       have HS6 : Hid (ShelfAt w6 (fun k => w.heap.size ≤ k) sb wS3) := HS5.out.keep (Keeps.below hd6.below)
       clear hd6)
    | (go_at_call 19; refine (remove.calls HS6.out HG.out.2.2.2.1 nA (by decide) (by decide)).mono ?_; rintro e w7 ⟨rfl, hs7, hb7, -⟩
       rw [w_rem]
       have HB7 : Hid (Below w.heap.size w w7) := HB6.out.trans (hb7.below (fun k hk => hk) HB6.out.size)
       have HS7 : Hid (ShelfAt w7 (fun k => w.heap.size ≤ k) sb wS4) := hs7.mono fun k hk => hk.elim id fun h => Nat.le_trans HB6.out.size h
       clear hs7 hb7)
    | (go_at_call 15; refine (calls.calls HS7.out (by decide)).mono ?_; rintro e w8 ⟨v8, rfl, hr8, hb8⟩
       obtain ⟨A8, c8, rfl⟩ := own_slice hr8
       have HB8 : Hid (Below w.heap.size w w8) := HB7.out.trans (hb8.mono HB7.out.size)
       rw [w_calls]
       clear hr8 hb8)
    | fail)
  go_ret
  exact ⟨rfl, HB8.out⟩
end Go.Proofs.Ytplknppmaepinaa.S
/- ShelfMakes: the walk. -/
namespace Go.Proofs.Ytplknppmaepinaa.S
open Go Go.RowKit Go.X Go.Maps Go.Proofs.YtplknppmaepinaaW.PrintWords Go.Proofs.Ytplknppmaepinaa.F
set_option maxRecDepth 100000

end Go.Proofs.Ytplknppmaepinaa.S
/- Single operations, run. -/
namespace Go.Proofs.Ytplknppmaepinaa.S
open Go Go.RowKit Go.X Go.Proofs.YtplknppmaepinaaW.PrintWords Go.Proofs.Ytplknppmaepinaa.F
end Go.Proofs.Ytplknppmaepinaa.S
/- The drawn regions of the shelf's laws, by their invariants (printed by wip/gen/gensh.py). -/
namespace Go.X
open Go Go.RowKit
theorem Does.buildSlice0 {P : Program} {ty : TypeId} {ρ : Operand → Value} {w : World} {K : Value → World → Prop} (t e : TypeId) (size : Nat) (hu : P.underlying t = some (.slice e)) (hi : (P.info? e).isSome = true)
    (h : ∀ w', w'.ownsRow w.heap.size e size (.slice (some ⟨w.heap.size, 0, none⟩) 0 0) 0 [] → Below w.heap.size w w' → K (.slice (some ⟨w.heap.size, 0, none⟩) 0 0) w') : Does P (.buildSlice t 0 #[]) ty ρ w K := by
  have hr : (Instr.buildSlice t 0 #[]).run P w = .ok (.slice (some ⟨w.heap.size, 0, none⟩) 0 0) (w.alloc (.cells #[] e)) := by
    obtain ⟨i, hi⟩ := Option.isSome_iff_exists.1 hi
    have h0 : (Array.range 0).map (fun _ => (default : Value)) = #[] := Array.eq_empty_of_size_eq_zero (by simp)
    simp [Instr.buildSlice, run_underlying hu, Go.sizeOf, typeInfo, hi, Instr.fill, newRow, h0]
  simp only [Does, execOp, List.map_toArray, List.map_nil, hr, Sem.run_bind, Sem.run_pure, Result.andThen_ok]
  exact h _ (own_empty w e size) ((Below.refl _ _).alloc (Nat.le_refl _) _)
theorem grown_of_below {w w' : World} (h : Below w.heap.size w w') (r : Option Nat) : w.grownBy w' r := ⟨h.os, h.tape, h.output, h.size, fun k hk _ => h.block k hk⟩
end Go.X
namespace Go.Proofs.Ytplknppmaepinaa.S
open Go Go.RowKit Go.X Go.Maps Go.Proofs.YtplknppmaepinaaW.PrintWords Go.Proofs.Ytplknppmaepinaa.F
set_option maxRecDepth 100000
theorem u39w : Try.prog.underlying 39 = some (.slice 5) := Try.underlying39
structure L21w (wb0 : World) (ok : Nat → Prop) (sb eb : Nat) (s : Sh) (kd on : Int) (n : ByteArray) (Ad : Option Addr) (cd : Nat) (d : List Int) (tw : Bool) (b : Bits) (f : Slots) (w : World) : Prop where
  but : But (fun q => ok q) wb0 w
  g5 : f 5 = .pointer (some ⟨sb, 0, none⟩)
  g9 : f 9 = .pointer (some ⟨eb, 0, none⟩)
  p0 : b 0 = true → f 76 = .pointer (some ⟨sb, 0, none⟩)
  p1 : b 1 = true → f 77 = .pointer (some ⟨eb, 1, none⟩)
  p2 : b 2 = true → f 78 = .string n
  p4 : b 4 = true → f 80 = .pointer (some ⟨eb, 2, none⟩)
  p5 : b 5 = true → f 81 = .slice Ad d.length cd
  p8 : b 8 = true → f 10 = errV (askE s 2 n (lkW s n d))
  x0 : b 7 = false → Below wb0.heap.size wb0 w
  x3 : b 3 = true → b 6 = false → ∃ q, f 79 = .slice (some ⟨q, 0, none⟩) 0 0 ∧ wb0.heap.size ≤ q ∧ w.ownsRow q 5 1 (.slice (some ⟨q, 0, none⟩) 0 0) 0 []
  x6 : b 6 = true → b 7 = false → DataAt w (fun k => wb0.heap.size ≤ k) (f 82) d
  x7 : b 7 = true → f 83 = errV (askE s 2 n (lkW s n d)) ∧ ShelfAt w (fun k => ok k ∨ wb0.heap.size ≤ k) sb (s.wr n d) ∧ ∀ okd v bs, DataAt wb0 okd v bs → DataAt w okd v bs
theorem L21w.below {wb0 : World} {ok : Nat → Prop} {sb eb : Nat} {s : Sh} {kd on : Int} {n : ByteArray} {Ad : Option Addr} {cd : Nat} {d : List Int} {tw : Bool} {b : Bits} {f : Slots} {w w' : World} (h : L21w wb0 ok sb eb s kd on n Ad cd d tw b f w) (g : Below w.heap.size w w') : L21w wb0 ok sb eb s kd on n Ad cd d tw b f w' :=
  { h with
    but := h.but.grown (Go.X.grown_of_below g none) (fun _ e => nomatch e)
    x0 := fun hb => (h.x0 hb).trans (g.mono (h.x0 hb).size)
    x3 := fun h1 h2 => (h.x3 h1 h2).imp fun _ ⟨e, k1, k2⟩ => ⟨e, k1, ownsRow_keep (ok := fun _ => True) k2 (Keeps.below g) (fun _ _ => trivial)⟩
    x6 := fun h1 h2 => (h.x6 h1 h2).keep (Keeps.below g)
    x7 := fun h1 => ⟨(h.x7 h1).1, (h.x7 h1).2.1.keep (Keeps.below g), fun okd v bs hv => ((h.x7 h1).2.2 okd v bs hv).keep (Keeps.below g)⟩ }
set_option maxRecDepth 100000 in
theorem L21w.wp (wb0 : World) (ok : Nat → Prop) (sb eb : Nat) (s : Sh) (kd on : Int) (n : ByteArray) (Ad : Option Addr) (cd : Nat) (d : List Int) (tw : Bool) (h_eb : Blk wb0 eb 41 [.int .i64 kd, .string n, .slice Ad d.length cd, .int .i64 on, .bool tw]) (m_eb : ¬ (ok eb)) (hs : ShelfAt wb0 ok sb s) (hg : Good s) (hn : n.size ≤ maxLen) (hall : s.all.length ≤ 1073741824) (hD : Kd.C (Kd.int .u8) wb0 Ad d.length d) (hdl : d.length ≤ 140737488355328) (act : Act) (Q : Exit → Act → World → Prop) (hz : act.tmps.size = 170)
    (s5 : Slots.of act 5 = .pointer (some ⟨sb, 0, none⟩)) (s9 : Slots.of act 9 = .pointer (some ⟨eb, 0, none⟩))
    (hQ : ∀ (f : Slots) (w' : World), f 10 = errV (askE s 2 n (lkW s n d)) → But (fun q => ok q) wb0 w' → ShelfAt w' (fun k => ok k ∨ wb0.heap.size ≤ k) sb (s.wr n d) → (∀ okd v bs, DataAt wb0 okd v bs → DataAt w' okd v bs) → Q .normal (Act.puts act f [76, 77, 78, 79, 80, 81, 82, 83, 10]) w') :
    (Code.region 21 #[{ dst := some 76, op := Go.Op.move (Go.Operand.tmp 5), type := 27, pos := "theorems.go:48", after := #[], guard := none }, { dst := some 77, op := Go.Op.fieldAddr 41 (Go.Operand.tmp 9) 1, type := 0, pos := "theorems.go:48", after := #[], guard := none }, { dst := some 78, op := Go.Op.load 9 (Go.Operand.tmp 77), type := 9, pos := "theorems.go:48", after := #[{ on := 1, ground := Go.Ground.data }], guard := none }, { dst := some 79, op := Go.Op.buildSlice 39 0 #[], type := 39, pos := "theorems.go:48", after := #[], guard := none }, { dst := some 80, op := Go.Op.fieldAddr 41 (Go.Operand.tmp 9) 2, type := 0, pos := "theorems.go:48", after := #[], guard := none }, { dst := some 81, op := Go.Op.load 39 (Go.Operand.tmp 80), type := 39, pos := "theorems.go:48", after := #[{ on := 4, ground := Go.Ground.data }], guard := none }, { dst := some 82, op := Go.Op.call { callee := Go.Callee.builtin Go.Builtin.append, args := #[Go.Operand.tmp 79, Go.Operand.tmp 81], argTypes := #[39, 39] }, type := 39, pos := "theorems.go:48", after := #[{ on := 3, ground := Go.Ground.data }, { on := 5, ground := Go.Ground.data }], guard := none }, { dst := some 83, op := Go.Op.call { callee := Go.Callee.value (Go.Operand.func 18), args := #[Go.Operand.tmp 76, Go.Operand.tmp 78, Go.Operand.tmp 82], argTypes := #[27, 9, 39] }, type := 46, pos := "theorems.go:48", after := #[{ on := 0, ground := Go.Ground.data }, { on := 2, ground := Go.Ground.data }, { on := 6, ground := Go.Ground.data }, { on := 6, ground := Go.Ground.chain }], guard := none }, { dst := some 10, op := Go.Op.assign (Go.Operand.tmp 83), type := 46, pos := "theorems.go:48", after := #[{ on := 7, ground := Go.Ground.data }, { on := 7, ground := Go.Ground.chain }, { on := 0, ground := Go.Ground.phase }, { on := 1, ground := Go.Ground.phase }, { on := 2, ground := Go.Ground.phase }, { on := 3, ground := Go.Ground.phase }, { on := 4, ground := Go.Ground.phase }, { on := 5, ground := Go.Ground.phase }, { on := 6, ground := Go.Ground.phase }, { on := 7, ground := Go.Ground.phase }], guard := none }] true).wp Try.prog Q act wb0 := by
  refine wp_region_slots (fun b f w => L21w wb0 ok sb eb s kd on n Ad cd d tw b f w) 9 [0, 1, 2, 3, 4, 5, 6, 7, 8] [76, 77, 78, 79, 80, 81, 82, 83, 10] 170 (by kernel_rfl) rfl rfl rfl (by kernel_rfl) (by kernel_rfl) hz (by kernel_rfl) ?_ ?_ ?_
  · exact { but := But.drewN_refl wb0, g5 := s5, g9 := s9, p0 := nofun, p1 := nofun, p2 := nofun, p4 := nofun, p5 := nofun, p8 := nofun, x0 := fun _ => (Below.refl _ wb0).drew, x3 := nofun, x6 := nofun, x7 := nofun }
  · refine SSteps.cons (i := 0) (ds := []) (js := [7, 8]) rfl (by kernel_rfl) (by kernel_rfl) (fun b f w hb0 hd hj h => ?_) ?_
    · exact Does.move { h with p0 := fun _ => h.g5 }
    refine SSteps.cons (i := 1) (ds := []) (js := [2, 7, 8]) rfl (by kernel_rfl) (by kernel_rfl) (fun b f w hb0 hd hj h => ?_) ?_
    · have e0 := h.g9
      exact Does.fieldAddr (v := .pointer (some ⟨eb, 1, none⟩)) (by rw [show f.eval (.tmp 9) = _ from e0]; go_simp) { h with p1 := fun _ => rfl }
    refine SSteps.cons (i := 2) (ds := [1]) (js := [7, 8]) rfl (by kernel_rfl) (by kernel_rfl) (fun b f w hb0 hd hj h => ?_) ?_
    · have d1 : b 1 = true := hd 1 (by decide)
      have e0 := (h.p1 d1)
      have hc : w.cell? ⟨eb, 1, none⟩ = some (.string n) := (h_eb.but h.but m_eb).cell 1
      exact Does.load (v := .string n) (by rw [show f.eval (.tmp 77) = _ from e0]; go_simp) { h with p2 := fun _ => rfl }
    refine SSteps.cons (i := 3) (ds := []) (js := [6, 7, 8]) rfl (by kernel_rfl) (by kernel_rfl) (fun b f w hb0 hd hj h => ?_) ?_
    · refine Does.buildSlice0 39 5 1 u39w (by kernel_rfl) ?_
      intro w' ho' hbl
      exact { (h.below hbl) with x3 := fun _ _ => ⟨w.heap.size, rfl, (h.x0 (hj 7 (by decide))).size, ho'⟩ }
    refine SSteps.cons (i := 4) (ds := []) (js := [5, 6, 7, 8]) rfl (by kernel_rfl) (by kernel_rfl) (fun b f w hb0 hd hj h => ?_) ?_
    · have e0 := h.g9
      exact Does.fieldAddr (v := .pointer (some ⟨eb, 2, none⟩)) (by rw [show f.eval (.tmp 9) = _ from e0]; go_simp) { h with p4 := fun _ => rfl }
    refine SSteps.cons (i := 5) (ds := [4]) (js := [6, 7, 8]) rfl (by kernel_rfl) (by kernel_rfl) (fun b f w hb0 hd hj h => ?_) ?_
    · have d4 : b 4 = true := hd 4 (by decide)
      have e0 := (h.p4 d4)
      have hc : w.cell? ⟨eb, 2, none⟩ = some (.slice Ad d.length cd) := (h_eb.but h.but m_eb).cell 2
      exact Does.load (v := .slice Ad d.length cd) (by rw [show f.eval (.tmp 80) = _ from e0]; go_simp) { h with p5 := fun _ => rfl }
    refine SSteps.cons (i := 6) (ds := [3, 5, 4]) (js := [7, 8]) rfl (by kernel_rfl) (by kernel_rfl) (fun b f w hb0 hd hj h => ?_) ?_
    · have d5 : b 5 = true := hd 5 (by decide)
      have d3 : b 3 = true := hd 3 (by decide)
      have e5 := (h.p5 d5)
      obtain ⟨q, e3, hq, ho⟩ := h.x3 d3 hb0
      have hb7 : b 7 = false := hj 7 (by decide)
      refine Does.appendAny q (.int .u8 0) 1 1 u39w info5 rfl (by decide) e3 ho e5 (by rw [nums_length]; omega) (C_bytes (Kd.C_below hD (h.x0 hb7))) (nums_one d) (by simp only [maxLen]; omega) (by omega) (Nat.le_of_lt (World.ownsRow.lt ho q rfl).2) ?_
      intro v' w' ho' ha
      have hb' := (h.x0 hb7).grown ha.grown (h.x0 hb7).size (by intro k e; cases e; exact hq)
      exact { but := But.of_below hb', x0 := fun _ => hb', x3 := fun _ hf => tf hf, x6 := fun _ _ => DataAt.of_own (base := q) (by have k := ho'; rw [Nat.zero_add, List.nil_append] at k; exact k) (fun g hg => Nat.le_trans hq (own_ge ho' g hg)), x7 := fun hf => no hb7 hf, g5 := h.g5, g9 := h.g9, p0 := h.p0, p1 := h.p1, p2 := h.p2, p4 := h.p4, p5 := h.p5, p8 := h.p8 }
    refine SSteps.cons (i := 7) (ds := [0, 2, 6, 1, 3, 5, 4]) (js := [8]) rfl (by kernel_rfl) (by kernel_rfl) (fun b f w hb0 hd hj h => ?_) ?_
    · have d0 : b 0 = true := hd 0 (by decide)
      have d2 : b 2 = true := hd 2 (by decide)
      have d6 : b 6 = true := hd 6 (by decide)
      have e0 := (h.p0 d0)
      have e2 := (h.p2 d2)
      have hd := h.x6 d6 hb0
      obtain ⟨A6, c6, e6, _, _⟩ := hd.slice
      have hS := (hs.bound.keep (Keeps.below (h.x0 hb0)))
      refine Does.call (args := #[.pointer (some ⟨sb, 0, none⟩), .string n, .slice A6 d.length c6]) (by simp [Slots.eval, e0, e2, e6]) rfl (by kernel_rfl) ?_
      refine (write.calls hS hg n hn hall A6 c6 d (fun W hW _ => ?_) hdl).mono ?_
      · rw [e6] at hd
        rcases hd with ⟨h0, A0, c0, e⟩ | ⟨g, c', rest, e, k1, k2, k3, k4⟩
        · subst h0
          exact ⟨rfl, by simp, fun h => absurd h (Nat.lt_irrefl _)⟩
        · obtain ⟨A7, c7, e7, _, k7⟩ := DataAt.slice (w := W) (ok := fun _ => True) (.inr ⟨g, c', rest, e, k1, k2, trivial, k4.but hW (fun h => by have := h.2; omega)⟩)
          cases e7
          exact k7
      rintro e w' ⟨rfl, hs', hb', hdt⟩
      have hbt : But (fun q => ok q) wb0 w' := But.trans2 (But.of_below (h.x0 hb0)) (hb'.imp fun k hk => hk.1)
      exact ⟨_, rfl, { but := hbt, x0 := fun hf => tf hf, x3 := fun _ hf => no (show b 6 = false from hf) d6, x6 := fun _ hf => tf hf, x7 := fun _ => ⟨rfl, hs'.mono (fun k hk => hk.imp (fun h => h.1) fun hk => Nat.le_trans (h.x0 hb0).size hk), fun okd v bs hv => hdt okd v bs (hv.keep (Keeps.below (h.x0 hb0)))⟩, g5 := h.g5, g9 := h.g9, p0 := h.p0, p1 := h.p1, p2 := h.p2, p4 := h.p4, p5 := h.p5, p8 := h.p8 }⟩
    refine SSteps.cons (i := 8) (ds := [7, 0, 1, 2, 3, 4, 5, 6]) (js := []) rfl (by kernel_rfl) (by kernel_rfl) (fun b f w hb0 hd hj h => ?_) ?_
    · have d7 : b 7 = true := hd 7 (by decide)
      exact Does.assign { h with p8 := fun _ => (h.x7 d7).1 }
    exact SSteps.nil
  · intro b f w' hall h _
    exact hQ f w' (h.p8 (hall 8 (by decide))) h.but  (h.x7 (hall 7 (by decide))).2.1 (h.x7 (hall 7 (by decide))).2.2
end Go.Proofs.Ytplknppmaepinaa.S
/- ShelfLast: the walk. -/
namespace Go.Proofs.Ytplknppmaepinaa.S
open Go Go.RowKit Go.X Go.Maps Go.Proofs.YtplknppmaepinaaW.PrintWords Go.Proofs.Ytplknppmaepinaa.F
set_option maxRecDepth 100000
theorem newE_nil : newE [] 16777216 [] = 0 := by kernel_rfl
theorem info41 : (Try.prog.info? 41).map (fun i => (i.zero, i.size, i.bytes)) = some (some (.agg #[.int .i64 0, .string ⟨#[]⟩, .slice none 0 0, .int .i64 0, .bool false]), 5, 64) := by kernel_rfl
theorem sz41 : (Try.prog.info? 41).map (·.size) = some 5 := by kernel_rfl
set_option maxHeartbeats 8000000 in
theorem last.calls (Ao : Option Addr) (co : Nat) (os : List S41) (w : World) (ho : Kd.C k41 w Ao os.length os) (hon : os.length ≤ 140737488355328)
    (hoz : ∀ o ∈ os, o.f1.size ≤ maxLen ∧ o.f2.length ≤ 140737488355328) :
    Calls Try.prog 4 #[.slice Ao os.length co] w fun e w' => e = .returned (.bool true) ∧ Below w.heap.size w w' := by
  have HO := Lib.hid ho; clear ho
  have HOZ := Lib.hid hoz; clear hoz
  have HON := Lib.hid hon; clear hon
  have ho0 : (0 : Int) ≤ (os.length : Int) := Int.natCast_nonneg _
  go_enter Try.func4, Try.ntmps4
  go_wp2_with (first
    | (go_at_call 16; refine (works.calls _).mono ?_; rintro e w1 ⟨rfl, hb1⟩
       have HB1 : Hid (Below w.heap.size w w1) := hb1
       clear hb1)
    | fail)
  go_loopg [3, 4] os.length (fun q a b wr => ∃ i t : Nat, q + i = os.length ∧ a = .int .i64 (t : Nat) ∧ b = .int .i64 (i : Nat) ∧ Hid (Below w.heap.size w wr ∧ szO (os.take i) = t ∧ t ≤ 4194304 + 140737488355329))
  case atStart => exact ⟨0, 0, by simp, rfl, rfl, Lib.hid ⟨HB1.out, by simp [szO], by omega⟩⟩
  case round =>
    clear HB1
    obtain ⟨i, t, hi, rfl, rfl, HI⟩ := hrel
    by_cases hlt : i < os.length
    · by_cases hbig : t < 4194304
      · obtain ⟨o, ho⟩ : ∃ o, os[i]? = some o := ⟨_, List.getElem?_eq_getElem hlt⟩
        obtain ⟨ad, Ad, cd, eA, e0, e1, e2, e3, e4, hcd, hdC⟩ := op_at (Kd.C_below HO.out HI.out.1) ho
        subst eA
        have hi0 : (0 : Int) ≤ (i : Int) := Int.natCast_nonneg _
        have hi1 : (i : Int) < (os.length : Int) := Int.ofNat_lt.2 hlt
        have hb1 : (t : Int) < 4194304 := by omega
        have hdl := (HOZ.out o (List.mem_of_getElem? ho)).2
        have HIN : Hid (Below w.heap.size w wr ∧ szO (os.take (i + 1)) = t + (1 + o.f2.length) ∧ t + (1 + o.f2.length) ≤ 4194304 + 140737488355329) := ⟨HI.out.1, by rw [szO_take ho, HI.out.2.1], by omega⟩
        have hw1 : wrap64 (1 + (o.f2.length : Int)) = 1 + (o.f2.length : Int) := wrap_in (by omega) (by omega)
        have hw2 : wrap64 ((t : Int) + (1 + (o.f2.length : Int))) = ((t + (1 + o.f2.length) : Nat) : Int) := by rw [wrap_in (by omega) (by omega)]; omega
        have hw3 : wrap64 ((i : Int) + 1) = ((i + 1 : Nat) : Int) := by have := HON.out; rw [wrap_in (by omega) (by omega)]; rfl
        clear ho hcd hdC hdl HI e0 e1 e3 e4
        go_wp2
        go_roundg (os.length - (i + 1))
        case measure => clear hw1 hw2 hw3; omega
        case rel => exact ⟨i + 1, t + (1 + o.f2.length), by clear hw1 hw2 hw3; omega, by first | rfl | rw [hw2], by first | rfl | rw [hw3], HIN.out⟩
      · have hi1 : (i : Int) < (os.length : Int) := Int.ofNat_lt.2 hlt
        have hb1 : ¬ (t : Int) < 4194304 := by omega
        have hb2 : (4194304 : Int) ≤ (t : Int) := by omega
        go_wp2
        go_ret
        exact ⟨rfl, HI.out.1⟩
    · have hi1 : ¬ (i : Int) < (os.length : Int) := by omega
      by_cases hbig : t < 4194304
      · have hb2 : ¬ (4194304 : Int) ≤ (t : Int) := by omega
        by_cases hl : (os.length : Int) > 2000
        · go_wp2
          go_ret
          exact ⟨rfl, HI.out.1⟩
        · have HSZ : Hid (szO os < 4194304 ∧ os.length ≤ 2000) := ⟨by have := HI.out.2.1; rw [List.take_of_length_le (by omega)] at this; omega, by omega⟩
          have HBR : Hid (Below w.heap.size w wr) := HI.out.1
          clear HI
          go_upto_region 10 with fail
          go_wp2_with (first
            | (go_at_call 17; refine (new.calls none none 0 0 [] [] 16777216 wr ⟨rfl, by simp, fun h => absurd h (Nat.lt_irrefl _)⟩ ⟨rfl, by simp, fun h => absurd h (Nat.lt_irrefl _)⟩ (by simp) (by simp) (by simp) (by simp) (by simp)).mono ?_; rintro e w2 hpost
               obtain ⟨hb2', sp, rfl, hsp, hsh⟩ := hpost.told
               obtain ⟨sb, rfl, hs⟩ := hsh newE_nil
               rw [newE_nil]
               have HN : Hid (wr.heap.size ≤ w2.heap.size ∧ w.heap.size ≤ wr.heap.size) := ⟨hb2'.size, HBR.out.size⟩
               have HB2 : Hid (Below w.heap.size w w2) := HBR.out.trans (hb2'.mono HBR.out.size)
               have HL0 : Hid (LP 0 [] (newS [] 16777216 []) ∧ LB w w2 w2 wr.heap.size sb (.slice none 0 0) [] [] (fun k => wr.heap.size ≤ k ∧ k < w2.heap.size) (newS [] 16777216 [])) :=
                 ⟨⟨newS_good newE_nil, rfl, rfl, ⟨Nat.le_refl _, Nat.le_refl _⟩, DoneOK.nil, fun _ => rfl, by simp⟩, ⟨hs.bound, fun k hk => hk, Reps.none _ _, own_nil _ _ _ _, by simp [Value.ownBlock], Below.refl _ _, hb2'.size⟩⟩
               clear hpost hb2' hsp hsh hs)
            | fail)
          clear hi hlt hbig hi1 hb2 hl
          generalize wr.heap.size = N at *
          go_loopg [7, 8] os.length (fun q vD b wr => ∃ i done cs okS s, q + i = os.length ∧ b = .int .i64 (i : Nat) ∧ Hid (LP i done s ∧ LB w w2 wr N sb vD done cs okS s))
          case atStart => exact ⟨0, [], [], _, _, by simp, rfl, HL0.out⟩
          case round =>
            clear HL0
            obtain ⟨i, done, cs, okS, s, hi, rfl, HI⟩ := hrel
            have HBW : Hid (Below w.heap.size w wr) := HB2.out.trans (HI.out.2.bel.mono HN.out.2)
            obtain ⟨AD, cD, rfl⟩ := own_slice HI.out.2.row
            by_cases hlt : i < os.length
            · obtain ⟨o, ho⟩ : ∃ o, os[i]? = some o := ⟨_, List.getElem?_eq_getElem hlt⟩
              obtain ⟨ad, Ad, cd, eA, e0, e1, e2, e3, e4, hcd, hdC⟩ := op_at (Kd.C_below HO.out HBW.out) ho
              subst eA
              have HKO : Hid (k41.K w o [.int .i64 o.f0, .string o.f1, .slice Ad o.f2.length cd, .int .i64 o.f3, .bool o.f4]) := by
                obtain ⟨ad', Ad', cd', eA', f0, f1, f2, f3, f4, hcd', hdC'⟩ := op_at HO.out ho
                cases eA'
                have f2' := Below.cellS HBW.out f2
                rw [e2] at f2'
                cases f2'
                exact k41_mk w o hcd' hdC'
              have HOO : Hid (o.f1.size ≤ maxLen ∧ o.f2.length ≤ 140737488355328) := HOZ.out o (List.mem_of_getElem? ho)
              have HOM : Hid (o ∈ os) := List.mem_of_getElem? ho
              have HDC := Lib.hid hdC; clear hdC hcd ho
              have hi0 : (0 : Int) ≤ (i : Int) := Int.natCast_nonneg _
              have hi1 : (i : Int) < (os.length : Int) := Int.ofNat_lt.2 hlt
              have HIL : Hid (i < 2000) := by have := HSZ.out.2; exact (by omega : i < 2000)
              have HP : Hid (LP i done s) := HI.out.1
              have HB : Hid (LB w w2 wr N sb (.slice AD done.length cD) done cs okS s) := HI.out.2
              have HALL : Hid (s.all.length ≤ 1073741824) := by have := HP.out.few.1; have := HIL.out; exact (by omega : s.all.length ≤ 1073741824)
              have hiw : wrap64 ((i : Int) + 1) = ((i + 1 : Nat) : Int) := by have := HIL.out; rw [wrap_in (by omega) (by omega)]; rfl
              clear HI
              go_upto_region 18 with fail
              have HE : Hid (Below wr.heap.size wr (wr.alloc (.cells #[.int .i64 o.f0, .string o.f1, .slice Ad o.f2.length cd, .int .i64 o.f3, .bool o.f4] 41)) ∧ Blk (wr.alloc (.cells #[.int .i64 o.f0, .string o.f1, .slice Ad o.f2.length cd, .int .i64 o.f3, .bool o.f4] 41)) wr.heap.size 41 [.int .i64 o.f0, .string o.f1, .slice Ad o.f2.length cd, .int .i64 o.f3, .bool o.f4]) :=
                ⟨(Below.refl _ _).alloc (Nat.le_refl _) _, Blk.alloc wr _ _⟩
              clear e0 e1 e2 e3 e4
              generalize wr.alloc (.cells #[.int .i64 o.f0, .string o.f1, .slice Ad o.f2.length cd, .int .i64 o.f3, .bool o.f4] 41) = wo at *
              have c00 : wo.cell? ⟨wr.heap.size, 0, none⟩ = some (.int .i64 o.f0) := HE.out.2.cell 0
              have c01 : wo.cell? ⟨wr.heap.size, 1, none⟩ = some (.string o.f1) := HE.out.2.cell 1
              by_cases hk : o.f0 = 2 ∨ o.f0 = 3
              · rcases hk with hk | hk
                · have t1 : (o.f0 != 2) = false := by simp [hk]
                  have t2 : (o.f0 == 2) = true := by simp [hk]
                  have HOP := Lib.hid (opA_2 (s := s) hk)
                  have HK := Lib.hid hk; clear hk
                  go_wp2_with (fail)
                  refine L21w.wp wo okS sb wr.heap.size s o.f0 o.f3 o.f1 Ad cd o.f2 o.f4 HE.out.2 (fun h => absurd (HB.out.okB _ h).2 (Nat.lt_irrefl _)) (HB.out.keep HE.out.1).sh HP.out.good HOO.out.1 HALL.out (Kd.C_below HDC.out HE.out.1) HOO.out.2 _ _ rfl rfl rfl ?_
                  intro f7 w7 e7 hb7 hs7 _
                  have HB7 := Lib.hid ((HB.out.keep HE.out.1).step hb7 hs7)
                  have HE7 : Hid (Blk w7 wr.heap.size 41 [.int .i64 o.f0, .string o.f1, .slice Ad o.f2.length cd, .int .i64 o.f3, .bool o.f4]) := HE.out.2.but hb7 (fun h => absurd (HB.out.okB _ h).2 (Nat.lt_irrefl _))
                  clear hb7 hs7
                  simp only [Act.puts, Act.put, List.setIfInBounds_toArray, List.set_cons_zero, List.set_cons_succ]
                  rw [e7, ← HOP.out.1]
                  rw [← HOP.out.2.1] at HB7
                  clear e7
                  have HBA7 : Hid (∀ O, Below w7.heap.size w7 (w7.alloc O)) := fun O => (Below.refl _ _).alloc (Nat.le_refl _) O
                  by_cases he : opE s o = 0
                  · have e9 : errV (opE s o) = .nilIface := by rw [he]; rfl
                    rw [e9]
                    have HP8 := Lib.hid (HP.out.done he (.inl HK.out) HOO.out.2)
                    have k0 : w7.cell? ⟨wr.heap.size, 0, none⟩ = some (.int .i64 o.f0) := HE7.out.cell 0
                    have k1 : w7.cell? ⟨wr.heap.size, 1, none⟩ = some (.string o.f1) := HE7.out.cell 1
                    have k2 : w7.cell? ⟨wr.heap.size, 2, none⟩ = some (.slice Ad o.f2.length cd) := HE7.out.cell 2
                    have k3 : w7.cell? ⟨wr.heap.size, 3, none⟩ = some (.int .i64 o.f3) := HE7.out.cell 3
                    have k4 : w7.cell? ⟨wr.heap.size, 4, none⟩ = some (.bool o.f4) := HE7.out.cell 4
                    have HSN : Hid (os.length ≤ 2000 ∧ done.length ≤ 2000) := ⟨HSZ.out.2, by have := HP.out.few.2; have := HIL.out; omega⟩
                    have hdn : ¬ done.length + 1 = 0 := by omega
                    have hd9 : ((done.length : Int) + 1 == 0) = false := by rw [beq_eq_false_iff_ne]; omega
                    have hd8 : (((done.length + 1 : Nat) : Int) == 0) = false := by rw [beq_eq_false_iff_ne]; omega
                    clear he e9
                    go_wp2_with (first
                      | (at_builtin; refine appendAny rfl (.tmp 90) (.tmp 92) 37 41 rfl N _ 5 64 Try.underlying37 info41 rfl (by decide) (.slice AD done.length cD) done.length cs rfl (HB7.out.keep (HBA7.out _)).row (some ⟨w7.heap.size, 0, none⟩) 1 1 [.int .i64 o.f0, .string o.f1, .slice Ad o.f2.length cd, .int .i64 o.f3, .bool o.f4] rfl rfl
                           (blk_news (rest := []) (Blk.alloc w7 #[.int .i64 o.f0, .string o.f1, .slice Ad o.f2.length cd, .int .i64 o.f3, .bool o.f4] 41)) (by simp [Value.oneCell']) (by have := HSN.out.2; simp only [maxLen]; omega) (by have := HSN.out.2; omega) (by have := (HBA7.out (.cells #[.int .i64 o.f0, .string o.f1, .slice Ad o.f2.length cd, .int .i64 o.f3, .bool o.f4] 41)).size; have := HB7.out.le; have := HB7.out.bel.size; omega) ?_
                         intro v8 w8 ho8 ha8
                         obtain ⟨A8, c8, rfl⟩ := own_slice ho8
                         have HB8 := Lib.hid (HB7.out.app (HBA7.out _) HKO.out ho8 ha8)
                         clear ho8 ha8)
                      | fail)
                    go_roundg (os.length - (i + 1))
                    case measure => clear hiw; omega
                    case rel => exact ⟨i + 1, _, _, _, _, by clear hiw; omega, by first | rfl | rw [hiw], ⟨HP8.out, HB8.out⟩⟩

                  · have e9 : errV (opE s o) = .iface 42 (.int .i64 (opE s o)) := if_neg he
                    rw [e9]
                    have HP8 := Lib.hid (HP.out.fail he)
                    by_cases hd0 : done.length = 0
                    · have hd9 : ((done.length : Int) == 0) = true := by simp [hd0]
                      have k0 : w7.cell? ⟨wr.heap.size, 0, none⟩ = some (.int .i64 o.f0) := HE7.out.cell 0
                      have k1 : w7.cell? ⟨wr.heap.size, 1, none⟩ = some (.string o.f1) := HE7.out.cell 1
                      have hna : (o.f1.toList == [97]) = false := by
                        rw [beq_eq_false_iff_ne]
                        intro h
                        have hn : o.f1 = nameA := ky_inj (by rw [ByteArray.toList_eq] at h; exact h)
                        have hp := HP.out
                        rw [List.eq_nil_of_length_eq_zero hd0] at hp
                        exact he (hp.a HK.out hn (by have := szO_mem HOM.out; have := HSZ.out.1; omega))
                      clear he e9 hd0
                      go_wp2
                      go_roundg (os.length - (i + 1))
                      case measure => clear hiw; omega
                      case rel => exact ⟨i + 1, _, _, _, _, by clear hiw; omega, by first | rfl | rw [hiw], ⟨HP8.out, HB7.out⟩⟩

                    · have hd9 : ((done.length : Int) == 0) = false := by rw [beq_eq_false_iff_ne]; omega
                      clear he e9 hd0
                      go_wp2
                      go_roundg (os.length - (i + 1))
                      case measure => clear hiw; omega
                      case rel => exact ⟨i + 1, _, _, _, _, by clear hiw; omega, by first | rfl | rw [hiw], ⟨HP8.out, HB7.out⟩⟩
                · have t1 : (o.f0 != 2) = true := by simp [hk]
                  have t3 : (o.f0 != 3) = false := by simp [hk]
                  have t2 : (o.f0 == 2) = false := by simp [hk]
                  have HOP := Lib.hid (opA_3 (s := s) hk)
                  have HK := Lib.hid hk; clear hk
                  go_upto_region 23 with (first
                    | (go_at_call 19; refine (remove.calls (HB.out.keep HE.out.1).sh HP.out.good o.f1 HOO.out.1 HALL.out).mono ?_; rintro e w7 ⟨rfl, hs7, hb7, -⟩
                       have HB7 := Lib.hid ((HB.out.keep HE.out.1).step hb7 hs7)
                       have HE7 : Hid (Blk w7 wr.heap.size 41 [.int .i64 o.f0, .string o.f1, .slice Ad o.f2.length cd, .int .i64 o.f3, .bool o.f4]) := HE.out.2.but hb7 (fun h => absurd (HB.out.okB _ h).2 (Nat.lt_irrefl _))
                       clear hb7 hs7)
                    | fail)
                  rw [← HOP.out.1]
                  rw [← HOP.out.2.1] at HB7
                  have HBA7 : Hid (∀ O, Below w7.heap.size w7 (w7.alloc O)) := fun O => (Below.refl _ _).alloc (Nat.le_refl _) O
                  by_cases he : opE s o = 0
                  · have e9 : errV (opE s o) = .nilIface := by rw [he]; rfl
                    rw [e9]
                    have HP8 := Lib.hid (HP.out.done he (.inr HK.out) HOO.out.2)
                    have k0 : w7.cell? ⟨wr.heap.size, 0, none⟩ = some (.int .i64 o.f0) := HE7.out.cell 0
                    have k1 : w7.cell? ⟨wr.heap.size, 1, none⟩ = some (.string o.f1) := HE7.out.cell 1
                    have k2 : w7.cell? ⟨wr.heap.size, 2, none⟩ = some (.slice Ad o.f2.length cd) := HE7.out.cell 2
                    have k3 : w7.cell? ⟨wr.heap.size, 3, none⟩ = some (.int .i64 o.f3) := HE7.out.cell 3
                    have k4 : w7.cell? ⟨wr.heap.size, 4, none⟩ = some (.bool o.f4) := HE7.out.cell 4
                    have HSN : Hid (os.length ≤ 2000 ∧ done.length ≤ 2000) := ⟨HSZ.out.2, by have := HP.out.few.2; have := HIL.out; omega⟩
                    have hdn : ¬ done.length + 1 = 0 := by omega
                    have hd9 : ((done.length : Int) + 1 == 0) = false := by rw [beq_eq_false_iff_ne]; omega
                    have hd8 : (((done.length + 1 : Nat) : Int) == 0) = false := by rw [beq_eq_false_iff_ne]; omega
                    clear he e9
                    go_wp2_with (first
                      | (at_builtin; refine appendAny rfl (.tmp 90) (.tmp 92) 37 41 rfl N _ 5 64 Try.underlying37 info41 rfl (by decide) (.slice AD done.length cD) done.length cs rfl (HB7.out.keep (HBA7.out _)).row (some ⟨w7.heap.size, 0, none⟩) 1 1 [.int .i64 o.f0, .string o.f1, .slice Ad o.f2.length cd, .int .i64 o.f3, .bool o.f4] rfl rfl
                           (blk_news (rest := []) (Blk.alloc w7 #[.int .i64 o.f0, .string o.f1, .slice Ad o.f2.length cd, .int .i64 o.f3, .bool o.f4] 41)) (by simp [Value.oneCell']) (by have := HSN.out.2; simp only [maxLen]; omega) (by have := HSN.out.2; omega) (by have := (HBA7.out (.cells #[.int .i64 o.f0, .string o.f1, .slice Ad o.f2.length cd, .int .i64 o.f3, .bool o.f4] 41)).size; have := HB7.out.le; have := HB7.out.bel.size; omega) ?_
                         intro v8 w8 ho8 ha8
                         obtain ⟨A8, c8, rfl⟩ := own_slice ho8
                         have HB8 := Lib.hid (HB7.out.app (HBA7.out _) HKO.out ho8 ha8)
                         clear ho8 ha8)
                      | fail)
                    go_roundg (os.length - (i + 1))
                    case measure => clear hiw; omega
                    case rel => exact ⟨i + 1, _, _, _, _, by clear hiw; omega, by first | rfl | rw [hiw], ⟨HP8.out, HB8.out⟩⟩

                  · have e9 : errV (opE s o) = .iface 42 (.int .i64 (opE s o)) := if_neg he
                    rw [e9]
                    have HP8 := Lib.hid (HP.out.fail he)
                    by_cases hd0 : done.length = 0
                    · have hd9 : ((done.length : Int) == 0) = true := by simp [hd0]
                      have k0 : w7.cell? ⟨wr.heap.size, 0, none⟩ = some (.int .i64 o.f0) := HE7.out.cell 0
                      have k1 : w7.cell? ⟨wr.heap.size, 1, none⟩ = some (.string o.f1) := HE7.out.cell 1
                      clear he e9 hd0
                      go_wp2
                      go_roundg (os.length - (i + 1))
                      case measure => clear hiw; omega
                      case rel => exact ⟨i + 1, _, _, _, _, by clear hiw; omega, by first | rfl | rw [hiw], ⟨HP8.out, HB7.out⟩⟩

                    · have hd9 : ((done.length : Int) == 0) = false := by rw [beq_eq_false_iff_ne]; omega
                      clear he e9 hd0
                      go_wp2
                      go_roundg (os.length - (i + 1))
                      case measure => clear hiw; omega
                      case rel => exact ⟨i + 1, _, _, _, _, by clear hiw; omega, by first | rfl | rw [hiw], ⟨HP8.out, HB7.out⟩⟩
              · have t1 : (o.f0 != 2) = true := by simp; omega
                have t3 : (o.f0 != 3) = true := by simp; omega
                have HN8 := Lib.hid (And.intro HP.out.skip (HB.out.keep HE.out.1))
                clear hk
                go_wp2
                go_roundg (os.length - (i + 1))
                case measure => clear hiw; omega
                case rel => exact ⟨i + 1, _, _, _, _, by clear hiw; omega, by first | rfl | rw [hiw], HN8.out⟩
            · have hi1 : ¬ (i : Int) < (os.length : Int) := by omega
              have HI3 : Hid (LP (2000 + 0) done s ∧ LB w w2 wr N sb (.slice AD done.length cD) done cs okS s) := ⟨HI.out.1.mono (by have := HSZ.out.2; omega), HI.out.2⟩
              have HDN : Hid (done.length ≤ 2000) := by have := HI.out.1.few.2; have := HSZ.out.2; exact (by omega : done.length ≤ 2000)
              have HDZ : Hid (∀ o ∈ done, o.f2.length ≤ 140737488355328) := HI.out.1.lens
              clear HI
              go_upto_region 27 with fail
              clear hi hlt hi1
              go_wp2
              go_loopg [11] os.length (fun q b wr => ∃ j s okS, q + j = os.length ∧ b = .int .i64 (j : Nat) ∧ Hid (LP (2000 + j) done s ∧ LB w w2 wr N sb (.slice AD done.length cD) done cs okS s))
              case atStart => exact ⟨0, _, _, by simp, rfl, HI3.out⟩
              case round =>
                clear HI3 HBW
                rename World => wr
                obtain ⟨j, s, okS, hj, rfl, HI⟩ := hrel
                have HBW : Hid (Below w.heap.size w wr) := HB2.out.trans (HI.out.2.bel.mono HN.out.2)
                by_cases hlt : j < os.length
                · obtain ⟨o, ho⟩ : ∃ o, os[j]? = some o := ⟨_, List.getElem?_eq_getElem hlt⟩
                  obtain ⟨ad, Ad, cd, eA, e0, e1, e2, e3, e4, hcd, hdC⟩ := op_at (Kd.C_below HO.out HBW.out) ho
                  subst eA
                  have HOO : Hid (o.f1.size ≤ maxLen) := (HOZ.out o (List.mem_of_getElem? ho)).1
                  have hi0 : (0 : Int) ≤ (j : Int) := Int.natCast_nonneg _
                  have hi1 : (j : Int) < (os.length : Int) := Int.ofNat_lt.2 hlt
                  have HJL : Hid (j < 2000) := by have := HSZ.out.2; exact (by omega : j < 2000)
                  clear e0 e2 e3 e4 hcd hdC ho
                  go_upto_region 32 with fail
                  have HZ : Hid (Below wr.heap.size wr (wr.alloc (.cells #[.int .i64 0, .string ⟨#[]⟩, .slice none 0 0, .int .i64 0, .bool false] 41)) ∧ OpVar w (wr.alloc (.cells #[.int .i64 0, .string ⟨#[]⟩, .slice none 0 0, .int .i64 0, .bool false] 41)) wr.heap.size (lastO o.f1 (done.take 0)) none 0) :=
                    ⟨(Below.refl _ _).alloc (Nat.le_refl _) _, Blk.alloc wr _ _, Nat.le_refl _, rfl, by simp [lastO, z41], fun h => absurd h (Nat.lt_irrefl _)⟩
                  clear e1
                  generalize wr.alloc (.cells #[.int .i64 0, .string ⟨#[]⟩, .slice none 0 0, .int .i64 0, .bool false] 41) = wl at *
                  have HP : Hid (LP (2000 + j) done s) := HI.out.1
                  have HLB : Hid (N ≤ wr.heap.size ∧ ¬ okS wr.heap.size ∧ (Value.slice AD done.length cD).ownBlock ≠ some wr.heap.size) :=
                    ⟨Nat.le_trans HN.out.1 HI.out.2.bel.size, fun h => absurd (HI.out.2.okB _ h).2 (Nat.lt_irrefl _), fun h => absurd (own_lt HI.out.2.row _ h) (Nat.lt_irrefl _)⟩
                  have HB0 : Hid (LB w w2 wl N sb (.slice AD done.length cD) done cs okS s ∧ ∃ A c, OpVar w wl wr.heap.size (lastO o.f1 (done.take 0)) A c) := ⟨HI.out.2.keep HZ.out.1, _, _, HZ.out.2⟩
                  clear HI HZ
                  generalize wr.heap.size = lb at *
                  go_wp2
                  go_loopg [14] done.length (fun q b wk => ∃ k : Nat, q + k = done.length ∧ b = .int .i64 (k : Nat) ∧ Hid (LB w w2 wk N sb (.slice AD done.length cD) done cs okS s ∧ ∃ A c, OpVar w wk lb (lastO o.f1 (done.take k)) A c))
                  case atStart => exact ⟨0, by simp, rfl, HB0.out⟩
                  case round =>
                    clear HB0
                    rename World => wk
                    obtain ⟨k, hk, rfl, HK⟩ := hrel
                    have HBK : Hid (Below w.heap.size w wk) := HB2.out.trans (HK.out.1.bel.mono HN.out.2)
                    by_cases hkl : k < done.length
                    · obtain ⟨d, hd⟩ : ∃ d, done[k]? = some d := ⟨_, List.getElem?_eq_getElem hkl⟩
                      obtain ⟨gD, Ad2, cd2, eA, f0, f1, f2, f3, f4, hcd2, hdC2⟩ := HK.out.1.at hd
                      subst eA
                      have hk0 : (0 : Int) ≤ (k : Int) := Int.natCast_nonneg _
                      have hk1 : (k : Int) < (done.length : Int) := Int.ofNat_lt.2 hkl
                      have hkw : wrap64 ((k : Int) + 1) = ((k + 1 : Nat) : Int) := by have := HDN.out; rw [wrap_in (by omega) (by omega)]; rfl
                      have HTK := Lib.hid (lastO_take o.f1 hd)
                      by_cases e : ky d.f1 = ky o.f1
                      · have hs := str_yes e
                        obtain ⟨Ao0, co0, HOV⟩ : ∃ A c, Hid (OpVar w wk lb (lastO o.f1 (done.take k)) A c) := HK.out.2
                        have HDV : Hid (d.f2.length ≤ cd2 ∧ Kd.C (Kd.int .u8) w Ad2 d.f2.length d.f2 ∧ lastO o.f1 (done.take (k + 1)) = d) := ⟨hcd2, hdC2, by rw [HTK.out, if_pos e]⟩
                        have HL : Hid (LB w w2 wk N sb (.slice (some ⟨gD, 0, none⟩) done.length cD) done cs okS s) := HK.out.1
                        clear hd e hcd2 hdC2 HTK HK
                        go_wp2_with (first
                          | (with_reducible refine X.store rfl 41 (.tmp 13) (.tmp 135) rfl lb 0 (.agg #[.int .i64 d.f0, .string d.f1, .slice Ad2 d.f2.length cd2, .int .i64 d.f3, .bool d.f4]) ?_ ?_ _ _ HOV.out.blk ?_ ?_ ?_ ?_)
                          | fail)
                        · rfl
                        · rfl
                        · exact sz41
                        · exact Nat.le_refl _
                        · intro u hu
                          simp [Value.cells] at hu
                          rcases hu with rfl | rfl | rfl | rfl | rfl <;> rfl
                        intro w5 hb5 hg5
                        have HN5 : Hid (LB w w2 w5 N sb (.slice (some ⟨gD, 0, none⟩) done.length cD) done cs okS s ∧ ∃ A c, OpVar w w5 lb (lastO o.f1 (done.take (k + 1))) A c) :=
                          ⟨HL.out.but (But.of_grown hg5 fun q e => by cases e; rfl) HLB.out.1 HLB.out.2.1 HLB.out.2.2, Ad2, cd2, by rw [HDV.out.2.2]; exact ⟨by simpa [splice, Value.cells] using hb5, HDV.out.1, HDV.out.2.1⟩⟩
                        clear hb5 hg5 f0 f1 f2 f3 f4 hs
                        go_wp2
                        go_roundg (done.length - (k + 1))
                        case measure => clear hkw; omega
                        case rel => exact ⟨k + 1, by clear hkw; omega, by first | rfl | rw [hkw], HN5.out⟩
                      · have hs := str_no e
                        have HN4 : Hid (LB w w2 wk N sb (.slice (some ⟨gD, 0, none⟩) done.length cD) done cs okS s ∧ ∃ A c, OpVar w wk lb (lastO o.f1 (done.take (k + 1))) A c) := ⟨HK.out.1, by rw [HTK.out, if_neg e]; exact HK.out.2⟩
                        clear hd e f0 f2 f3 f4 hcd2 hdC2
                        go_wp2
                        go_roundg (done.length - (k + 1))
                        case measure => clear hkw; omega
                        case rel => exact ⟨k + 1, by clear hkw; omega, by first | rfl | rw [hkw], HN4.out⟩
                    · have hk1 : ¬ (k : Int) < (done.length : Int) := by omega
                      have hke : done.take k = done := List.take_of_length_le (by omega)
                      obtain ⟨Av, cv, HOV⟩ : ∃ A c, Hid (OpVar w wk lb (lastO o.f1 done) A c) := by
                        have := HK.out.2
                        rw [hke] at this
                        exact this
                      have HLK : Hid (LB w w2 wk N sb (.slice AD done.length cD) done cs okS s) := HK.out.1
                      clear HK hke hk hkl
                      have HALL : Hid (s.all.length ≤ 1073741824) := by have := HP.out.few.1; have := HJL.out; exact (by omega : s.all.length ≤ 1073741824)
                      have hjw : wrap64 ((j : Int) + 1) = ((j + 1 : Nat) : Int) := by have := HJL.out; rw [wrap_in (by omega) (by omega)]; rfl
                      have HLN : Hid ((lastO o.f1 done).f2.length ≤ 140737488355328) := lastO_len HDZ.out
                      have HHL : Hid ((hasN s.L o.f1 = true ↔ (lastO o.f1 done).f0 = 2) ∧ ((lastO o.f1 done).f0 = 2 → lookL o.f1 s.L = (lastO o.f1 done).f2)) := ⟨HP.out.ok.has o.f1, HP.out.ok.look o.f1⟩
                      generalize lastO o.f1 done = l at *
                      go_upto_region 38 with (first
                        | (go_at_call 20; refine (read.calls HLK.out.sh HP.out.good o.f1 HOO.out HALL.out).mono ?_; rintro e w7 ⟨v7, rfl, hd7, hs7, hb7, -⟩
                           have HB7 := Lib.hid (HLK.out.step hb7 hs7)
                           have HD7 := Lib.hid hd7
                           have HO7 : Hid (OpVar w w7 lb l Av cv) := ⟨HOV.out.blk.but hb7 HLB.out.2.1, HOV.out.len, HOV.out.data⟩
                           have HBW7 : Hid (Below w.heap.size w w7) := HB2.out.trans (HB7.out.bel.mono HN.out.2)
                           obtain ⟨A7, c7, rfl, hc7, hC7⟩ := hd7.slice
                           have HC7 := Lib.hid (And.intro hc7 hC7)
                           clear hd7 hs7 hb7 hc7 hC7)
                        | fail)
                      have HN7 : Hid (LP (2000 + (j + 1)) done (s.note 1 o.f1 (askE s 1 o.f1 (lkE s o.f1)))) := HP.out.note o.f1 _
                      have m0 : w7.cell? ⟨lb, 0, none⟩ = some (.int .i64 l.f0) := HO7.out.blk.cell 0
                      have m2 : w7.cell? ⟨lb, 2, none⟩ = some (.slice Av l.f2.length cv) := HO7.out.blk.cell 2
                      by_cases hh : l.f0 = 2
                      · have hE := read_has HP.out.good HP.out.plan (HHL.out.1.2 hh)
                        rw [hE, if_pos rfl, HHL.out.2 hh] at HC7
                        rw [hE] at HN7 HB7
                        rw [hE, if_pos rfl, HHL.out.2 hh, show errV 0 = .nilIface from rfl]
                        clear hE HD7
                        have t1 : (l.f0 == 2) = true := by simp [hh]
                        have t2 : (l.f0 != 2) = false := by simp [hh]
                        clear hh
                        go_wp2_with (first
                          | (go_at_call 21; refine (dowelbook_Bytes.calls (l.f2.length + 1) A7 c7 l.f2 Av cv l.f2 true w7 HC7.out.2 HC7.out.1 (Kd.C_below HO7.out.data HBW7.out) HO7.out.len (bytes_f l.f2 (by have := HLN.out; omega) _ (Nat.lt_succ_self _))).mono ?_; rintro e w8 ⟨rfl, hd8⟩
                             have HB8 := Lib.hid (HB7.out.keep hd8.below)
                             have m1 : w8.cell? ⟨lb, 0, none⟩ = some (.int .i64 l.f0) := Below.cellS hd8.below m0
                             clear hd8)
                          | fail)
                        go_roundg (os.length - (j + 1))
                        case measure => clear hjw; omega
                        case rel => exact ⟨j + 1, _, _, by clear hjw; omega, by first | rfl | rw [hjw], ⟨HN7.out, HB8.out⟩⟩
                      · have hE := read_not HP.out.plan (fun h => hh (HHL.out.1.1 h))
                        rw [if_neg hE, show errV (askE s 1 o.f1 (lkE s o.f1)) = .iface 42 (.int .i64 (askE s 1 o.f1 (lkE s o.f1))) from if_neg hE]
                        clear hE HD7 HC7
                        have t1 : (l.f0 == 2) = false := by simp [hh]
                        have t2 : (l.f0 != 2) = true := by simp [hh]
                        clear hh
                        go_wp2
                        go_roundg (os.length - (j + 1))
                        case measure => clear hjw; omega
                        case rel => exact ⟨j + 1, _, _, by clear hjw; omega, by first | rfl | rw [hjw], ⟨HN7.out, HB7.out⟩⟩
                · have hi1 : ¬ (j : Int) < (os.length : Int) := by omega
                  clear HI
                  go_wp2
                  go_ret
                  exact ⟨rfl, HBW.out⟩
      · have hb2 : (4194304 : Int) ≤ (t : Int) := by omega
        go_wp2
        go_ret
        exact ⟨rfl, HI.out.1⟩
end Go.Proofs.Ytplknppmaepinaa.S
