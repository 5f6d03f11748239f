/- dowelref13.grown, walked. -/
import Derived.Test.YtmikgaphknbcaaaMA
namespace Go.X
open Go Go.RowKit
variable {P : Program}
theorem run_append_x_none (w : World) (t ty e : TypeId) (i : TypeInfo) (ht : P.underlying t = some (.slice e)) (hi : P.info? e = some i) (g n cap : Nat) (h : n ≤ cap) :
    (Builtin.append_ #[t, t] ty #[.slice (some ⟨g, 0, none⟩) n cap, .slice none 0 0]).run P w = .ok (.slice (some ⟨g, 0, none⟩) n cap) w := by
  simp [Builtin.append_, run_underlying ht, sizeOf, typeInfo, hi, Builtin.lenOf, Builtin.firstCells, loadCells, h, storeCells]
theorem Appended.refl (w : World) (e : TypeId) (size : Nat) (v : Value) (n : Nat) : Appended w w e size v v n := ⟨⟨rfl, rfl, rfl, Nat.le_refl _, fun _ _ _ => rfl⟩, Or.inl rfl, fun _ _ _ _ _ _ h _ => h⟩
/-- 'append(v, x...)': the row x behind the row v. -/
theorem run_append_row (w : World) (base b2 : Nat) (t ty e : TypeId) (i : TypeInfo) (z : Value) (size bytes : Nat) (ht : P.underlying t = some (.slice e)) (hi : P.info? e = some i) (hz : i.zero = some z)
    (hsize : i.size = size) (hby : i.bytes = bytes) (hzs : z.cells.size = size)
    (v : Value) (n : Nat) (xs : List Value) (hown : w.ownsRow base e size v n xs)
    (vx : Value) (m : Nat) (news : List Value) (hx : w.ownsRow b2 e size vx m news) (h1 : ∀ u ∈ news, u.oneCell' = true)
    (h63 : n + m ≤ maxLen) (hbytes : (n + m) * bytes ≤ 140737488355328) (hbase : base ≤ w.heap.size) :
    ∃ v' w', (Builtin.append_ #[t, t] ty #[v, vx]).run P w = .ok v' w' ∧ w'.ownsRow base e size v' (n + m) (xs ++ news) ∧ Appended w w' e size v v' n := by
  rcases hx.2 with ⟨rfl, rfl⟩ | ⟨g, cap, cur, rfl, _, _, _, _, _, _⟩
  · obtain rfl : news = [] := List.eq_nil_of_length_eq_zero (by simpa using hx.1)
    refine ⟨v, w, ?_, by simpa using hown, Appended.refl _ _ _ _ _⟩
    rcases hown.2 with ⟨rfl, rfl⟩ | ⟨g, cap, cur, rfl, _, _, hc, _, _, _⟩
    · simp [Builtin.append_, run_underlying ht, sizeOf, typeInfo, hi, Builtin.lenOf, Builtin.firstCells]
    · exact run_append_x_none w t ty e i ht hi g n cap hc
  · exact run_append_x w base t ty e i z size bytes ht hi hz hsize hby hzs v n xs hown ⟨g, 0, none⟩ m cap news hx.1 (hx.cells rfl) h1 h63 hbytes hbase
section
variable {w : World} {ops : Array Oper} {rest : List Oper} {o : Oper} {a : Act} {Q : Exit → Act → World → Prop}
theorem appendRow (hgd : o.guard = none) (s x : Operand) (t e : TypeId) (ho : o.op = .call { callee := .builtin .append, args := #[s, x], argTypes := #[t, t] })
    (base b2 : Nat) (z : Value) (size bytes : Nat) (ht : P.underlying t = some (.slice e)) (hinfo : (P.info? e).map (fun i => (i.zero, i.size, i.bytes)) = some (some z, size, bytes)) (hzs : z.cells.size = size)
    (v : Value) (n : Nat) (xs : List Value) (hs : a.eval s = v) (hown : w.ownsRow base e size v n xs)
    (vx : Value) (m : Nat) (news : List Value) (hx : a.eval x = vx) (hxo : w.ownsRow b2 e size vx m news) (h1 : ∀ u ∈ news, u.oneCell' = true)
    (h63 : n + m ≤ maxLen) (hbytes : (n + m) * bytes ≤ 140737488355328) (hbase : base ≤ w.heap.size)
    (h : ∀ v' w', w'.ownsRow base e size v' (n + m) (xs ++ news) → Appended w w' e size v v' n → wpList P ops Q rest (a.put o.dst v') w') :
    wpList P ops Q (o :: rest) a w := by
  refine wpList_plain hgd fun K hK => ?_
  obtain ⟨i, hi, hzz⟩ := Option.map_eq_some_iff.1 hinfo
  simp only [Prod.mk.injEq] at hzz
  obtain ⟨hz0, hz1, hz2⟩ := hzz
  obtain ⟨v', w', hr, h2, h3⟩ := run_append_row (P := P) w base b2 t o.type e i z size bytes ht hi hz0 hz1 hz2 hzs v n xs hown vx m news hxo h1 h63 hbytes hbase
  unfold Oper.wp execOp
  simp only [ho, resolve, invoke, builtin, Sem.run_bind, Sem.run_pure, Result.andThen_ok, List.map_toArray, List.map_cons, List.map_nil, hs, hx, hr]
  exact hK _ _ (h v' w' h2 h3)
end
end Go.X
namespace Go.Proofs.Ytmikgaphknbcaaa.B
open Go Go.RowKit Go.X Go.Proofs.YtmikgaphknbcaaaW.PrintWords Go.Proofs.Ytmikgaphknbcaaa.F

theorem capsOf_one (L : List S89) : ∀ u ∈ capsOf L, u.oneCell' = true := by
  intro u hu
  rw [capsOf, List.mem_flatMap] at hu
  obtain ⟨x, _, hu⟩ := hu
  simp only [capCells, List.mem_cons, List.not_mem_nil, or_false] at hu
  rcases hu with rfl | rfl | rfl | rfl <;> rfl
/-- What grown is handed. -/
structure GG (w1 : World) (Ar Ap : Option Addr) (K : Nat) (rs : List S34) (xs : List S79) : Prop where
  hr : Kd.C k34 w1 Ar rs.length rs
  hx : Kd.C k79 w1 Ap xs.length xs
  hk : ∀ i, i < xs.length → ∃ a c, w1.cell? ⟨K, i, none⟩ = some (.slice a ((kk xs).getD i 0).toNat c) ∧ ∀ d, d < ((kk xs).getD i 0).toNat → ∃ a', a = some a' ∧ w1.cell? (a'.add d) = some (.int .i64 (nextKid (kk xs) i d : Nat))
  tr : way (kk xs) 1 = true
  rng : ∀ i, i < xs.length → 0 ≤ (st xs i).f0 ∧ (st xs i).f0 < rs.length ∧ 0 ≤ (st xs i).f1 ∧ (st xs i).f1 < ((rl rs (st xs i).f0.toNat).f2.length : Int)
  n : xs.length ≤ 16384
/-- The forest so far. -/
structure GR (w wr : World) (v : Value) (L : List S89) : Prop where
  bel : Below w.heap.size w wr
  own : wr.ownsRow w.heap.size 89 4 v L.length (capsOf L)
theorem GR.below {w wr w' : World} {v : Value} {L : List S89} (h : GR w wr v L) (hb : Below wr.heap.size wr w') : GR w w' v L :=
  ⟨h.bel.trans (hb.mono h.bel.size), h.own.kept (grown_below hb none) (by cases hv : v.ownBlock <;> simp)⟩
theorem GR.nil {w wr : World} (h : Below w.heap.size w wr) : GR w wr (.slice none 0 0) [] := ⟨h, World.ownsRow_nil _ _ _ _⟩
theorem GR.appended {w wr w' : World} {v v' : Value} {L M : List S89} (h : GR w wr v L) (ho : w'.ownsRow w.heap.size 89 4 v' (L.length + M.length) (capsOf L ++ capsOf M)) (ha : Appended wr w' 89 4 v v' L.length) : GR w w' v' (L ++ M) :=
  ⟨h.bel.grown ha.grown h.bel.size fun k hk => (h.own.lt k hk).1, by rw [List.length_append, caps_app]; exact ho⟩
theorem GR.one {w wr : World} (hb : Below w.heap.size w wr) (c : S89) : GR w (wr.alloc (.cells (capCells c).toArray 89)) (.slice (some ⟨wr.heap.size, 0, none⟩) 1 1) [c] :=
  ⟨hb.alloc hb.size _, rfl, .inr ⟨wr.heap.size, 1, _, rfl, hb.size, heap_alloc_new wr _, Nat.le_refl _, by simp only [maxLen]; omega, rfl, rfl⟩⟩
/-- The numbers at a kid. -/
theorem kid_num2 {rs : List S34} {xs : List S79} {m i d : Nat} (tr : way (kk xs) 1 = true) (hi : i < xs.length) (hd : d < ((kk xs).getD i 0).toNat) (hn : xs.length ≤ 16384) (hm : xs.length - i ≤ m + 1) :
    nextKid (kk xs) i d < xs.length ∧ (flatF (foTo rs xs m i d)).length + (fo rs xs m (nextKid (kk xs) i d)).1.length ≤ 16384 ∧ totF (foTo rs xs m i d) + (fo rs xs m (nextKid (kk xs) i d)).2 ≤ 16384 ∧ xs.length - nextKid (kk xs) i d ≤ m := by
  have hil : i < (kk xs).length := by rw [kk_length]; exact hi
  have h1 := nextKid_lt tr hil hd
  have h3 := foTo_le rs xs m i d
  have h4 := fo_le rs xs m (nextKid (kk xs) i d)
  have h6 : nextKid (kk xs) i d = i + 1 + sk ((kk xs).drop (i + 1)) d := rfl
  have h7 := en_le (ks := kk xs) (i := nextKid (kk xs) i d) (by omega)
  have h8 := en_gt h1
  rw [kk_length] at h1 h7
  refine ⟨h1, by omega, by omega, by omega⟩
set_option maxRecDepth 100000 in
set_option maxHeartbeats 4000000 in
theorem grown.calls {w1 : World} {Au Ar Ap : Option Addr} {nu cu cr cp K : Nat} {rs : List S34} {xs : List S79} (G : Hid (GG w1 Ar Ap K rs xs)) : ∀ (m i : Nat), xs.length - i ≤ m → i < xs.length → ∀ (w : World), Below w1.heap.size w1 w →
    Calls Try.prog 58 #[.agg #[.slice Au nu cu, .slice Ar rs.length cr], .slice Ap xs.length cp, .slice (some ⟨K, 0, none⟩) xs.length xs.length, .int .i64 i] w fun e w' =>
      ∃ v', e = .returned (.tuple #[v', .int .i64 (fo rs xs m i).2]) ∧ GR w w' v' (fo rs xs m i).1
  | 0, i, hm, hi, _, _ => by omega
  | m + 1, i, hm, hi, w, hb => by
    have HB := Lib.hid hb; clear hb
    have IH : Hid (∀ (i : Nat), xs.length - i ≤ m → i < xs.length → ∀ (w : World), Below w1.heap.size w1 w →
        Calls Try.prog 58 #[.agg #[.slice Au nu cu, .slice Ar rs.length cr], .slice Ap xs.length cp, .slice (some ⟨K, 0, none⟩) xs.length xs.length, .int .i64 i] w fun e w' =>
          ∃ v', e = .returned (.tuple #[v', .int .i64 (fo rs xs m i).2]) ∧ GR w w' v' (fo rs xs m i).1) := grown.calls G m
    have hba : Hid (Below w.heap.size w (w.alloc (.cells #[.slice Au nu cu, .slice Ar rs.length cr] 26))) := (Below.refl _ w).alloc (Nat.le_refl _) _
    obtain ⟨ad, eA, c0, c1, c2, c3, c4, c5, c6⟩ := step_at (Kd.C_below (Kd.C_below G.out.hx HB.out) hba.out) i hi
    have hi1 : (i : Int) < (xs.length : Int) := by omega
    have hi0 : (0 : Int) ≤ (i : Int) := by omega
    have HRG := Lib.hid (G.out.rng i hi)
    subst eA
    obtain ⟨s, hs⟩ : ∃ s, st xs i = s := ⟨_, rfl⟩
    rw [hs] at c0 c1 c2 c3 c4 c5 c6
    have HSI := Lib.hid hs; clear hs
    go_enter Try.func58, Try.ntmps58
    obtain ⟨r0, r1, r2, r3⟩ := HRG.out
    rw [HSI.out] at r0 r1 r2 r3
    go_wp2
    have HW : Hid (Below w.heap.size w ((w.alloc (.cells #[.slice Au nu cu, .slice Ar rs.length cr] 26)).alloc (.cells #[.int .i64 s.f0, .int .i64 s.f1, .int .i64 s.f2, .int .i64 s.f3, .int .i64 s.f4, .string s.f5, .int .i64 s.f6] 79)) ∧
        Blk ((w.alloc (.cells #[.slice Au nu cu, .slice Ar rs.length cr] 26)).alloc (.cells #[.int .i64 s.f0, .int .i64 s.f1, .int .i64 s.f2, .int .i64 s.f3, .int .i64 s.f4, .string s.f5, .int .i64 s.f6] 79)) w.heap.size 26 [.slice Au nu cu, .slice Ar rs.length cr] ∧
        Blk ((w.alloc (.cells #[.slice Au nu cu, .slice Ar rs.length cr] 26)).alloc (.cells #[.int .i64 s.f0, .int .i64 s.f1, .int .i64 s.f2, .int .i64 s.f3, .int .i64 s.f4, .string s.f5, .int .i64 s.f6] 79)) (w.heap.size + 1) 79 [.int .i64 s.f0, .int .i64 s.f1, .int .i64 s.f2, .int .i64 s.f3, .int .i64 s.f4, .string s.f5, .int .i64 s.f6]) :=
      ⟨hba.out.alloc hba.out.size _, (Blk.alloc w _ _).grown (World.grownBy_alloc _ _ none) (by simp), by
        have := Blk.alloc (w.alloc (.cells #[.slice Au nu cu, .slice Ar rs.length cr] 26)) #[.int .i64 s.f0, .int .i64 s.f1, .int .i64 s.f2, .int .i64 s.f3, .int .i64 s.f4, .string s.f5, .int .i64 s.f6] 79
        simpa using this⟩
    generalize hwc : (w.alloc (.cells #[.slice Au nu cu, .slice Ar rs.length cr] 26)).alloc (.cells #[.int .i64 s.f0, .int .i64 s.f1, .int .i64 s.f2, .int .i64 s.f3, .int .i64 s.f4, .string s.f5, .int .i64 s.f6] 79) = wc
    rw [hwc] at HW
    clear hwc
    have b1 : wc.cell? ⟨w.heap.size, 1, none⟩ = some (.slice Ar rs.length cr) := HW.out.2.1.cell 1
    have s0 : wc.cell? ⟨w.heap.size + 1, 0, none⟩ = some (.int .i64 s.f0) := HW.out.2.2.cell 0
    have s1 : wc.cell? ⟨w.heap.size + 1, 1, none⟩ = some (.int .i64 s.f1) := HW.out.2.2.cell 1
    have hbc : Hid (Below w1.heap.size w1 wc) := HB.out.trans (HW.out.1.mono HB.out.size)
    obtain ⟨a2, A1, d1, A2, d2, eA2, _, _, e2, _, _, _, g2⟩ := rule_at (Kd.C_below G.out.hr hbc.out) s.f0.toNat (by omega)
    obtain ⟨a3, eA3, n0, n1, n2, n3, n4, n5, n6, n7, n8, n9⟩ := node_at g2 s.f1.toNat (by omega)
    subst eA2
    subst eA3
    obtain ⟨y, hy⟩ : ∃ y, nd (rl rs s.f0.toNat).f2 s.f1.toNat = y := ⟨_, rfl⟩
    rw [hy] at n0 n1 n2 n3 n4 n5 n6 n7 n8 n9
    have HY : Hid (nodeOf rs s = y) := hy
    clear hy
    generalize hlen : (rl rs s.f0.toNat).f2.length = bl' at *
    clear c0 c1 c2 c3 c4 c5 c6 g2
    go_region_held3 (fun w' => w'.cell? ⟨w.heap.size, 1, none⟩ = some (.slice (some a2) rs.length cr) ∧ w'.cell? ⟨w.heap.size + 1, 0, none⟩ = some (.int .i64 s.f0) ∧ w'.cell? ⟨w.heap.size + 1, 1, none⟩ = some (.int .i64 s.f1) ∧ w'.cell? ⟨(a2.add (s.f0.toNat * 3)).block, (a2.add (s.f0.toNat * 3)).off + 2, none⟩ = some (.slice (some a3) bl' d2) ∧
        w'.cell? (a3.add (s.f1.toNat * 10)) = some (.int .i64 y.f0) ∧ w'.cell? ⟨(a3.add (s.f1.toNat * 10)).block, (a3.add (s.f1.toNat * 10)).off + 1, none⟩ = some (.int .i64 y.f1) ∧ w'.cell? ⟨(a3.add (s.f1.toNat * 10)).block, (a3.add (s.f1.toNat * 10)).off + 2, none⟩ = some (.string y.f2) ∧ w'.cell? ⟨(a3.add (s.f1.toNat * 10)).block, (a3.add (s.f1.toNat * 10)).off + 3, none⟩ = some (.bool y.f3) ∧
        w'.cell? ⟨(a3.add (s.f1.toNat * 10)).block, (a3.add (s.f1.toNat * 10)).off + 4, none⟩ = some (.int .u64 y.f4.f0) ∧ w'.cell? ⟨(a3.add (s.f1.toNat * 10)).block, (a3.add (s.f1.toNat * 10)).off + 5, none⟩ = some (.int .u64 y.f4.f1) ∧ w'.cell? ⟨(a3.add (s.f1.toNat * 10)).block, (a3.add (s.f1.toNat * 10)).off + 6, none⟩ = some (.int .u64 y.f4.f2) ∧ w'.cell? ⟨(a3.add (s.f1.toNat * 10)).block, (a3.add (s.f1.toNat * 10)).off + 7, none⟩ = some (.int .u64 y.f4.f3) ∧
        w'.cell? ⟨(a3.add (s.f1.toNat * 10)).block, (a3.add (s.f1.toNat * 10)).off + 8, none⟩ = some (.int .i64 y.f5) ∧ w'.cell? ⟨(a3.add (s.f1.toNat * 10)).block, (a3.add (s.f1.toNat * 10)).off + 9, none⟩ = some (.int .i64 y.f6))
      (first
        | go_keep)
      (first | fail)
    have HDD : ∀ wd : World, wd = (wc.alloc (.cells (nodeCells y).toArray 47)).drew → Hid (Below wc.heap.size wc wd ∧ Blk wd wc.heap.size 47 (nodeCells y) ∧ Blk wd w.heap.size 26 [.slice Au nu cu, .slice (some a2) rs.length cr] ∧
        Blk wd (w.heap.size + 1) 79 [.int .i64 s.f0, .int .i64 s.f1, .int .i64 s.f2, .int .i64 s.f3, .int .i64 s.f4, .string s.f5, .int .i64 s.f6]) := by
      rintro wd rfl
      have hq : Below wc.heap.size wc (wc.alloc (.cells (nodeCells y).toArray 47)) := (Below.refl _ wc).alloc (Nat.le_refl _) _
      exact ⟨hq.drew, Blk.alloc wc _ _, HW.out.2.1.below hq.drew HW.out.2.1.lt, HW.out.2.2.below hq.drew HW.out.2.2.lt⟩
    generalize hwd : (wc.alloc (.cells #[.int .i64 y.f0, .int .i64 y.f1, .string y.f2, .bool y.f3, .int .u64 y.f4.f0, .int .u64 y.f4.f1, .int .u64 y.f4.f2, .int .u64 y.f4.f3, .int .i64 y.f5, .int .i64 y.f6] 47)).drew = wd
    have HD := HDD wd hwd.symm
    clear HDD hwd b1 s0 s1 e2 n0 n1 n2 n3 n4 n5 n6 n7 n8 n9
    rename_i hHeld
    clear hHeld
    have hbd : Hid (Below w.heap.size w wd) := HW.out.1.trans (HD.out.1.mono HW.out.1.size)
    have s3 : wd.cell? ⟨w.heap.size + 1, 3, none⟩ = some (.int .i64 s.f3) := HD.out.2.2.2.cell 3
    have n0 : wd.cell? ⟨wc.heap.size, 0, none⟩ = some (.int .i64 y.f0) := HD.out.2.1.cell 0
    clear r0 r1 r2 r3 hlen hbc HW
    by_cases h3 : s.f3 = 1
    · by_cases h12 : y.f0 = 12 ∨ y.f0 = 13
      · have e : fo rs xs (m + 1) i = ([], 0) := by rw [fo, HSI.out, if_neg (by simp [h3]), HY.out, if_pos h12]
        have HV := Lib.hid e; clear e
        rcases h12 with h12 | h12
        all_goals
          go_wp2
          go_ret2
          rw [HV.out]
          exact ⟨_, rfl, GR.nil hbd.out⟩
      · have HN := Lib.hid h12
        have h13 : (y.f0 == (12 : Int)) = false := beq_eq_false_iff_ne.2 fun h => h12 (.inl h)
        have h14 : (y.f0 == (13 : Int)) = false := beq_eq_false_iff_ne.2 fun h => h12 (.inr h)
        have HN16 : Hid (xs.length ≤ 16384) := G.out.n
        have HHM := Lib.hid hm
        have HHI := Lib.hid hi
        have HIL : Hid (i < (kk xs).length) := by rw [kk_length]; exact hi
        have HS : Hid (GR w wd (.slice none 0 0) ([] : List S89) ∧ Blk wd wc.heap.size 47 (nodeCells y) ∧ Blk wd w.heap.size 26 [.slice Au nu cu, .slice (some a2) rs.length cr] ∧
            Blk wd (w.heap.size + 1) 79 [.int .i64 s.f0, .int .i64 s.f1, .int .i64 s.f2, .int .i64 s.f3, .int .i64 s.f4, .string s.f5, .int .i64 s.f6]) := ⟨GR.nil hbd.out, HD.out.2⟩
        clear h12 hm HD hbd HRG
        obtain ⟨kn, hkn⟩ : ∃ kn, ((kk xs).getD i 0).toNat = kn := ⟨_, rfl⟩
        have HKN := Lib.hid hkn; clear hkn
        go_wp2
        go_loopg [12, 13, 14] kn (fun q f tr kv wr => ∃ d : Nat, q + d = kn ∧ tr = .int .i64 (totF (foTo rs xs m i d) : Nat) ∧ kv = .int .i64 (d : Nat) ∧ Hid (GR w wr f (flatF (foTo rs xs m i d)) ∧ Blk wr wc.heap.size 47 (nodeCells y) ∧ Blk wr w.heap.size 26 [.slice Au nu cu, .slice (some a2) rs.length cr] ∧
            Blk wr (w.heap.size + 1) 79 [.int .i64 s.f0, .int .i64 s.f1, .int .i64 s.f2, .int .i64 s.f3, .int .i64 s.f4, .string s.f5, .int .i64 s.f6]))
        case atStart => exact ⟨0, by simp, rfl, rfl, HS.out⟩
        case round =>
          clear HS s3 n0
          have H3 := Lib.hid h3; clear h3
          obtain ⟨d, hd, rfl, rfl, HF⟩ := hrel
          have hbw : Hid (Below w1.heap.size w1 wr) := HB.out.trans (HF.out.1.bel.mono HB.out.size)
          obtain ⟨a5, c5, k0, hks⟩ := G.out.hk i HHI.out
          rw [HKN.out] at k0 hks
          have k0' : wr.cell? ⟨K, i, none⟩ = some (.slice a5 kn c5) := Below.cell_some hbw.out k0
          clear k0
          by_cases hlt : d < kn
          · have hlt2 : (d : Int) < (kn : Int) := Int.ofNat_lt.2 hlt
            have hd0 : (0 : Int) ≤ (d : Int) := by omega
            obtain ⟨a6, ha6, k1⟩ := hks d hlt
            have k1' := Below.cell_some hbw.out k1
            subst ha6
            have q1 : wr.cell? ⟨w.heap.size, 0, none⟩ = some (.slice Au nu cu) := HF.out.2.2.1.cell 0
            have q2 : wr.cell? ⟨w.heap.size, 1, none⟩ = some (.slice (some a2) rs.length cr) := HF.out.2.2.1.cell 1
            clear hks k1
            go_wp2
            obtain ⟨z1, z2, z3, z4⟩ := kid_num2 (rs := rs) G.out.tr HHI.out (d := d) (by rw [HKN.out]; exact hlt) HN16.out HHM.out
            have HSUC := Lib.hid (nextKid_succ (kk xs) i d)
            have HFS := Lib.hid (foTo_succ rs xs m i d)
            obtain ⟨p, hp⟩ : ∃ p, nextKid (kk xs) i d = p := ⟨_, rfl⟩
            rw [hp] at z1 z2 z3 z4 HSUC HFS k1'
            have HIH := Lib.hid (fun wq (hq : Below wr.heap.size wr wq) => IH.out p z4 z1 wq (hbw.out.trans (hq.mono hbw.out.size)))
            have HZ := Lib.hid (And.intro z2 z3)
            have HLT := Lib.hid hlt
            clear hp z1 z2 z3 z4
            go_region_held3 (fun w' => w'.cell? ⟨w.heap.size, 0, none⟩ = some (.slice Au nu cu) ∧ w'.cell? ⟨w.heap.size, 1, none⟩ = some (.slice (some a2) rs.length cr) ∧ w'.cell? ⟨K, i, none⟩ = some (.slice (some a6) kn c5) ∧ w'.cell? (a6.add d) = some (.int .i64 (p : Int)))
              (first
                | exact ⟨Below.cell_some hbk5.out q1, Below.cell_some hbk5.out q2, Below.cell_some hbk5.out k0', Below.cell_some hbk5.out k1'⟩
                | go_keep)
              (first
                | (go_at_call 58; refine (HIH.out _ (Below.refl _ _).drew).mono ?_; rintro e w5 ⟨v5, rfl, hfr⟩
                   have hbk5 : Hid (Below wr.heap.size wr w5) := (Below.refl _ _).drew.trans hfr.bel
                   have HR5 := Lib.hid hfr; clear hfr))
            rename_i hHeld
            clear hHeld q1 q2 k0' k1' hlt2 HIH
            have HF5 : Hid (GR w w5 u12 (flatF (foTo rs xs m i d)) ∧ Blk w5 wc.heap.size 47 (nodeCells y) ∧ Blk w5 w.heap.size 26 [.slice Au nu cu, .slice (some a2) rs.length cr] ∧
                Blk w5 (w.heap.size + 1) 79 [.int .i64 s.f0, .int .i64 s.f1, .int .i64 s.f2, .int .i64 s.f3, .int .i64 s.f4, .string s.f5, .int .i64 s.f6]) :=
              ⟨HF.out.1.below hbk5.out, HF.out.2.1.below hbk5.out HF.out.2.1.lt, HF.out.2.2.1.below hbk5.out HF.out.2.2.1.lt, HF.out.2.2.2.below hbk5.out HF.out.2.2.2.lt⟩
            clear HF hbk5 hbw hlt
            go_wp2_with (first
              | (at_builtin; refine appendRow rfl (.tmp 68) (.tmp 69) 56 89 rfl w.heap.size _ _ 4 40 Try.underlying56 info89 rfl _ (flatF (foTo rs xs m i d)).length _ rfl HF5.out.1.own _ (fo rs xs m p).1.length _ rfl HR5.out.own (capsOf_one _) ?_ ?_ ?_ ?_)
              | fail)
            · have := HZ.out.1; simp only [maxLen]; omega
            · have := HZ.out.1; omega
            · exact HF5.out.1.bel.size
            intro v' w6 hown hap
            have HF6 : Hid (GR w w6 v' (flatF (foTo rs xs m i (d + 1))) ∧ Blk w6 wc.heap.size 47 (nodeCells y) ∧ Blk w6 w.heap.size 26 [.slice Au nu cu, .slice (some a2) rs.length cr] ∧
                Blk w6 (w.heap.size + 1) 79 [.int .i64 s.f0, .int .i64 s.f1, .int .i64 s.f2, .int .i64 s.f3, .int .i64 s.f4, .string s.f5, .int .i64 s.f6]) := by
              refine ⟨?_, hap.keeps_lt HF5.out.2.1 (fun e => own_ne89 HF5.out.1.own HF5.out.2.1 (by decide) e.symm), hap.keeps_lt HF5.out.2.2.1 (fun e => own_ne89 HF5.out.1.own HF5.out.2.2.1 (by decide) e.symm), hap.keeps_lt HF5.out.2.2.2 (fun e => own_ne89 HF5.out.1.own HF5.out.2.2.2 (by decide) e.symm)⟩
              rw [HFS.out, flatF_snoc]
              exact HF5.out.1.appended hown hap
            have htot : Hid (totF (foTo rs xs m i (d + 1)) = totF (foTo rs xs m i d) + (fo rs xs m p).2) := by show _ = _; rw [HFS.out, totF_snoc]
            have hwt := int_add2 HZ.out.2
            have hwd : wrap64 ((d : Int) + 1) = ((d + 1 : Nat) : Int) := by
              have h1 := en_le (ks := kk xs) (i := i) (by have := HIL.out; omega)
              have h2 := kids_few G.out.tr HIL.out (d := kn) (by rw [HKN.out]; exact Nat.le_refl _)
              have h5 := nextKid_all HIL.out
              rw [HKN.out] at h5
              rw [h5] at h2
              have h3 := HN16.out
              have h4 := HLT.out
              rw [kk_length] at h1
              rw [IntWalk.wrap64_in _ (by omega)]; rfl
            clear hown hap HF5 HR5
            go_wp2
            go_roundg (kn - (d + 1))
            case measure => have := HLT.out; clear hwt hwd; omega
            case rel => exact ⟨d + 1, by have := HLT.out; clear hwt hwd; omega, by rw [htot.out]; first | rfl | rw [hwt], by first | rfl | rw [hwd], HF6.out⟩
          · have hdK : d = kn := by omega
            have HKO : Hid (foTo rs xs m i d = (kidsOf (kk xs) i).map (fo rs xs m)) := by show _ = _; rw [foTo, kidsOf, hdK, HKN.out]
            have hge2 : ¬ (d : Int) < (kn : Int) := by omega
            have n0 : wr.cell? ⟨wc.heap.size, 0, none⟩ = some (.int .i64 y.f0) := HF.out.2.1.cell 0
            clear hks hdK
            by_cases h15 : y.f0 = 14
            · have e : fo rs xs (m + 1) i = (⟨y.f2, s.f2, s.f4, totF (foTo rs xs m i d)⟩ :: flatF (foTo rs xs m i d), 1) := by
                rw [fo, HSI.out, if_neg (by simp [H3.out]), HY.out, if_neg HN.out, if_pos h15, ← HKO.out]
              have HV := Lib.hid e; clear e
              have n2 : wr.cell? ⟨wc.heap.size, 2, none⟩ = some (.string y.f2) := HF.out.2.1.cell 2
              have t2 : wr.cell? ⟨w.heap.size + 1, 2, none⟩ = some (.int .i64 s.f2) := HF.out.2.2.2.cell 2
              have t4 : wr.cell? ⟨w.heap.size + 1, 4, none⟩ = some (.int .i64 s.f4) := HF.out.2.2.2.cell 4
              have hlen : (flatF (foTo rs xs m i d)).length ≤ 16384 := by
                have h1 := (fo_le rs xs (m + 1) i).2
                have h2 := en_le (ks := kk xs) (i := i) (by have := HIL.out; omega)
                rw [HV.out, List.length_cons] at h1
                rw [kk_length] at h2
                have := HN16.out
                omega
              have HONE : Hid (GR w (wr.alloc (.cells (capCells ⟨y.f2, s.f2, s.f4, totF (foTo rs xs m i d)⟩).toArray 89)) (.slice (some ⟨wr.heap.size, 0, none⟩) 1 1) [⟨y.f2, s.f2, s.f4, totF (foTo rs xs m i d)⟩]) := GR.one HF.out.1.bel _
              have HROW : Hid ((wr.alloc (.cells (capCells ⟨y.f2, s.f2, s.f4, totF (foTo rs xs m i d)⟩).toArray 89)).ownsRow w.heap.size 89 4 u12 (flatF (foTo rs xs m i d)).length (capsOf (flatF (foTo rs xs m i d)))) := HF.out.1.own.alloc _
              clear HF
              go_wp2_with (first
                | (at_builtin; refine appendRow rfl (.tmp 85) (.tmp 86) 56 89 rfl w.heap.size _ _ 4 40 Try.underlying56 info89 rfl _ 1 _ rfl HONE.out.own _ (flatF (foTo rs xs m i d)).length _ rfl HROW.out (capsOf_one _) ?_ ?_ ?_ ?_)
                | fail)
              · simp only [maxLen]; omega
              · omega
              · have := HONE.out.bel.size; simpa using this
              intro v' w6 hown hap
              have HF6 : Hid (GR w w6 v' (⟨y.f2, s.f2, s.f4, totF (foTo rs xs m i d)⟩ :: flatF (foTo rs xs m i d))) := HONE.out.appended (L := [⟨y.f2, s.f2, s.f4, totF (foTo rs xs m i d)⟩]) hown hap
              clear hown hap HONE HROW
              go_wp2
              go_ret2
              rw [HV.out]
              exact ⟨_, rfl, HF6.out⟩
            · have e : fo rs xs (m + 1) i = (flatF (foTo rs xs m i d), totF (foTo rs xs m i d)) := by
                rw [fo, HSI.out, if_neg (by simp [H3.out]), HY.out, if_neg HN.out, if_neg h15, ← HKO.out]
              have HV := Lib.hid e; clear e
              have hb15 : (y.f0 == (14 : Int)) = false := beq_eq_false_iff_ne.2 h15
              go_wp2
              go_ret2
              rw [HV.out]
              exact ⟨_, rfl, HF.out.1⟩
    · have e : fo rs xs (m + 1) i = ([], 0) := by rw [fo, HSI.out, if_pos h3]
      have HV := Lib.hid e; clear e
      go_wp2
      go_ret2
      rw [HV.out]
      exact ⟨_, rfl, GR.nil hbd.out⟩
end Go.Proofs.Ytmikgaphknbcaaa.B
