/- Texts joined and shortened (wip/tools/shrink.py): DUnPlain, DUnMem, DUReg, DUnSt, DUnB, DUnM. -/
import Derived.Test.YtmpkkphohilkoaaDoorQu0
import Derived.Test.YtmpkkphohilkoaaDoorQu11
import Derived.Test.YtmpkkphohilkoaaDoorQu8
/- What MatchUnseen asks, plain: core grammars with other names, and without captures. -/
namespace Go.Proofs.YtmpkkphohilkoaaDoor.B
open Go Go.RowKit Go.X Go.Ma Go.Proofs.YtmpkkphohilkoaaDoorW.PrintWords Go.Proofs.YtmpkkphohilkoaaDoor.F Go.Proofs.YtmpkkphohilkoaaDoor.Nm
def otherS : ByteArray := ⟨#[111, 116, 104, 101, 114]⟩
def nameN (x : S47) : S47 := if x.f0 = 8 then ⟨x.f0, x.f1, x.f2, otherS⟩ else x
def isB (x : S47) : Bool := decide (x.f0 ≠ 8)
def rsN (rs : List S42) : List S42 := rs.map fun r => ⟨r.f0, r.f1.map nameN⟩
def rsB (rs : List S42) : List S42 := rs.map fun r => ⟨r.f0, r.f1.filter isB⟩
theorem nameN_f0 (x : S47) : (nameN x).f0 = x.f0 := by unfold nameN; split <;> rfl
theorem other_ok : (nameOK otherS && plainS otherS) = true := by kernel_rfl
theorem nodeOK_name {N : Nat} {x : S47} (h : nodeOK N x = true) : nodeOK N (nameN x) = true := by
  unfold nameN
  split
  · rename_i h8
    unfold nodeOK at h ⊢
    rw [Bool.and_eq_true] at h ⊢
    refine ⟨h.1, ?_⟩
    rw [if_pos (.inr h8)]
    exact other_ok
  · exact h
theorem goB_name {N : Nat} : ∀ {b : List S47} {n : Nat}, goB N b n = true → goB N (b.map nameN) n = true
  | [], _, h => h
  | x :: r, n, h => by
    rw [goB, Bool.and_eq_true, Bool.and_eq_true] at h
    rw [List.map_cons, goB, Bool.and_eq_true, Bool.and_eq_true, nameN_f0]
    exact ⟨⟨nodeOK_name h.1.1, h.1.2⟩, goB_name h.2⟩
theorem goB_bare {N : Nat} : ∀ {b : List S47} {n : Nat}, goB N b n = true → goB N (b.filter isB) n = true
  | [], _, h => h
  | x :: r, n, h => by
    rw [goB, Bool.and_eq_true, Bool.and_eq_true] at h
    by_cases h8 : x.f0 = 8
    · rw [List.filter_cons_of_neg (by simp [isB, h8])]
      have h1 := of_decide_eq_true h.1.2
      have ha : arz x.f0 = 1 := by rw [h8]; rfl
      rw [ha] at h h1
      have := goB_bare h.2
      rwa [show n + 1 - 1 = n by omega] at this
    · rw [List.filter_cons_of_pos (by simp [isB, h8]), goB, Bool.and_eq_true, Bool.and_eq_true]
      exact ⟨h.1, goB_bare h.2⟩
theorem cr_map {rs : List S42} {g : S42 → S42} {n : Nat} (h : n < rs.length) : cr (rs.map g) n = g (cr rs n) := by
  simp [cr, List.getD_eq_getElem?_getD, h]
theorem sz_map (g : List S47 → List S47) (hg : ∀ b, (g b).length ≤ b.length) : ∀ rs : List S42, sz (rs.map fun r => ⟨r.f0, g r.f1⟩) ≤ sz rs
  | [] => Nat.le_refl _
  | x :: r => by
    rw [List.map_cons, sz, sz]
    have := sz_map g hg r
    have := hg x.f1
    simp only
    omega
theorem chk_map (g : List S47 → List S47) (hg : ∀ b, (g b).length ≤ b.length) (hb : ∀ N b, goB N b 0 = true → goB N (g b) 0 = true) {rs : List S42} {start : Int} (h : chk rs start = true) : chk (rs.map fun r => ⟨r.f0, g r.f1⟩) start = true := by
  unfold chk at h ⊢
  rw [Bool.and_eq_true] at h ⊢
  obtain ⟨h1, h2⟩ := h
  have h1 := of_decide_eq_true h1
  have hs := sz_map g hg rs
  refine ⟨decide_eq_true ?_, ?_⟩
  · rw [List.length_map]; exact ⟨h1.1, h1.2.1, h1.2.2.1, h1.2.2.2.1, Nat.le_trans hs h1.2.2.2.2⟩
  · rw [List.length_map, List.all_eq_true]
    intro i hi
    have hil : i < rs.length := by simpa using hi
    have h3 := List.all_eq_true.1 h2 i hi
    unfold okAt at h3 ⊢
    rw [Bool.and_eq_true, Bool.and_eq_true] at h3 ⊢
    rw [cr_map hil, List.length_map]
    refine ⟨⟨h3.1.1, hb _ _ h3.1.2⟩, ?_⟩
    have h4 := of_decide_eq_true h3.2
    refine decide_eq_true fun k hk => ?_
    rw [cr_map (by omega)]
    exact h4 k hk
theorem chk_N {rs : List S42} {start : Int} (h : chk rs start = true) : chk (rsN rs) start = true := chk_map (fun b => b.map nameN) (fun b => by simp) (fun _ _ h => goB_name h) h
theorem chk_B {rs : List S42} {start : Int} (h : chk rs start = true) : chk (rsB rs) start = true := chk_map (fun b => b.filter isB) (fun _ => List.length_filter_le _ _) (fun _ _ h => goB_bare h) h
theorem tstk_take (b : List CN) : ∀ i, i ≤ b.length → tstk b i = (b.take i).foldl push []
  | 0, _ => by simp [tstk]
  | i + 1, h => by
    rw [tstk, tstk_take b i (by omega), List.take_succ_eq_append_getElem (by omega), List.foldl_append]
    simp [cn, List.getD_eq_getElem?_getD, List.getElem?_eq_getElem (show i < b.length by omega)]
theorem tre_fold (rs : List S42) (n : Nat) : tre rs n = hd ((bod rs n).foldl push []) := by
  have hl : (bod rs n).length = (cr rs n).f1.length := by simp [bod]
  unfold tre tr
  by_cases h : (cr rs n).f1.length = 0
  · have hb : bod rs n = [] := List.eq_nil_of_length_eq_zero (by omega)
    rw [h, hb]
    rfl
  · rw [show (cr rs n).f1.length - 1 + 1 = (bod rs n).length by omega, tstk_take _ _ (Nat.le_refl _), List.take_length]
theorem hd_map (g : T → T) (hg : g .emp = .emp) (st : List T) : hd (st.map g) = g (hd st) := by cases st <;> simp [hd, hg]
theorem mk_name {x : S47} (h0 : 0 ≤ x.f0) (h8 : x.f0 ≤ 8) (a b : T) : mk (cnOf (nameN x)) (nmT otherS a) (nmT otherS b) = nmT otherS (mk (cnOf x) a b) := by
  by_cases e : x.f0 = 8
  · have : nameN x = ⟨x.f0, x.f1, x.f2, otherS⟩ := if_pos e
    rw [this]
    simp only [mk, cnOf, e]
    simp [nmT]
  · have : nameN x = x := if_neg e
    rw [this]
    have hc : x.f0 = 0 ∨ x.f0 = 1 ∨ x.f0 = 2 ∨ x.f0 = 3 ∨ x.f0 = 4 ∨ x.f0 = 5 ∨ x.f0 = 6 ∨ x.f0 = 7 := by omega
    rcases hc with h | h | h | h | h | h | h | h <;> simp [mk, cnOf, h, nmT]
theorem push_name {x : S47} (h0 : 0 ≤ x.f0) (h8 : x.f0 ≤ 8) (st : List T) : push (st.map (nmT otherS)) (cnOf (nameN x)) = (push st (cnOf x)).map (nmT otherS) := by
  have e : (cnOf (nameN x)).op = (cnOf x).op := nameN_f0 x
  have hemp : nmT otherS .emp = .emp := rfl
  unfold push
  rw [e]
  split
  · rw [List.map_cons, List.map_drop, ← List.map_drop, ← List.map_drop, hd_map _ hemp, hd_map _ hemp, mk_name h0 h8]
  · split
    · rw [List.map_cons, ← List.map_drop, hd_map _ hemp]
      have := mk_name h0 h8 (hd st) .emp
      rw [hemp] at this
      rw [this]
    · rw [List.map_cons]
      have := mk_name h0 h8 .emp .emp
      rw [hemp] at this
      rw [this]
theorem fold_name {N : Nat} : ∀ {b : List S47} {n : Nat} {st : List T}, goB N b n = true → ((b.map nameN).map cnOf).foldl push (st.map (nmT otherS)) = ((b.map cnOf).foldl push st).map (nmT otherS)
  | [], _, _, _ => rfl
  | x :: r, n, st, h => by
    rw [goB, Bool.and_eq_true, Bool.and_eq_true] at h
    have hx := nodeN_of h.1.1
    simp only [List.map_cons, List.foldl_cons]
    rw [push_name hx.2.2.1 hx.2.2.2]
    exact fold_name h.2
theorem mk_bare {x : S47} (h0 : 0 ≤ x.f0) (h8 : x.f0 < 8) (a b : T) : mk (cnOf x) (noT a) (noT b) = noT (mk (cnOf x) a b) := by
  have hc : x.f0 = 0 ∨ x.f0 = 1 ∨ x.f0 = 2 ∨ x.f0 = 3 ∨ x.f0 = 4 ∨ x.f0 = 5 ∨ x.f0 = 6 ∨ x.f0 = 7 := by omega
  rcases hc with h | h | h | h | h | h | h | h <;> simp [mk, cnOf, h, noT]
theorem push_len {x : S47} {st : List T} (h : arz x.f0 ≤ st.length) : (push st (cnOf x)).length = st.length + 1 - arz x.f0 := by
  have e : (cnOf x).op = x.f0 := rfl
  have ea : ar x.f0 = arz x.f0 := rfl
  unfold push
  rw [e, ea]
  split
  · rename_i h2
    rw [h2] at h ⊢
    simp; omega
  · split
    · rename_i h1
      rw [h1] at h ⊢
      simp; omega
    · rename_i h2 h1
      have : arz x.f0 = 0 := by
        unfold arz at *
        repeat' split at h2
        all_goals first | rfl | omega | (simp_all; done)
      rw [this]; simp
theorem push_bare {x : S47} (h0 : 0 ≤ x.f0) (h8 : x.f0 ≤ 8) {st : List T} (h : arz x.f0 ≤ st.length) : (push st (cnOf x)).map noT = if x.f0 = 8 then st.map noT else push (st.map noT) (cnOf x) := by
  have hemp : noT .emp = .emp := rfl
  have e : (cnOf x).op = x.f0 := rfl
  split
  · rename_i e8
    have ha : ar x.f0 = 1 := by rw [e8]; rfl
    have h1 : 1 ≤ st.length := by have : arz x.f0 = 1 := ha; omega
    obtain ⟨a, r, rfl⟩ : ∃ a r, st = a :: r := by cases st with
      | nil => simp at h1
      | cons a r => exact ⟨a, r, rfl⟩
    unfold push
    rw [e, ha, if_neg (by decide), if_pos rfl]
    have hm : mk (cnOf x) (hd (a :: r)) .emp = .cap x.f3 a := by
      simp only [mk, cnOf, e8]
      simp [hd]
    rw [hm]
    simp [noT]
  · rename_i e8
    have h8' : x.f0 < 8 := by omega
    unfold push
    split
    · rw [List.map_cons, List.map_drop, ← List.map_drop, ← List.map_drop, hd_map _ hemp, hd_map _ hemp, mk_bare h0 h8']
    · split
      · rw [List.map_cons, ← List.map_drop, hd_map _ hemp]
        have := mk_bare h0 h8' (hd st) .emp
        rw [hemp] at this
        rw [this]
      · rw [List.map_cons]
        have := mk_bare h0 h8' .emp .emp
        rw [hemp] at this
        exact congrArg (· :: st.map noT) this.symm
theorem fold_bare {N : Nat} : ∀ {b : List S47} {n : Nat} {st : List T}, goB N b n = true → st.length = n → ((b.filter isB).map cnOf).foldl push (st.map noT) = ((b.map cnOf).foldl push st).map noT
  | [], _, _, _, _ => rfl
  | x :: r, n, st, h, hl => by
    rw [goB, Bool.and_eq_true, Bool.and_eq_true] at h
    have hx := nodeN_of h.1.1
    have ha := of_decide_eq_true h.1.2
    have hp := push_bare hx.2.2.1 hx.2.2.2 (st := st) (by omega)
    have hpl := push_len (x := x) (st := st) (by omega)
    have ih := fold_bare (st := push st (cnOf x)) h.2 (by rw [hpl, hl])
    rw [List.map_cons, List.foldl_cons, ← ih, hp]
    by_cases e8 : x.f0 = 8
    · rw [if_pos e8, List.filter_cons_of_neg (by simp [isB, e8])]
    · rw [if_neg e8, List.filter_cons_of_pos (by simp [isB, e8]), List.map_cons, List.foldl_cons]
theorem goB_of {rs : List S42} {start : Int} (h : chk rs start = true) {n : Nat} (hn : n < rs.length) : goB rs.length (cr rs n).f1 0 = true := by
  unfold chk at h
  rw [Bool.and_eq_true] at h
  have h2 := List.all_eq_true.1 h.2 n (by simpa using hn)
  unfold okAt at h2
  rw [Bool.and_eq_true, Bool.and_eq_true] at h2
  exact h2.1.2
theorem cr_out {rs : List S42} {n : Nat} (hn : ¬ n < rs.length) : cr rs n = z42 := by
  rw [cr, List.getD_eq_getElem?_getD, List.getElem?_eq_none (Nat.le_of_not_lt hn)]; rfl
theorem tre_N {rs : List S42} {start : Int} (h : chk rs start = true) (n : Nat) : tre (rsN rs) n = nmT otherS (tre rs n) := by
  rw [tre_fold, tre_fold, ← hd_map (nmT otherS) rfl]
  by_cases hn : n < rs.length
  · have := fold_name (st := []) (goB_of h hn)
    unfold bod rsN
    rw [cr_map hn, ← this]
    rfl
  · unfold bod
    rw [cr_out hn, cr_out (by simpa [rsN] using hn)]; rfl
theorem tre_B {rs : List S42} {start : Int} (h : chk rs start = true) (n : Nat) : tre (rsB rs) n = noT (tre rs n) := by
  rw [tre_fold, tre_fold, ← hd_map noT rfl]
  by_cases hn : n < rs.length
  · have := fold_bare (st := []) (goB_of h hn) rfl
    unfold bod rsB
    rw [cr_map hn, ← this]
    rfl
  · unfold bod
    rw [cr_out hn, cr_out (by simpa [rsB] using hn)]; rfl
/-- What MatchUnseen asks. -/
structure ULaw (X Y V : Res × St) : Prop where
  st : ansSt Y = ansSt X
  res : ansRes Y = nmR otherS (ansRes X)
  bare : (ansSt X).err = 0 → (ansSt V).err = 0 ∧ (ansRes V).kind = (ansRes X).kind ∧ (ansRes V).en = (ansRes X).en ∧ (ansRes V).label = (ansRes X).label ∧ (ansRes V).forest = [] ∧ (ansSt V).steps ≤ (ansSt X).steps ∧ (ansSt V).depth ≤ (ansSt X).depth
theorem uLaw (rs : List S42) (start : Int) (inp : ByteArray) (h : chk rs start = true) : ULaw (atAns rs start start inp 0 3000 50000) (atAns (rsN rs) start start inp 0 3000 50000) (atAns (rsB rs) start start inp 0 3000 50000) := by
  have hlN : (rsN rs).length = rs.length := by simp [rsN]
  have hlB : (rsB rs).length = rs.length := by simp [rsB]
  have hz : nmR otherS .zero = .zero := rfl
  by_cases hr : 0 ≤ start ∧ start < rs.length
  · by_cases hi : inp.size ≤ 65536
    · have e1 : atAns rs start start inp 0 3000 50000 = runOf rs inp start.toNat 0 3000 50000 := by
        rw [atAns, if_pos h, if_pos hr, if_pos hi, if_pos (by omega)]; rfl
      have e2 : atAns (rsN rs) start start inp 0 3000 50000 = runOf (rsN rs) inp start.toNat 0 3000 50000 := by
        rw [atAns, if_pos (chk_N h), if_pos (by rw [hlN]; exact hr), if_pos hi, if_pos (by omega)]; rfl
      have e3 : atAns (rsB rs) start start inp 0 3000 50000 = runOf (rsB rs) inp start.toNat 0 3000 50000 := by
        rw [atAns, if_pos (chk_B h), if_pos (by rw [hlB]; exact hr), if_pos hi, if_pos (by omega)]; rfl
      rw [e1, e2, e3]
      have n1 : runOf (rsN rs) inp start.toNat 0 3000 50000 = (nmR otherS (runOf rs inp start.toNat 0 3000 50000).1, (runOf rs inp start.toNat 0 3000 50000).2) := by
        unfold runOf
        rw [tre_N h]
        exact ev_name (e := envOf rs inp) (e' := envOf (rsN rs) inp) rfl rfl (tre_N h) _ _ _ _ _ _
      rw [n1]
      refine ⟨rfl, ?_, fun h0 => ?_⟩
      · unfold ansRes
        simp only
        split
        · rfl
        · exact hz.symm
      · rw [ansSt_err] at h0
        have hb := ev_bare (e := envOf rs inp) (e' := envOf (rsB rs) inp) rfl rfl (tre_B h) (clamp 3000 50000) (2 * (clamp 3000 50000).steps + 1) (2 * (clamp 3000 50000).steps + 1) (tre rs start.toNat) 0 1 1 st0 st0 (by simp [st0]) (Nat.le_refl _) (Nat.le_refl _) (Nat.le_refl _) (Nat.le_refl _) rfl h0
        rw [← tre_B h] at hb
        change Bare (runOf rs inp start.toNat 0 3000 50000) (runOf (rsB rs) inp start.toNat 0 3000 50000) at hb
        have a1 : ansRes (runOf rs inp start.toNat 0 3000 50000) = (runOf rs inp start.toNat 0 3000 50000).1 := if_pos h0
        have a2 : ansSt (runOf rs inp start.toNat 0 3000 50000) = (runOf rs inp start.toNat 0 3000 50000).2 := if_pos h0
        have a3 : ansRes (runOf (rsB rs) inp start.toNat 0 3000 50000) = (runOf (rsB rs) inp start.toNat 0 3000 50000).1 := if_pos hb.err
        have a4 : ansSt (runOf (rsB rs) inp start.toNat 0 3000 50000) = (runOf (rsB rs) inp start.toNat 0 3000 50000).2 := if_pos hb.err
        rw [a1, a2, a3, a4]
        exact ⟨hb.err, hb.kind, hb.en, hb.label, hb.none, hb.steps, hb.depth⟩
    · have e1 : ∀ rs', chk rs' start = true → rs'.length = rs.length → atAns rs' start start inp 0 3000 50000 = (.zero, ⟨0, 0, 1⟩) := fun rs' h' hl => by
        rw [atAns, if_pos h', if_pos (by rw [hl]; exact hr), if_neg hi]
      rw [e1 rs h rfl, e1 _ (chk_N h) hlN, e1 _ (chk_B h) hlB]
      exact ⟨rfl, rfl, fun h => absurd h (by decide)⟩
  · have e1 : ∀ rs', chk rs' start = true → rs'.length = rs.length → atAns rs' start start inp 0 3000 50000 = (.zero, ⟨0, 0, 5⟩) := fun rs' h' hl => by
      rw [atAns, if_pos h', if_neg (by rw [hl]; exact hr)]
    rw [e1 rs h rfl, e1 _ (chk_N h) hlN, e1 _ (chk_B h) hlB]
    exact ⟨rfl, rfl, fun h => absurd h (by decide)⟩
end Go.Proofs.YtmpkkphohilkoaaDoor.B
/- MatchUnseen: the two core grammars that it makes, in memory. -/
namespace Go.Proofs.YtmpkkphohilkoaaDoor.B
open Go Go.RowKit Go.X Go.Ma Go.Proofs.YtmpkkphohilkoaaDoorW.PrintWords Go.Proofs.YtmpkkphohilkoaaDoor.F Go.Proofs.YtmpkkphohilkoaaDoor.Nm
def nodeC (x : S47) : List Value := [.int .i64 x.f0, .int .u64 x.f1.f0, .int .u64 x.f1.f1, .int .u64 x.f1.f2, .int .u64 x.f1.f3, .int .i64 x.f2, .string x.f3]
def nodesC (b : List S47) : List Value := b.flatMap nodeC
theorem nodesC_app (a b : List S47) : nodesC (a ++ b) = nodesC a ++ nodesC b := by simp [nodesC]
theorem nodes_reps (w : World) (b : List S47) : Reps (k47.K w) k47.sz b (nodesC b) := by
  have H : ∀ n, n ≤ b.length → Reps (k47.K w) k47.sz (b.take n) (nodesC (b.take n)) := by
    intro n
    induction n with
    | zero => intro _; exact Reps.none _ _
    | succ n ih =>
      intro hn
      have h1 : b.take (n + 1) = b.take n ++ [b[n]] := by rw [List.take_succ_eq_append_getElem (by omega)]
      rw [h1, nodesC_app]
      have := (ih (by omega)).snoc (k47_mk w b[n]) (by rfl)
      simpa [nodesC, nodeC] using this
  have := H b.length (Nat.le_refl _)
  rwa [List.take_length] at this
/-- A body in a row of its own. -/
def OwnBody (w : World) (lo : Nat) (v : Value) (b : List S47) : Prop := w.ownsRow lo 47 7 v b.length (nodesC b)
theorem OwnBody.C {w : World} {lo c n : Nat} {A : Option Addr} {b : List S47} (h : OwnBody w lo (.slice A n c) b) (hm : b.length ≤ 4000000) : n = b.length ∧ n ≤ c ∧ Kd.C k47 w A b.length b := by
  rcases h.2 with ⟨h1, h2⟩ | ⟨g, cap, cur, h1, _, h3, h4, h5, h6, h7⟩
  · have : b = [] := List.eq_nil_of_length_eq_zero h2
    subst this
    injection h1 with h1 h8 h9
    subst h1
    exact ⟨h8, by omega, by simp, by simp, fun h => absurd h (Nat.lt_irrefl _)⟩
  · injection h1 with h1 h8 h9
    subst h1
    refine ⟨h8, by omega, X.C_of_blk (e := 47) (cs := nodesC b) (rest := cur.toList.drop (b.length * 7)) ?_ (nodes_reps w b) (by omega)⟩
    rw [← h7, List.take_append_drop]
    simpa [Blk] using h3
def rowC (x : S42) (u : Value) : List Value := [.string x.f0, u]
def rowsC : List S42 → List Value → List Value
  | x :: L, u :: vs => rowC x u ++ rowsC L vs
  | _, _ => []
theorem rowsC_app : ∀ (L : List S42) (vs : List Value) (x : S42) (u : Value), L.length = vs.length → rowsC (L ++ [x]) (vs ++ [u]) = rowsC L vs ++ rowC x u
  | [], [], x, u, _ => by simp [rowsC]
  | y :: L, z :: vs, x, u, h => by
    simp only [List.cons_append, rowsC]
    rw [rowsC_app L vs x u (by simpa using h), List.append_assoc]
/-- Rules whose bodies lie each in a row of its own. -/
structure OwnRs (w : World) (lo hi : Nat) (v : Value) (L : List S42) (vs : List Value) : Prop where
  len : L.length = vs.length
  rows : w.ownsRow lo 42 2 v L.length (rowsC L vs)
  bodies : ∀ (j : Nat) x u, L[j]? = some x → vs[j]? = some u → OwnBody w lo u x.f1 ∧ ∀ q, u.ownBlock = some q → q < hi
theorem own_own {w : World} {b b' n n' sz sz' : Nat} {e e' : TypeId} {v v' : Value} {xs xs' : List Value} (h : w.ownsRow b e sz v n xs) (h' : w.ownsRow b' e' sz' v' n' xs') (hne : e ≠ e') {g : Nat} (hg : v.ownBlock = some g) : v'.ownBlock ≠ some g := by
  intro hg'
  rcases h.2 with ⟨rfl, _⟩ | ⟨q, cap, cur, rfl, _, hq, _⟩
  · simp [Value.ownBlock] at hg
  · rcases h'.2 with ⟨rfl, _⟩ | ⟨q', cap', cur', rfl, _, hq', _⟩
    · simp [Value.ownBlock] at hg'
    · simp only [Value.ownBlock, Option.some.injEq] at hg hg'
      subst hg
      subst hg'
      rw [hq] at hq'
      simp at hq'
      exact hne hq'.2
theorem OwnRs.kept {w w' : World} {lo hi : Nat} {v : Value} {L : List S42} {vs : List Value} (h : OwnRs w lo hi v L vs) {r : Option Nat} (g : w.grownBy w' r) (h1 : v.ownBlock = none ∨ v.ownBlock ≠ r) (h2 : ∀ u ∈ vs, u.ownBlock = none ∨ u.ownBlock ≠ r) : OwnRs w' lo hi v L vs :=
  ⟨h.len, World.ownsRow.kept h.rows g h1, fun j x u hx hu => ⟨World.ownsRow.kept (h.bodies j x u hx hu).1 g (h2 u (List.mem_of_getElem? hu)), (h.bodies j x u hx hu).2⟩⟩
theorem OwnRs.more {w w' : World} {lo hi : Nat} {v : Value} {L : List S42} {vs : List Value} (h : OwnRs w lo hi v L vs) (g : Below w.heap.size w w') : OwnRs w' lo hi v L vs :=
  h.kept (Go.X.grown_of_below g none) (by cases v.ownBlock <;> simp) (fun u _ => by cases u.ownBlock <;> simp)
theorem OwnRs.low {w : World} {lo hi hi' : Nat} {v : Value} {L : List S42} {vs : List Value} (h : OwnRs w lo hi v L vs) (hh : hi ≤ hi') : OwnRs w lo hi' v L vs :=
  ⟨h.len, h.rows, fun j x u hx hu => ⟨(h.bodies j x u hx hu).1, fun q hq => Nat.lt_of_lt_of_le ((h.bodies j x u hx hu).2 q hq) hh⟩⟩
theorem rowsC_reps {w : World} : ∀ {L : List S42} {vs : List Value}, L.length = vs.length → (∀ (j : Nat) x u, L[j]? = some x → vs[j]? = some u → ∃ A c, u = .slice A x.f1.length c ∧ x.f1.length ≤ c ∧ Kd.C k47 w A x.f1.length x.f1) → Reps (k42.K w) k42.sz L (rowsC L vs)
  | [], _, _, _ => by rw [rowsC]; exact Reps.none _ _; simp
  | x :: L, u :: vs, h, hb => by
    rw [rowsC]
    obtain ⟨A, c, rfl, hc, hC⟩ := hb 0 x u rfl rfl
    have ih := rowsC_reps (w := w) (L := L) (vs := vs) (by simpa using h) (fun j y z hy hz => hb (j + 1) y z (by simpa using hy) (by simpa using hz))
    have e2 : k42.sz = 2 := rfl
    rw [e2] at ih ⊢
    refine ⟨by rw [List.length_append, ih.1, List.length_cons]; simp [rowC]; omega, fun j p hp => ?_⟩
    match j, hp with
    | 0, hp =>
      obtain rfl : x = p := by simpa using hp
      exact k42_mk w x hc hC
    | j + 1, hp =>
      have := ih.2 j p (by simpa using hp)
      rw [show (j + 1) * 2 = 2 + j * 2 by omega, ← List.drop_drop]
      simpa [rowC] using this
theorem OwnRs.C {w : World} {lo hi c n : Nat} {A : Option Addr} {L : List S42} {vs : List Value} (h : OwnRs w lo hi (.slice A n c) L vs) (hm : L.length ≤ 4000000) (hb : ∀ x ∈ L, x.f1.length ≤ 4000000) : n = L.length ∧ n ≤ c ∧ Kd.C k42 w A L.length L := by
  have hr := rowsC_reps (w := w) h.len (fun j x u hx hu => by
    have h1 := (h.bodies j x u hx hu).1
    obtain ⟨A, c, rfl⟩ := Go.X.own_slice h1
    obtain ⟨_, h3, h4⟩ := h1.C (hb x (List.mem_of_getElem? hx))
    exact ⟨A, c, rfl, h3, h4⟩)
  rcases h.rows.2 with ⟨h1, h2⟩ | ⟨g, cap, cur, h1, _, h3, h4, h5, h6, h7⟩
  · have : L = [] := List.eq_nil_of_length_eq_zero h2
    subst this
    injection h1 with h1 h8 h9
    subst h1
    exact ⟨h8, by omega, by simp, by simp, fun h => absurd h (Nat.lt_irrefl _)⟩
  · injection h1 with h1 h8 h9
    subst h1
    refine ⟨h8, by omega, X.C_of_blk (e := 42) (cs := rowsC L vs) (rest := cur.toList.drop (L.length * 2)) ?_ hr (by omega)⟩
    rw [← h7, List.take_append_drop]
    simpa [Blk] using h3
/-- A node's name is written over where it lies, lent. -/
theorem Lent.name {w : World} {b i : Nat} {xs : List S47} {hold : List Value} (h : Lent k47 47 w b xs hold) (hi : i < xs.length) (s : ByteArray) : Lent k47 47 (w.setCell ⟨b, i * 7 + 6, none⟩ (.string s)) b (xs.set i ⟨xs[i].f0, xs[i].f1, xs[i].f2, s⟩) hold := by
  obtain ⟨cs, hr, hb⟩ := h.out
  have hl : cs.length = xs.length * 7 := hr.1
  refine ⟨cs.set (i * 7 + 6) (.string s), ⟨by rw [List.length_set, List.length_set]; exact hr.1, fun j p hp => ?_⟩, ?_⟩
  · show k47.K _ p (((cs.set (i * 7 + 6) (.string s)).drop (j * 7)).take 7)
    by_cases hj : j = i
    · subst hj
      rw [List.getElem?_set_self (by omega)] at hp
      obtain rfl := Option.some.inj hp
      have h1 := k47_open (hr.2 j xs[j] (List.getElem?_eq_getElem hi))
      have e : ((cs.set (j * 7 + 6) (.string s)).drop (j * 7)).take 7 = (((cs.drop (j * 7)).take 7).set 6 (.string s)) := by
        rw [List.drop_set, if_neg (by omega), List.take_set]
        congr 1
        omega
      rw [e, show (cs.drop (j * 7)).take 7 = _ from h1]
      exact k47_mk _ (⟨xs[j].f0, xs[j].f1, xs[j].f2, s⟩ : S47)
    · rw [List.getElem?_set_ne (Ne.symm hj)] at hp
      have h1 := k47_open (hr.2 j p hp)
      have hjl := (List.getElem?_eq_some_iff.1 hp).1
      have e : ((cs.set (i * 7 + 6) (.string s)).drop (j * 7)).take 7 = (cs.drop (j * 7)).take 7 := by
        rw [List.drop_set]
        split
        · rfl
        · rw [List.take_set, List.set_eq_of_length_le]
          rw [List.length_take]
          omega
      rw [e, show (cs.drop (j * 7)).take 7 = _ from h1]
      exact k47_mk _ p
  · have := hb.setCell (i * 7 + 6) (.string s)
    rwa [List.set_append_left _ _ (by omega)] at this
/-- The rules with the names of captures written over: all of the first r, and the first i nodes of the next. -/
def nmI (b : List S47) (i : Nat) : List S47 := (b.take i).map nameN ++ b.drop i
theorem nmI_length (b : List S47) (i : Nat) : (nmI b i).length = b.length := by simp [nmI]; omega
theorem nmI_all (b : List S47) (i : Nat) (h : b.length ≤ i) : nmI b i = b.map nameN := by simp [nmI, List.take_of_length_le h, List.drop_of_length_le h]
theorem nmI_zero (b : List S47) : nmI b 0 = b := by simp [nmI]
theorem nmI_get {b : List S47} {i : Nat} (h : i < b.length) : (nmI b i)[i]? = some b[i] := by
  rw [nmI, List.getElem?_append_right (by simp; omega), List.length_map, List.length_take, Nat.min_eq_left (by omega), Nat.sub_self, List.getElem?_drop, Nat.add_zero, List.getElem?_eq_getElem h]
theorem nmI_succ {b : List S47} {i : Nat} (h : i < b.length) : nmI b (i + 1) = (nmI b i).set i (nameN b[i]) := by
  unfold nmI
  rw [List.take_succ_eq_append_getElem h, List.map_append, List.set_append_right _ _ (by simp; omega)]
  have hl : ((b.take i).map nameN).length = i := by simp; omega
  rw [hl, Nat.sub_self, List.drop_eq_getElem_cons h, List.append_assoc]
  rfl
def rsI (rs : List S42) (r i : Nat) : List S42 := (rs.take r).map (fun x => ⟨x.f0, x.f1.map nameN⟩) ++ ((rs.drop r).take 1).map (fun x => ⟨x.f0, nmI x.f1 i⟩) ++ rs.drop (r + 1)
theorem rsI_length (rs : List S42) (r i : Nat) : (rsI rs r i).length = rs.length := by
  simp [rsI]; omega
theorem rsI_cr {rs : List S42} {r i j : Nat} (hj : j < rs.length) : cr (rsI rs r i) j = if j < r then ⟨(cr rs j).f0, (cr rs j).f1.map nameN⟩ else if j = r then ⟨(cr rs j).f0, nmI (cr rs j).f1 i⟩ else cr rs j := by
  have e : rs[j]? = some (cr rs j) := by rw [cr, List.getD_eq_getElem?_getD, List.getElem?_eq_getElem hj]; rfl
  rw [cr, List.getD_eq_getElem?_getD]
  split
  · rename_i h
    rw [rsI, List.append_assoc, List.getElem?_append_left (by simp; omega), List.getElem?_map, List.getElem?_take_of_lt h, e]; rfl
  · rename_i h
    split
    · rename_i h2
      subst h2
      rw [rsI, List.getElem?_append_left (by simp; omega), List.getElem?_append_right (by simp; omega)]
      simp [Nat.min_eq_left (Nat.le_of_lt hj), e]
    · rename_i h2
      rw [rsI, List.getElem?_append_right (by simp; omega)]
      have : (List.map (fun x => (⟨x.f0, x.f1.map nameN⟩ : S42)) (rs.take r) ++ List.map (fun x : S42 => (⟨x.f0, nmI x.f1 i⟩ : S42)) (List.take 1 (rs.drop r))).length = r + 1 := by simp; omega
      rw [this, List.getElem?_drop, show r + 1 + (j - (r + 1)) = j by omega, e]; rfl
theorem rsI_last (rs : List S42) (i : Nat) : rsI rs rs.length i = rsN rs := by simp [rsI, rsN]
theorem rsI_step (rs : List S42) (r i : Nat) (h : r < rs.length) (hi : (cr rs r).f1.length ≤ i) : rsI rs r i = rsI rs (r + 1) 0 := by
  apply List.ext_getElem?
  intro j
  by_cases hj : j < rs.length
  · have a1 : ∀ r i, (rsI rs r i)[j]? = some (cr (rsI rs r i) j) := fun r i => by
      rw [cr, List.getD_eq_getElem?_getD, List.getElem?_eq_getElem (by rw [rsI_length]; exact hj)]; rfl
    rw [a1, a1, rsI_cr hj, rsI_cr hj]
    by_cases h1 : j < r
    · rw [if_pos h1, if_pos (by omega)]
    · by_cases h2 : j = r
      · subst h2
        rw [if_neg h1, if_pos rfl, if_pos (by omega), nmI_all _ _ hi]
      · rw [if_neg h1, if_neg h2, if_neg (by omega)]
        by_cases h3 : j = r + 1
        · rw [if_pos h3, nmI_zero]
        · rw [if_neg h3]
  · rw [List.getElem?_eq_none (by rw [rsI_length]; omega), List.getElem?_eq_none (by rw [rsI_length]; omega)]
end Go.Proofs.YtmpkkphohilkoaaDoor.B
/- Regions of the law MatchUnseen, by their invariants (printed by wip/gen/genun.py). -/
namespace Go.Proofs.YtmpkkphohilkoaaDoor.B
open Go Go.RowKit Go.X Go.Ma Go.Proofs.YtmpkkphohilkoaaDoorW.PrintWords Go.Proofs.YtmpkkphohilkoaaDoor.F
structure U6 (wb : World) (Ar : Option Addr) (c : Nat) (start : Int) (rs : List S42) (inp : ByteArray) (bl : Nat) (X : Res × St) (b3 : Nat) (b : Bits) (f : Slots) (w : World) : Prop where
  bel : Below wb.heap.size wb w
  g2 : f 2 = .pointer (some ⟨b3, 0, none⟩)
  g1 : f 1 = .string inp
  g5 : f 5 = .pointer (some ⟨bl, 0, none⟩)
  p0 : b 0 = true → f 34 = .agg #[.slice Ar rs.length c, .int .i64 start]
  p1 : b 1 = true → ∃ br, f 35 = .agg #[.slice (some ⟨br, 0, none⟩) rs.length (rs.length + 1), .int .i64 start] ∧ (b 4 = false → Kd.C k42 w (some ⟨br, 0, none⟩) rs.length rs)
  p2 : b 2 = true → f 36 = .string inp
  p3 : b 3 = true → f 37 = .agg #[.int .i64 3000, .int .i64 50000]
  p4 : b 4 = true → ∃ A c', f 38 = ansV X A c' ∧ OwnF w wb.heap.size (.slice A (ansRes X).forest.length c') (ansRes X).forest
  p5 : b 5 = true → f 33 = f 38
  p6 : b 6 = true → f 39 = tup (f 38) 0
  p7 : b 7 = true → f 40 = tup (f 38) 1
  p8 : b 8 = true → f 41 = tup (f 38) 2
  p9 : b 9 = true → ∃ q cs, f 6 = .pointer (some ⟨q, 0, none⟩) ∧ wb.heap.size ≤ q ∧ Blk w q 31 cs ∧ cs.length = 4 ∧ (b 11 = true → .agg cs.toArray = tup (f 38) 0)
  p10 : b 10 = true → ∃ q cs, f 7 = .pointer (some ⟨q, 0, none⟩) ∧ wb.heap.size ≤ q ∧ Blk w q 32 cs ∧ cs.length = 2 ∧ (b 12 = true → .agg cs.toArray = tup (f 38) 1)
  p13 : b 13 = true → f 8 = tup (f 38) 2
theorem U6.below {wb : World} {Ar : Option Addr} {c : Nat} {start : Int} {rs : List S42} {inp : ByteArray} {bl : Nat} {X : Res × St} {b3 : Nat} {b : Bits} {f : Slots} {w w' : World} (h : U6 wb Ar c start rs inp bl X b3 b f w) (g : Below w.heap.size w w') : U6 wb Ar c start rs inp bl X b3 b f w' :=
  { h with
    bel := h.bel.trans (g.mono h.bel.size)
    p1 := fun hb => (h.p1 hb).imp fun _ ⟨e, k⟩ => ⟨e, fun hr => Kd.C_below (k hr) g⟩
    p4 := fun hb => (h.p4 hb).imp fun _ ⟨c', e, k⟩ => ⟨c', e, k.more (Go.X.grown_of_below g none)⟩
    p9 := fun hb => (h.p9 hb).imp fun _ ⟨cs, e, e1, k, e2⟩ => ⟨cs, e, e1, k.below g k.lt, e2⟩
    p10 := fun hb => (h.p10 hb).imp fun _ ⟨cs, e, e1, k, e2⟩ => ⟨cs, e, e1, k.below g k.lt, e2⟩ }
theorem U6.st31 {wb : World} {Ar : Option Addr} {c : Nat} {start : Int} {rs : List S42} {inp : ByteArray} {bl : Nat} {X : Res × St} {b3 : Nat} {b : Bits} {f : Slots} {w w' : World} {q : Nat} {cs : List Value} (h : U6 wb Ar c start rs inp bl X b3 b f w) (hrun : b 4 = true) (hq : f 6 = .pointer (some ⟨q, 0, none⟩)) (hbq : Blk w q 31 cs) (hle : wb.heap.size ≤ q) {cs' : List Value} (hl : cs'.length = 4) (hv : .agg cs'.toArray = tup (f 38) 0) (hb' : Blk w' q 31 cs') (g : w.grownBy w' (some q)) : U6 wb Ar c start rs inp bl X b3 (b.put 11) f w' :=
  { h with
    bel := Go.X.below_grown h.bel g (fun k e => by cases e; exact hle) (Nat.le_refl _)
    p1 := fun hb => (h.p1 hb).imp fun _ ⟨e, _⟩ => ⟨e, fun hr => no hr hrun⟩
    p4 := fun hb => (h.p4 hb).imp fun _ ⟨c', e, k⟩ => ⟨c', e, k.kept g hbq (by decide)⟩
    p9 := fun _ => ⟨q, cs', hq, hle, hb', hl, fun _ => hv⟩
    p10 := fun hb => (h.p10 hb).imp fun _ ⟨cs2, e, e1, k, e2⟩ => ⟨cs2, e, e1, k.grown g (by intro e'; injection e' with e'; exact k.ne hbq (by decide) e'), e2⟩ }
theorem U6.st32 {wb : World} {Ar : Option Addr} {c : Nat} {start : Int} {rs : List S42} {inp : ByteArray} {bl : Nat} {X : Res × St} {b3 : Nat} {b : Bits} {f : Slots} {w w' : World} {q : Nat} {cs : List Value} (h : U6 wb Ar c start rs inp bl X b3 b f w) (hrun : b 4 = true) (hq : f 7 = .pointer (some ⟨q, 0, none⟩)) (hbq : Blk w q 32 cs) (hle : wb.heap.size ≤ q) {cs' : List Value} (hl : cs'.length = 2) (hv : .agg cs'.toArray = tup (f 38) 1) (hb' : Blk w' q 32 cs') (g : w.grownBy w' (some q)) : U6 wb Ar c start rs inp bl X b3 (b.put 12) f w' :=
  { h with
    bel := Go.X.below_grown h.bel g (fun k e => by cases e; exact hle) (Nat.le_refl _)
    p1 := fun hb => (h.p1 hb).imp fun _ ⟨e, _⟩ => ⟨e, fun hr => no hr hrun⟩
    p4 := fun hb => (h.p4 hb).imp fun _ ⟨c', e, k⟩ => ⟨c', e, k.kept g hbq (by decide)⟩
    p10 := fun _ => ⟨q, cs', hq, hle, hb', hl, fun _ => hv⟩
    p9 := fun hb => (h.p9 hb).imp fun _ ⟨cs2, e, e1, k, e2⟩ => ⟨cs2, e, e1, k.grown g (by intro e'; injection e' with e'; exact k.ne hbq (by decide) e'), e2⟩ }
set_option maxRecDepth 100000 in
theorem U6.wp (w0 : World) (wb : World) (Ar : Option Addr) (c : Nat) (start : Int) (rs : List S42) (inp : ByteArray) (bl : Nat) (X : Res × St) (b3 : Nat) (hX : atAns rs start start inp 0 3000 50000 = X)
    (hr : Kd.C k42 w0 Ar rs.length rs) (bw : Below w0.heap.size w0 wb) (mr : rs.length ≤ 1048576) (mb : ∀ x ∈ rs, x.f1.length ≤ 1048576) (hb : ∀ x ∈ rs, x.f1.length ≤ 140737488355328 ∧ x.f0.size ≤ 140737488355328)
    (x3 : Blk wb b3 24 [.slice Ar rs.length c, .int .i64 start]) (xl : Blk wb bl 26 [.int .i64 3000, .int .i64 50000]) (a : Act) (Q : Exit → Act → World → Prop) (hz : a.tmps.size = 252)
    (s2 : Slots.of a 2 = .pointer (some ⟨b3, 0, none⟩)) (s1 : Slots.of a 1 = .string inp) (s5 : Slots.of a 5 = .pointer (some ⟨bl, 0, none⟩))
    (hQ : ∀ (f : Slots) (w' : World) (q1 q2 : Nat) (A : Option Addr) (c' : Nat), f 6 = .pointer (some ⟨q1, 0, none⟩) → f 7 = .pointer (some ⟨q2, 0, none⟩) → f 8 = .int .i64 (ansSt X).err → wb.heap.size ≤ q1 → wb.heap.size ≤ q2 → Below wb.heap.size wb w' → Blk w' q1 31 (oC X (.slice A (ansRes X).forest.length c')) → Blk w' q2 32 (uC X) → OwnF w' wb.heap.size (.slice A (ansRes X).forest.length c') (ansRes X).forest → Q .normal (Act.puts a f [34, 35, 36, 37, 38, 33, 39, 40, 41, 6, 7, 8]) w') :
    (Code.region 6 #[{ dst := some 34, op := Go.Op.load 24 (Go.Operand.tmp 2), type := 24, pos := "theorems.go:158", after := #[], guard := none }, { dst := some 35, op := Go.Op.call { callee := Go.Callee.value (Go.Operand.func 9), args := #[Go.Operand.tmp 34], argTypes := #[24] }, type := 24, pos := "theorems.go:158", after := #[{ on := 0, ground := Go.Ground.data }], guard := none }, { dst := some 36, op := Go.Op.move (Go.Operand.tmp 1), type := 9, pos := "theorems.go:158", after := #[], guard := none }, { dst := some 37, op := Go.Op.load 26 (Go.Operand.tmp 5), type := 26, pos := "theorems.go:158", after := #[], guard := none }, { dst := some 38, op := Go.Op.call { callee := Go.Callee.value (Go.Operand.func 8), args := #[Go.Operand.tmp 35, Go.Operand.tmp 36, Go.Operand.tmp 37], argTypes := #[24, 9, 26] }, type := 34, pos := "theorems.go:158", after := #[{ on := 1, ground := Go.Ground.data }, { on := 2, ground := Go.Ground.data }, { on := 3, ground := Go.Ground.data }, { on := 1, ground := Go.Ground.chain }], guard := none }, { dst := some 33, op := Go.Op.move (Go.Operand.tmp 38), type := 34, pos := "theorems.go:158", after := #[{ on := 4, ground := Go.Ground.data }], guard := none }, { dst := some 39, op := Go.Op.extract (Go.Operand.tmp 33) 0, type := 31, pos := "theorems.go:158", after := #[{ on := 5, ground := Go.Ground.data }], guard := none }, { dst := some 40, op := Go.Op.extract (Go.Operand.tmp 33) 1, type := 32, pos := "theorems.go:158", after := #[{ on := 5, ground := Go.Ground.data }, { on := 11, ground := Go.Ground.gcOnly Go.Departure.lateStores }], guard := none }, { dst := some 41, op := Go.Op.extract (Go.Operand.tmp 33) 2, type := 33, pos := "theorems.go:158", after := #[{ on := 5, ground := Go.Ground.data }, { on := 12, ground := Go.Ground.gcOnly Go.Departure.lateStores }], guard := none }, { dst := some 6, op := Go.Op.alloc 31, type := 0, pos := "theorems.go:158", after := #[], guard := none }, { dst := some 7, op := Go.Op.alloc 32, type := 0, pos := "theorems.go:158", after := #[], guard := none }, { dst := none, op := Go.Op.store 31 (Go.Operand.tmp 6) (Go.Operand.tmp 39), type := 0, pos := "theorems.go:158", after := #[{ on := 9, ground := Go.Ground.data }, { on := 6, ground := Go.Ground.data }, { on := 4, ground := Go.Ground.chain }, { on := 0, ground := Go.Ground.phase }, { on := 1, ground := Go.Ground.phase }, { on := 2, ground := Go.Ground.phase }, { on := 3, ground := Go.Ground.phase }, { on := 4, ground := Go.Ground.phase }, { on := 5, ground := Go.Ground.phase }, { on := 6, ground := Go.Ground.phase }, { on := 7, ground := Go.Ground.textOnly Go.Departure.lateStores }, { on := 8, ground := Go.Ground.textOnly Go.Departure.lateStores }, { on := 9, ground := Go.Ground.phase }, { on := 10, ground := Go.Ground.phase }], guard := none }, { dst := none, op := Go.Op.store 32 (Go.Operand.tmp 7) (Go.Operand.tmp 40), type := 0, pos := "theorems.go:158", after := #[{ on := 10, ground := Go.Ground.data }, { on := 7, ground := Go.Ground.data }, { on := 11, ground := Go.Ground.chain }, { on := 0, ground := Go.Ground.phase }, { on := 1, ground := Go.Ground.phase }, { on := 2, ground := Go.Ground.phase }, { on := 3, ground := Go.Ground.phase }, { on := 4, ground := Go.Ground.phase }, { on := 5, ground := Go.Ground.phase }, { on := 6, ground := Go.Ground.phase }, { on := 7, ground := Go.Ground.phase }, { on := 8, ground := Go.Ground.textOnly Go.Departure.lateStores }, { on := 9, ground := Go.Ground.phase }, { on := 10, ground := Go.Ground.phase }, { on := 11, ground := Go.Ground.phase }], guard := none }, { dst := some 8, op := Go.Op.assign (Go.Operand.tmp 41), type := 33, pos := "theorems.go:158", after := #[{ on := 8, ground := Go.Ground.data }, { on := 12, ground := Go.Ground.chain }, { on := 0, ground := Go.Ground.phase }, { on := 1, ground := Go.Ground.phase }, { on := 2, ground := Go.Ground.phase }, { on := 3, ground := Go.Ground.phase }, { on := 4, ground := Go.Ground.phase }, { on := 5, ground := Go.Ground.phase }, { on := 6, ground := Go.Ground.phase }, { on := 7, ground := Go.Ground.phase }, { on := 8, ground := Go.Ground.phase }, { on := 9, ground := Go.Ground.phase }, { on := 10, ground := Go.Ground.phase }, { on := 11, ground := Go.Ground.phase }, { on := 12, ground := Go.Ground.phase }], guard := none }] true).wp Tryd.prog Q a wb := by
  refine wp_region_slots (fun b f w => U6 wb Ar c start rs inp bl X b3 b f w) 14 [0, 1, 2, 3, 4, 5, 6, 7, 8, 9, 10, 11, 12, 13] [34, 35, 36, 37, 38, 33, 39, 40, 41, 6, 7, 8] 252 (by kernel_rfl) rfl rfl rfl (by kernel_rfl) (by kernel_rfl) hz (by kernel_rfl) ?_ ?_ ?_
  · exact { bel := Below.drew (Below.refl _ _), g2 := s2, g1 := s1, g5 := s5, p0 := nofun, p1 := nofun, p2 := nofun, p3 := nofun, p4 := nofun, p5 := nofun, p6 := nofun, p7 := nofun, p8 := nofun, p9 := nofun, p10 := nofun, p13 := nofun }
  · refine SSteps.cons (i := 0) (ds := []) (js := [1, 4, 5, 6, 7, 8, 11, 12, 13]) rfl (by kernel_rfl) (by kernel_rfl) (fun b f w hb0 hd hj h => ?_) ?_
    · exact Does.loadBlk (h.g2) (x3.below h.bel x3.lt) Tryd.underlying24 rfl (by kernel_rfl) { h with p0 := fun _ => rfl }
    refine SSteps.cons (i := 1) (ds := [0]) (js := [4, 5, 6, 7, 8, 11, 12, 13]) rfl (by kernel_rfl) (by kernel_rfl) (fun b f w hb0 hd hj h => ?_) ?_
    · have d0 : b 0 = true := hd 0 (by decide)
      have e0 := h.p0 d0
      refine Does.call (args := #[.agg #[.slice Ar rs.length c, .int .i64 start]]) (by simp [Slots.eval, e0]) rfl (by kernel_rfl) ?_
      refine (lendRun.calls Ar c start rs w (Kd.C_below hr (bw.trans (h.bel.mono bw.size))) mr mb).mono ?_
      rintro e w' ⟨br, rfl, hc, hbl⟩
      exact ⟨_, rfl, { (h.below hbl) with p1 := fun _ => ⟨br, rfl, fun _ => hc⟩ }⟩
    refine SSteps.cons (i := 2) (ds := []) (js := [4, 5, 6, 7, 8, 11, 12, 13]) rfl (by kernel_rfl) (by kernel_rfl) (fun b f w hb0 hd hj h => ?_) ?_
    · exact Does.move { h with p2 := fun _ => h.g1 }
    refine SSteps.cons (i := 3) (ds := []) (js := [4, 5, 6, 7, 8, 11, 12, 13]) rfl (by kernel_rfl) (by kernel_rfl) (fun b f w hb0 hd hj h => ?_) ?_
    · exact Does.loadBlk (h.g5) (xl.below h.bel xl.lt) Tryd.underlying26 rfl (by kernel_rfl) { h with p3 := fun _ => rfl }
    refine SSteps.cons (i := 4) (ds := [1, 2, 3, 0]) (js := [5, 6, 7, 8, 11, 12, 13]) rfl (by kernel_rfl) (by kernel_rfl) (fun b f w hb0 hd hj h => ?_) ?_
    · have d1 : b 1 = true := hd 1 (by decide); have d2 : b 2 = true := hd 2 (by decide); have d3 : b 3 = true := hd 3 (by decide)
      obtain ⟨br, e1, hc⟩ := h.p1 d1
      have q2 := h.p2 d2
      have q3 := h.p3 d3
      refine Does.call (args := #[.agg #[.slice (some ⟨br, 0, none⟩) rs.length (rs.length + 1), .int .i64 start], .string inp, .agg #[.int .i64 3000, .int .i64 50000]]) (by simp [Slots.eval, e1, q2, q3]) rfl (by kernel_rfl) ?_
      refine (mrun.calls (some ⟨br, 0, none⟩) (rs.length + 1) start rs inp 3000 50000 w (hc hb0) (by omega) hb).mono ?_
      rintro e w' hans
      rw [hX] at hans
      obtain ⟨A, c', rfl, hbl, hown⟩ := RunAns.any hans
      exact ⟨_, rfl, { (h.below hbl) with p1 := fun hx => ((h.below hbl).p1 hx).imp fun _ ⟨e, _⟩ => ⟨e, fun hr => by cases hr⟩, p4 := fun _ => ⟨A, c', rfl, hown.low h.bel.size⟩, p5 := (fun hx => no (hj 5 (by decide)) hx), p6 := (fun hx => no (hj 6 (by decide)) hx), p7 := (fun hx => no (hj 7 (by decide)) hx), p8 := (fun hx => no (hj 8 (by decide)) hx), p13 := (fun hx => no (hj 13 (by decide)) hx), p9 := fun hx => ((h.below hbl).p9 hx).imp fun _ ⟨cs, k1, k2, k3, k4, _⟩ => ⟨cs, k1, k2, k3, k4, (fun hx => no (hj 11 (by decide)) hx)⟩, p10 := fun hx => ((h.below hbl).p10 hx).imp fun _ ⟨cs, k1, k2, k3, k4, _⟩ => ⟨cs, k1, k2, k3, k4, (fun hx => no (hj 12 (by decide)) hx)⟩ }⟩
    refine SSteps.cons (i := 5) (ds := [4, 1, 2, 3, 0]) (js := [6, 7, 8, 11, 12, 13]) rfl (by kernel_rfl) (by kernel_rfl) (fun b f w hb0 hd hj h => ?_) ?_
    · exact Does.move { h with p5 := fun _ => rfl }
    refine SSteps.cons (i := 6) (ds := [5, 4, 1, 2, 3, 0]) (js := [11, 12, 13]) rfl (by kernel_rfl) (by kernel_rfl) (fun b f w hb0 hd hj h => ?_) ?_
    · have d4 : b 4 = true := hd 4 (by decide); have d5 : b 5 = true := hd 5 (by decide)
      obtain ⟨A, c', e1, _⟩ := h.p4 d4
      have e2 := (h.p5 d5).trans e1
      refine Does.ext e2 (by simp) ?_
      exact { h with p6 := fun _ => (congrArg (fun v => tup v 0) e1).symm }
    refine SSteps.cons (i := 7) (ds := [5, 4, 1, 2, 3, 0]) (js := [12, 13]) rfl (by kernel_rfl) (by kernel_rfl) (fun b f w hb0 hd hj h => ?_) ?_
    · have d4 : b 4 = true := hd 4 (by decide); have d5 : b 5 = true := hd 5 (by decide)
      obtain ⟨A, c', e1, _⟩ := h.p4 d4
      have e2 := (h.p5 d5).trans e1
      refine Does.ext e2 (by simp) ?_
      exact { h with p7 := fun _ => (congrArg (fun v => tup v 1) e1).symm }
    refine SSteps.cons (i := 8) (ds := [5, 4, 1, 2, 3, 0]) (js := [13]) rfl (by kernel_rfl) (by kernel_rfl) (fun b f w hb0 hd hj h => ?_) ?_
    · have d4 : b 4 = true := hd 4 (by decide); have d5 : b 5 = true := hd 5 (by decide)
      obtain ⟨A, c', e1, _⟩ := h.p4 d4
      have e2 := (h.p5 d5).trans e1
      refine Does.ext e2 (by simp) ?_
      exact { h with p8 := fun _ => (congrArg (fun v => tup v 2) e1).symm, p13 := (fun hx => no (hj 13 (by decide)) hx) }
    refine SSteps.cons (i := 9) (ds := []) (js := [11, 12, 13]) rfl (by kernel_rfl) (by kernel_rfl) (fun b f w hb0 hd hj h => ?_) ?_
    · refine Does.alloc (P := Tryd.prog) zero31 ?_
      intro w' hb' hbl
      exact { (h.below hbl) with p9 := fun _ => ⟨w.heap.size, _, rfl, h.bel.size, hb', rfl, (fun hx => no (hj 11 (by decide)) hx)⟩ }
    refine SSteps.cons (i := 10) (ds := []) (js := [11, 12, 13]) rfl (by kernel_rfl) (by kernel_rfl) (fun b f w hb0 hd hj h => ?_) ?_
    · refine Does.alloc (P := Tryd.prog) zero32 ?_
      intro w' hb' hbl
      exact { (h.below hbl) with p10 := fun _ => ⟨w.heap.size, _, rfl, h.bel.size, hb', rfl, (fun hx => no (hj 12 (by decide)) hx)⟩ }
    refine SSteps.cons (i := 11) (ds := [9, 6, 4, 0, 1, 2, 3, 5, 10]) (js := [12, 13]) rfl (by kernel_rfl) (by kernel_rfl) (fun b f w hb0 hd hj h => ?_) ?_
    · have d4 : b 4 = true := hd 4 (by decide); have d9 : b 9 = true := hd 9 (by decide); have d6 : b 6 = true := hd 6 (by decide)
      obtain ⟨A, c', e1, _⟩ := h.p4 d4
      obtain ⟨q, cs, e2, hle, hbq, hcl, _⟩ := h.p9 d9
      have e3 := h.p6 d6
      rw [e1] at e3
      refine Does.store e2 e3 hbq (by kernel_rfl) (by rw [hcl]; exact Nat.le_refl _) (by simp [tup, Value.cells, Value.oneCell']) ?_
      intro w' hb' g
      rw [splice_all _ _ (by rw [hcl]; rfl)] at hb'
      exact h.st31 d4 e2 hbq hle rfl (by rw [e1]; rfl) hb' g
    refine SSteps.cons (i := 12) (ds := [10, 7, 11, 0, 1, 2, 3, 4, 5, 6, 9]) (js := [13]) rfl (by kernel_rfl) (by kernel_rfl) (fun b f w hb0 hd hj h => ?_) ?_
    · have d4 : b 4 = true := hd 4 (by decide); have d10 : b 10 = true := hd 10 (by decide); have d7 : b 7 = true := hd 7 (by decide)
      obtain ⟨A, c', e1, _⟩ := h.p4 d4
      obtain ⟨q, cs, e2, hle, hbq, hcl, _⟩ := h.p10 d10
      have e3 := h.p7 d7
      rw [e1] at e3
      refine Does.store e2 e3 hbq (by kernel_rfl) (by rw [hcl]; exact Nat.le_refl _) (by simp [tup, Value.cells, Value.oneCell']) ?_
      intro w' hb' g
      rw [splice_all _ _ (by rw [hcl]; rfl)] at hb'
      exact h.st32 d4 e2 hbq hle rfl (by rw [e1]; rfl) hb' g
    refine SSteps.cons (i := 13) (ds := [8, 12, 0, 1, 2, 3, 4, 5, 6, 7, 9, 10, 11]) (js := []) rfl (by kernel_rfl) (by kernel_rfl) (fun b f w hb0 hd hj h => ?_) ?_
    · have d8 : b 8 = true := hd 8 (by decide)
      exact Does.assign { h with p13 := fun _ => h.p8 d8 }
    exact SSteps.nil
  · intro b f w' hall h _
    obtain ⟨A, c', e1, hown⟩ := h.p4 (hall 4 (by decide))
    have e4 := h.p13 (hall 13 (by decide))
    obtain ⟨q1, cs1, k1, l1, y1, m1, n1⟩ := h.p9 (hall 9 (by decide))
    obtain ⟨q2, cs2, k2, l2, y2, m2, n2⟩ := h.p10 (hall 10 (by decide))
    have e2 := n1 (hall 11 (by decide))
    have e3 := n2 (hall 12 (by decide))
    rw [e1] at e2 e3 e4
    have t1 : cs1 = oC X (.slice A (ansRes X).forest.length c') := by have := congrArg (fun v => match v with | Value.agg a => a.toList | _ => []) e2; simpa [tup] using this
    have t2 : cs2 = uC X := by have := congrArg (fun v => match v with | Value.agg a => a.toList | _ => []) e3; simpa [tup] using this
    exact hQ f w' q1 q2 A c' k1 k2 (by rw [e4]; rfl) l1 l2 h.bel (t1 ▸ y1) (t2 ▸ y2) hown
structure U19 (wb : World) (bb b2 : Nat) (vr vb : Value) (ar : Addr) (n c r : Nat) (nm : ByteArray) (lo k : Nat) (start : Int) (xs : List Value) (b : Bits) (f : Slots) (w : World) : Prop where
  bel : b 11 = false → Below wb.heap.size wb w
  g10 : f 10 = .pointer (some ⟨bb, 0, none⟩)
  g2 : f 2 = .pointer (some ⟨b2, 0, none⟩)
  g11 : f 11 = .int .i64 (r : Nat)
  g12 : f 12 = vb
  p0 : b 0 = true → f 97 = .pointer (some ⟨bb, 0, none⟩)
  p1 : b 1 = true → f 98 = vr
  p2 : b 2 = true → f 99 = .pointer (some ⟨b2, 0, none⟩)
  p3 : b 3 = true → f 100 = .slice (some ar) n c
  p4 : b 4 = true → f 101 = .int .i64 (r : Nat)
  p5 : b 5 = true → f 102 = .pointer (some (ar.add (r * 2)))
  p6 : b 6 = true → f 103 = .pointer (some (ar.add (r * 2)))
  p7 : b 7 = true → f 104 = .string nm
  p8 : b 8 = true → f 105 = vb
  p9 : b 9 = true → f 106 = .agg #[.string nm, vb]
  p12 : b 12 = true → f 109 = .pointer (some ⟨bb, 0, none⟩)
  p10 : b 10 = true → ∃ q, f 107 = .slice (some ⟨q, 0, none⟩) 1 1 ∧ (b 11 = false → Blk w q 42 [.string nm, vb])
  p11 : b 11 = true → ∃ wa wx, Below wb.heap.size wb wa ∧ Appended wa wx 42 2 vr (f 108) k ∧ wx.ownsRow lo 42 2 (f 108) (k + 1) (xs ++ [.string nm, vb]) ∧ (b 13 = false → w = wx) ∧ (b 13 = true → ∃ wy, Blk wy bb 24 [f 108, .int .i64 start] ∧ wx.grownBy wy (some bb) ∧ w = wy)
theorem sz42i : (Tryd.prog.info? 42).map (fun i => (i.zero, i.size, i.bytes)) = some (some (.agg #[.string ⟨#[]⟩, .slice none 0 0]), 2, 40) := by kernel_rfl
set_option maxRecDepth 100000 in
theorem U19.wp (wb : World) (bb b2 : Nat) (vr vb : Value) (cr1A vbA : Option Addr) (vbn vbc : Nat) (ar : Addr) (n c r : Nat) (nm : ByteArray) (lo k : Nat) (start : Int) (xs : List Value) (cr1 : Nat) (vrF : vr = .slice cr1A k cr1) (vbF : vb = .slice vbA vbn vbc) (ho : wb.ownsRow lo 42 2 vr k xs) (hk : k ≤ 1048576) (hlo : lo ≤ wb.heap.size) (hrn : r < n)
    (xb : Blk wb bb 24 [vr, .int .i64 start]) (x2 : Blk wb b2 24 [.slice (some ar) n c, .int .i64 start]) (cn : wb.cell? (ar.add (r * 2)) = some (.string nm)) (a : Act) (Q : Exit → Act → World → Prop) (hz : a.tmps.size = 252)
    (s10 : Slots.of a 10 = .pointer (some ⟨bb, 0, none⟩)) (s2 : Slots.of a 2 = .pointer (some ⟨b2, 0, none⟩)) (s11 : Slots.of a 11 = .int .i64 (r : Nat)) (s12 : Slots.of a 12 = vb)
    (hQ : ∀ (f : Slots) (v' : Value) (wa wx wy : World), Below wb.heap.size wb wa → Appended wa wx 42 2 vr v' k → wx.ownsRow lo 42 2 v' (k + 1) (xs ++ [.string nm, vb]) → Blk wy bb 24 [v', .int .i64 start] → wx.grownBy wy (some bb) → Q .normal (Act.puts a f [97, 98, 99, 100, 101, 102, 103, 104, 105, 106, 107, 108, 109]) wy) :
    (Code.region 19 #[{ dst := some 97, op := Go.Op.fieldAddr 24 (Go.Operand.tmp 10) 0, type := 0, pos := "theorems.go:170", after := #[], guard := none }, { dst := some 98, op := Go.Op.load 22 (Go.Operand.tmp 97), type := 22, pos := "theorems.go:170", after := #[{ on := 0, ground := Go.Ground.data }], guard := none }, { dst := some 99, op := Go.Op.fieldAddr 24 (Go.Operand.tmp 2) 0, type := 0, pos := "theorems.go:170", after := #[], guard := none }, { dst := some 100, op := Go.Op.load 22 (Go.Operand.tmp 99), type := 22, pos := "theorems.go:170", after := #[{ on := 2, ground := Go.Ground.data }], guard := none }, { dst := some 101, op := Go.Op.move (Go.Operand.tmp 11), type := 3, pos := "theorems.go:170", after := #[], guard := none }, { dst := some 102, op := Go.Op.indexAddr 22 (Go.Operand.tmp 100) (Go.Operand.tmp 101), type := 0, pos := "theorems.go:170", after := #[{ on := 3, ground := Go.Ground.data }, { on := 4, ground := Go.Ground.data }], guard := none }, { dst := some 103, op := Go.Op.fieldAddr 42 (Go.Operand.tmp 102) 0, type := 0, pos := "theorems.go:170", after := #[{ on := 5, ground := Go.Ground.data }], guard := none }, { dst := some 104, op := Go.Op.load 9 (Go.Operand.tmp 103), type := 9, pos := "theorems.go:170", after := #[{ on := 6, ground := Go.Ground.data }], guard := none }, { dst := some 105, op := Go.Op.move (Go.Operand.tmp 12), type := 40, pos := "theorems.go:170", after := #[], guard := none }, { dst := some 106, op := Go.Op.build 42 #[(0, Go.Operand.tmp 104), (1, Go.Operand.tmp 105)], type := 42, pos := "theorems.go:170", after := #[{ on := 7, ground := Go.Ground.data }, { on := 8, ground := Go.Ground.data }], guard := none }, { dst := some 107, op := Go.Op.buildSlice 22 1 #[(0, Go.Operand.tmp 106)], type := 22, pos := "theorems.go:170", after := #[{ on := 9, ground := Go.Ground.data }], guard := none }, { dst := some 108, op := Go.Op.call { callee := Go.Callee.builtin Go.Builtin.append, args := #[Go.Operand.tmp 98, Go.Operand.tmp 107], argTypes := #[22, 22] }, type := 22, pos := "theorems.go:170", after := #[{ on := 1, ground := Go.Ground.data }, { on := 10, ground := Go.Ground.data }], guard := none }, { dst := some 109, op := Go.Op.fieldAddr 24 (Go.Operand.tmp 10) 0, type := 0, pos := "theorems.go:170", after := #[{ on := 0, ground := Go.Ground.phase }, { on := 1, ground := Go.Ground.phase }, { on := 2, ground := Go.Ground.phase }, { on := 3, ground := Go.Ground.phase }, { on := 4, ground := Go.Ground.phase }, { on := 5, ground := Go.Ground.phase }, { on := 6, ground := Go.Ground.phase }, { on := 7, ground := Go.Ground.phase }, { on := 8, ground := Go.Ground.phase }, { on := 9, ground := Go.Ground.phase }, { on := 10, ground := Go.Ground.phase }, { on := 11, ground := Go.Ground.phase }], guard := none }, { dst := none, op := Go.Op.store 22 (Go.Operand.tmp 109) (Go.Operand.tmp 108), type := 0, pos := "theorems.go:170", after := #[{ on := 12, ground := Go.Ground.data }, { on := 11, ground := Go.Ground.data }, { on := 11, ground := Go.Ground.chain }, { on := 0, ground := Go.Ground.phase }, { on := 1, ground := Go.Ground.phase }, { on := 2, ground := Go.Ground.phase }, { on := 3, ground := Go.Ground.phase }, { on := 4, ground := Go.Ground.phase }, { on := 5, ground := Go.Ground.phase }, { on := 6, ground := Go.Ground.phase }, { on := 7, ground := Go.Ground.phase }, { on := 8, ground := Go.Ground.phase }, { on := 9, ground := Go.Ground.phase }, { on := 10, ground := Go.Ground.phase }, { on := 11, ground := Go.Ground.phase }], guard := none }] true).wp Tryd.prog Q a wb := by
  have i0 : (0 : Int) ≤ (r : Int) := by omega
  have i1 : (r : Int) < (n : Int) := by omega
  refine wp_region_slots (fun b f w => U19 wb bb b2 vr vb ar n c r nm lo k start xs b f w) 14 [0, 1, 2, 3, 4, 5, 6, 7, 8, 9, 10, 11, 12, 13] [97, 98, 99, 100, 101, 102, 103, 104, 105, 106, 107, 108, 109] 252 (by kernel_rfl) rfl rfl rfl (by kernel_rfl) (by kernel_rfl) hz (by kernel_rfl) ?_ ?_ ?_
  · exact { bel := fun _ => Below.drew (Below.refl _ _), g10 := s10, g2 := s2, g11 := s11, g12 := s12, p0 := nofun, p1 := nofun, p2 := nofun, p3 := nofun, p4 := nofun, p5 := nofun, p6 := nofun, p7 := nofun, p8 := nofun, p9 := nofun, p10 := nofun, p11 := nofun, p12 := nofun }
  · refine SSteps.cons (i := 0) (ds := []) (js := [1, 11, 12, 13]) rfl (by kernel_rfl) (by kernel_rfl) (fun b f w hb0 hd hj h => ?_) ?_
    · exact Does.fieldAddr (v := .pointer (some ⟨bb, 0, none⟩)) (by rw [show f.eval (.tmp 10) = _ from h.g10]; go_simp) { h with p0 := fun _ => rfl }
    refine SSteps.cons (i := 1) (ds := [0]) (js := [11, 12, 13]) rfl (by kernel_rfl) (by kernel_rfl) (fun b f w hb0 hd hj h => ?_) ?_
    · have d0 : b 0 = true := hd 0 (by decide)
      have e0 := h.p0 d0
      have hc := below_at (h.bel (hj 11 (by decide))) (xb.cell 0)
      subst vrF
      exact Does.load (v := .slice cr1A k cr1) (by rw [show f.eval (.tmp 97) = _ from e0]; go_simp) { h with p1 := fun _ => rfl }
    refine SSteps.cons (i := 2) (ds := []) (js := [3, 5, 6, 7, 9, 10, 11, 12, 13]) rfl (by kernel_rfl) (by kernel_rfl) (fun b f w hb0 hd hj h => ?_) ?_
    · exact Does.fieldAddr (v := .pointer (some ⟨b2, 0, none⟩)) (by rw [show f.eval (.tmp 2) = _ from h.g2]; go_simp) { h with p2 := fun _ => rfl }
    refine SSteps.cons (i := 3) (ds := [2]) (js := [5, 6, 7, 9, 10, 11, 12, 13]) rfl (by kernel_rfl) (by kernel_rfl) (fun b f w hb0 hd hj h => ?_) ?_
    · have d2 : b 2 = true := hd 2 (by decide)
      have e0 := h.p2 d2
      have hc := below_at (h.bel (hj 11 (by decide))) (x2.cell 0)
      exact Does.load (v := .slice (some ar) n c) (by rw [show f.eval (.tmp 99) = _ from e0]; go_simp) { h with p3 := fun _ => rfl }
    refine SSteps.cons (i := 4) (ds := []) (js := [5, 6, 7, 9, 10, 11, 12, 13]) rfl (by kernel_rfl) (by kernel_rfl) (fun b f w hb0 hd hj h => ?_) ?_
    · exact Does.move { h with p4 := fun _ => h.g11 }
    refine SSteps.cons (i := 5) (ds := [3, 4, 2]) (js := [6, 7, 9, 10, 11, 12, 13]) rfl (by kernel_rfl) (by kernel_rfl) (fun b f w hb0 hd hj h => ?_) ?_
    · have d3 : b 3 = true := hd 3 (by decide); have d4 : b 4 = true := hd 4 (by decide)
      have e0 := h.p3 d3
      have e1 := h.p4 d4
      exact Does.indexAddr (v := .pointer (some (ar.add (r * 2)))) (by rw [show f.eval (.tmp 100) = _ from e0, show f.eval (.tmp 101) = _ from e1]; go_simp) { h with p5 := fun _ => rfl }
    refine SSteps.cons (i := 6) (ds := [5, 3, 4, 2]) (js := [7, 9, 10, 11, 12, 13]) rfl (by kernel_rfl) (by kernel_rfl) (fun b f w hb0 hd hj h => ?_) ?_
    · have d5 : b 5 = true := hd 5 (by decide)
      have e0 := h.p5 d5
      exact Does.fieldAddr (v := .pointer (some (ar.add (r * 2)))) (by rw [show f.eval (.tmp 102) = _ from e0]; go_simp) { h with p6 := fun _ => rfl }
    refine SSteps.cons (i := 7) (ds := [6, 5, 3, 4, 2]) (js := [9, 10, 11, 12, 13]) rfl (by kernel_rfl) (by kernel_rfl) (fun b f w hb0 hd hj h => ?_) ?_
    · have d6 : b 6 = true := hd 6 (by decide)
      have e0 := h.p6 d6
      have hc := below_at (h.bel (hj 11 (by decide))) cn
      exact Does.load (v := .string nm) (by rw [show f.eval (.tmp 103) = _ from e0]; go_simp) { h with p7 := fun _ => rfl }
    refine SSteps.cons (i := 8) (ds := []) (js := [9, 10, 11, 12, 13]) rfl (by kernel_rfl) (by kernel_rfl) (fun b f w hb0 hd hj h => ?_) ?_
    · exact Does.move { h with p8 := fun _ => h.g12 }
    refine SSteps.cons (i := 9) (ds := [7, 8, 6, 5, 3, 4, 2]) (js := [10, 11, 12, 13]) rfl (by kernel_rfl) (by kernel_rfl) (fun b f w hb0 hd hj h => ?_) ?_
    · have d7 : b 7 = true := hd 7 (by decide); have d8 : b 8 = true := hd 8 (by decide)
      have e0 := h.p7 d7
      have e1 := h.p8 d8
      exact Does.build (cells := #[.string nm, vb]) (by simp only [List.map_cons, List.map_nil]; rw [show f.eval (.tmp 104) = _ from e0, show f.eval (.tmp 105) = _ from e1]; subst vbF; kernel_rfl) { h with p9 := fun _ => rfl }
    refine SSteps.cons (i := 10) (ds := [9, 7, 8, 6, 5, 3, 4, 2]) (js := [11, 12, 13]) rfl (by kernel_rfl) (by kernel_rfl) (fun b f w hb0 hd hj h => ?_) ?_
    · have d9 : b 9 = true := hd 9 (by decide)
      have e0 := h.p9 d9
      refine Does.buildSlice1 (e := 42) (v := .agg #[.string nm, vb]) (cs := #[.string nm, vb]) e0 (by subst vbF; go_simp) ?_
      intro w' hb' hbl
      exact { h with bel := fun hx => (h.bel hx).trans (hbl.mono (h.bel hx).size), p10 := fun _ => ⟨_, rfl, fun _ => hb'⟩, p11 := fun hx => no (hj 11 (by decide)) hx }
    refine SSteps.cons (i := 11) (ds := [1, 10, 0, 9, 7, 8, 6, 5, 3, 4, 2]) (js := [12, 13]) rfl (by kernel_rfl) (by kernel_rfl) (fun b f w hb0 hd hj h => ?_) ?_
    · have d1 : b 1 = true := hd 1 (by decide); have d10 : b 10 = true := hd 10 (by decide)
      have e0 := h.p1 d1
      obtain ⟨q, e1, hq⟩ := h.p10 d10
      have hb11 := h.bel hb0
      refine Does.append (t := 22) (e := 42) lo (.agg #[.string ⟨#[]⟩, .slice none 0 0]) 2 40 Tryd.underlying22 sz42i rfl e0 (ho.kept (Go.X.grown_of_below hb11 none) (by cases hv : vr.ownBlock <;> simp)) e1 (hq hb0) rfl (by subst vbF; simp [Value.oneCell']) (by simp only [maxLen]; omega) (by omega) (Nat.le_trans hlo hb11.size) ?_
      intro v' w' hown hap
      exact { h with bel := fun hx => tf hx, p10 := fun _ => ⟨q, e1, fun hx => tf hx⟩, p11 := fun _ => ⟨w, w', hb11, hap, hown, fun _ => rfl, fun hx => no (hj 13 (by decide)) hx⟩, p12 := fun hx => no (hj 12 (by decide)) hx }
    refine SSteps.cons (i := 12) (ds := [0, 1, 2, 3, 4, 5, 6, 7, 8, 9, 10, 11]) (js := [13]) rfl (by kernel_rfl) (by kernel_rfl) (fun b f w hb0 hd hj h => ?_) ?_
    · exact Does.fieldAddr (v := .pointer (some ⟨bb, 0, none⟩)) (by rw [show f.eval (.tmp 10) = _ from h.g10]; go_simp) { h with p12 := fun _ => rfl }
    refine SSteps.cons (i := 13) (ds := [12, 11, 0, 1, 2, 3, 4, 5, 6, 7, 8, 9, 10]) (js := []) rfl (by kernel_rfl) (by kernel_rfl) (fun b f w hb0 hd hj h => ?_) ?_
    · have d12 : b 12 = true := hd 12 (by decide); have d11 : b 11 = true := hd 11 (by decide)
      have e0 := h.p12 d12
      obtain ⟨wa, wx, k1, k2, k3, k4, _⟩ := h.p11 d11
      obtain rfl := k4 hb0
      have hva : wa.ownsRow lo 42 2 vr k xs := ho.kept (Go.X.grown_of_below k1 none) (by cases hv : vr.ownBlock <;> simp)
      have hx1 := (xb.below k1 xb.lt).grown k2.grown (fun e => own_other hva (xb.below k1 xb.lt) (by decide) e.symm)
      obtain ⟨A9, c9, e9⟩ := Go.X.own_slice k3
      refine Does.store (v := f 108) e0 rfl hx1 (by rw [e9]; kernel_rfl) (by rw [e9]; simp [Value.cells]) (by rw [e9]; simp [Value.cells, Value.oneCell']) ?_
      intro w' hb' g
      have hs : splice [vr, .int .i64 start] 0 (f 108).cells.toList = [f 108, .int .i64 start] := by rw [e9]; simp [splice, Value.cells]
      rw [hs] at hb'
      exact { h with bel := fun hx => no hx d11, p10 := fun hx => (h.p10 hx).imp fun q ⟨z1, z2⟩ => ⟨z1, fun z3 => no z3 d11⟩, p11 := fun _ => ⟨wa, w, k1, k2, k3, fun hx => tf hx, fun _ => ⟨w', hb', g, rfl⟩⟩ }
    exact SSteps.nil
  · intro b f w' hall h _
    obtain ⟨wa, wx, h1, h2, h3, _, h4⟩ := h.p11 (hall 11 (by decide))
    obtain ⟨wy, h5, h6, rfl⟩ := h4 (hall 13 (by decide))
    exact hQ f (f 108) wa wx _ h1 h2 h3 h5 h6
structure U26 (wb : World) (q1 q2 g1 g2 : Nat) (n c1 c2 i : Nat) (x y : Cap) (b : Bits) (f : Slots) (w : World) : Prop where
  bel : Below wb.heap.size wb w
  g6 : f 6 = .pointer (some ⟨q1, 0, none⟩)
  g14 : f 14 = .pointer (some ⟨q2, 0, none⟩)
  g17 : f 17 = .int .i64 (i : Nat)
  p0 : b 0 = true → f 142 = .pointer (some ⟨q1, 3, none⟩)
  p1 : b 1 = true → f 143 = .slice (some ⟨g1, 0, none⟩) n c1
  p2 : b 2 = true → f 144 = .int .i64 (i : Nat)
  p3 : b 3 = true → f 145 = .pointer (some ⟨g1, i * 4, none⟩)
  p4 : b 4 = true → f 146 = .agg (capCells x).toArray
  p5 : b 5 = true → f 147 = .pointer (some ⟨q2, 3, none⟩)
  p6 : b 6 = true → f 148 = .slice (some ⟨g2, 0, none⟩) n c2
  p7 : b 7 = true → f 149 = .int .i64 (i : Nat)
  p8 : b 8 = true → f 150 = .pointer (some ⟨g2, i * 4, none⟩)
  p9 : b 9 = true → f 151 = .agg (capCells y).toArray
  p10 : b 10 = true → ∃ q cs, f 18 = .pointer (some ⟨q, 0, none⟩) ∧ wb.heap.size ≤ q ∧ Blk w q 49 cs ∧ cs.length = 4 ∧ (b 12 = true → cs = capCells x) ∧ (b 11 = true → f 19 ≠ .pointer (some ⟨q, 0, none⟩))
  p11 : b 11 = true → ∃ q cs, f 19 = .pointer (some ⟨q, 0, none⟩) ∧ wb.heap.size ≤ q ∧ Blk w q 49 cs ∧ cs.length = 4 ∧ (b 13 = true → cs = capCells y)
theorem U26.below {wb : World} {q1 q2 g1 g2 : Nat} {n c1 c2 i : Nat} {x y : Cap} {b : Bits} {f : Slots} {w w' : World} (h : U26 wb q1 q2 g1 g2 n c1 c2 i x y b f w) (g : Below w.heap.size w w') : U26 wb q1 q2 g1 g2 n c1 c2 i x y b f w' :=
  { h with
    bel := h.bel.trans (g.mono h.bel.size)
    p10 := fun hb => (h.p10 hb).imp fun _ ⟨cs, e, e1, k, e2⟩ => ⟨cs, e, e1, k.below g k.lt, e2⟩
    p11 := fun hb => (h.p11 hb).imp fun _ ⟨cs, e, e1, k, e2⟩ => ⟨cs, e, e1, k.below g k.lt, e2⟩ }
theorem zero49 : (Tryd.prog.info? 49).map (·.zero) = some (some (.agg #[.string ⟨#[]⟩, .int .i64 0, .int .i64 0, .int .i64 0])) := by kernel_rfl
theorem u49 : ∃ d, Tryd.prog.underlying 49 = some d ∧ d.isRow = true := ⟨_, Tryd.underlying49, rfl⟩
set_option maxRecDepth 100000 in
theorem U26.wp (wb : World) (q1 q2 g1 g2 : Nat) (n c1 c2 i : Nat) (x y : Cap) (hin : i < n) (A1 : wb.cell? ⟨q1, 3, none⟩ = some (.slice (some ⟨g1, 0, none⟩) n c1)) (A2 : wb.cell? ⟨q2, 3, none⟩ = some (.slice (some ⟨g2, 0, none⟩) n c2))
    (r1 : wb.rangeAt g1 (i * 4) (capCells x)) (r2 : wb.rangeAt g2 (i * 4) (capCells y)) (hg1 : g1 < wb.heap.size) (hg2 : g2 < wb.heap.size) (a : Act) (Q : Exit → Act → World → Prop) (hz : a.tmps.size = 252)
    (s6 : Slots.of a 6 = .pointer (some ⟨q1, 0, none⟩)) (s14 : Slots.of a 14 = .pointer (some ⟨q2, 0, none⟩)) (s17 : Slots.of a 17 = .int .i64 (i : Nat))
    (hQ : ∀ (f : Slots) (w' : World) (u1 u2 : Nat), f 18 = .pointer (some ⟨u1, 0, none⟩) → f 19 = .pointer (some ⟨u2, 0, none⟩) → Below wb.heap.size wb w' → Blk w' u1 49 (capCells x) → Blk w' u2 49 (capCells y) → Q .normal (Act.puts a f [142, 143, 144, 145, 146, 147, 148, 149, 150, 151, 18, 19]) w') :
    (Code.region 26 #[{ dst := some 142, op := Go.Op.fieldAddr 31 (Go.Operand.tmp 6) 3, type := 0, pos := "theorems.go:177", after := #[], guard := none }, { dst := some 143, op := Go.Op.load 29 (Go.Operand.tmp 142), type := 29, pos := "theorems.go:177", after := #[{ on := 0, ground := Go.Ground.data }], guard := none }, { dst := some 144, op := Go.Op.move (Go.Operand.tmp 17), type := 3, pos := "theorems.go:177", after := #[], guard := none }, { dst := some 145, op := Go.Op.indexAddr 29 (Go.Operand.tmp 143) (Go.Operand.tmp 144), type := 0, pos := "theorems.go:177", after := #[{ on := 1, ground := Go.Ground.data }, { on := 2, ground := Go.Ground.data }], guard := none }, { dst := some 146, op := Go.Op.load 49 (Go.Operand.tmp 145), type := 49, pos := "theorems.go:177", after := #[{ on := 3, ground := Go.Ground.data }], guard := none }, { dst := some 147, op := Go.Op.fieldAddr 31 (Go.Operand.tmp 14) 3, type := 0, pos := "theorems.go:177", after := #[{ on := 12, ground := Go.Ground.gcOnly Go.Departure.lateStores }], guard := none }, { dst := some 148, op := Go.Op.load 29 (Go.Operand.tmp 147), type := 29, pos := "theorems.go:177", after := #[{ on := 5, ground := Go.Ground.data }, { on := 12, ground := Go.Ground.gcOnly Go.Departure.lateStores }], guard := none }, { dst := some 149, op := Go.Op.move (Go.Operand.tmp 17), type := 3, pos := "theorems.go:177", after := #[{ on := 12, ground := Go.Ground.gcOnly Go.Departure.lateStores }], guard := none }, { dst := some 150, op := Go.Op.indexAddr 29 (Go.Operand.tmp 148) (Go.Operand.tmp 149), type := 0, pos := "theorems.go:177", after := #[{ on := 6, ground := Go.Ground.data }, { on := 7, ground := Go.Ground.data }, { on := 12, ground := Go.Ground.gcOnly Go.Departure.lateStores }], guard := none }, { dst := some 151, op := Go.Op.load 49 (Go.Operand.tmp 150), type := 49, pos := "theorems.go:177", after := #[{ on := 8, ground := Go.Ground.data }, { on := 12, ground := Go.Ground.gcOnly Go.Departure.lateStores }], guard := none }, { dst := some 18, op := Go.Op.alloc 49, type := 0, pos := "theorems.go:177", after := #[], guard := none }, { dst := some 19, op := Go.Op.alloc 49, type := 0, pos := "theorems.go:177", after := #[], guard := none }, { dst := none, op := Go.Op.store 49 (Go.Operand.tmp 18) (Go.Operand.tmp 146), type := 0, pos := "theorems.go:177", after := #[{ on := 10, ground := Go.Ground.data }, { on := 4, ground := Go.Ground.data }, { on := 0, ground := Go.Ground.phase }, { on := 1, ground := Go.Ground.phase }, { on := 2, ground := Go.Ground.phase }, { on := 3, ground := Go.Ground.phase }, { on := 4, ground := Go.Ground.phase }, { on := 5, ground := Go.Ground.textOnly Go.Departure.lateStores }, { on := 6, ground := Go.Ground.textOnly Go.Departure.lateStores }, { on := 7, ground := Go.Ground.textOnly Go.Departure.lateStores }, { on := 8, ground := Go.Ground.textOnly Go.Departure.lateStores }, { on := 9, ground := Go.Ground.textOnly Go.Departure.lateStores }, { on := 10, ground := Go.Ground.phase }, { on := 11, ground := Go.Ground.phase }], guard := none }, { dst := none, op := Go.Op.store 49 (Go.Operand.tmp 19) (Go.Operand.tmp 151), type := 0, pos := "theorems.go:177", after := #[{ on := 11, ground := Go.Ground.data }, { on := 9, ground := Go.Ground.data }, { on := 12, ground := Go.Ground.chain }, { on := 0, ground := Go.Ground.phase }, { on := 1, ground := Go.Ground.phase }, { on := 2, ground := Go.Ground.phase }, { on := 3, ground := Go.Ground.phase }, { on := 4, ground := Go.Ground.phase }, { on := 5, ground := Go.Ground.phase }, { on := 6, ground := Go.Ground.phase }, { on := 7, ground := Go.Ground.phase }, { on := 8, ground := Go.Ground.phase }, { on := 9, ground := Go.Ground.phase }, { on := 10, ground := Go.Ground.phase }, { on := 11, ground := Go.Ground.phase }, { on := 12, ground := Go.Ground.phase }], guard := none }] true).wp Tryd.prog Q a wb := by
  have i0 : (0 : Int) ≤ (i : Int) := by omega
  have i1 : (i : Int) < (n : Int) := by omega
  obtain ⟨d49, hu49, hd49⟩ := u49
  refine wp_region_slots (fun b f w => U26 wb q1 q2 g1 g2 n c1 c2 i x y b f w) 14 [0, 1, 2, 3, 4, 5, 6, 7, 8, 9, 10, 11, 12, 13] [142, 143, 144, 145, 146, 147, 148, 149, 150, 151, 18, 19] 252 (by kernel_rfl) rfl rfl rfl (by kernel_rfl) (by kernel_rfl) hz (by kernel_rfl) ?_ ?_ ?_
  · exact { bel := Below.drew (Below.refl _ _), g6 := s6, g14 := s14, g17 := s17, p0 := nofun, p1 := nofun, p2 := nofun, p3 := nofun, p4 := nofun, p5 := nofun, p6 := nofun, p7 := nofun, p8 := nofun, p9 := nofun, p10 := nofun, p11 := nofun }
  · refine SSteps.cons (i := 0) (ds := []) (js := [1, 3, 4, 12, 13]) rfl (by kernel_rfl) (by kernel_rfl) (fun b f w hb0 hd hj h => ?_) ?_
    · exact Does.fieldAddr (v := .pointer (some ⟨q1, 3, none⟩)) (by rw [show f.eval (.tmp 6) = _ from h.g6]; go_simp) { h with p0 := fun _ => rfl }
    refine SSteps.cons (i := 1) (ds := [0]) (js := [3, 4, 12, 13]) rfl (by kernel_rfl) (by kernel_rfl) (fun b f w hb0 hd hj h => ?_) ?_
    · have d0 : b 0 = true := hd 0 (by decide)
      have e0 := h.p0 d0
      have hc := below_at h.bel A1
      exact Does.load (v := .slice (some ⟨g1, 0, none⟩) n c1) (by rw [show f.eval (.tmp 142) = _ from e0]; go_simp) { h with p1 := fun _ => rfl }
    refine SSteps.cons (i := 2) (ds := []) (js := [3, 4, 12, 13]) rfl (by kernel_rfl) (by kernel_rfl) (fun b f w hb0 hd hj h => ?_) ?_
    · exact Does.move { h with p2 := fun _ => h.g17 }
    refine SSteps.cons (i := 3) (ds := [1, 2, 0]) (js := [4, 12, 13]) rfl (by kernel_rfl) (by kernel_rfl) (fun b f w hb0 hd hj h => ?_) ?_
    · have d1 : b 1 = true := hd 1 (by decide); have d2 : b 2 = true := hd 2 (by decide)
      have e0 := h.p1 d1
      have e1 := h.p2 d2
      exact Does.indexAddr (v := .pointer (some ⟨g1, i * 4, none⟩)) (by rw [show f.eval (.tmp 143) = _ from e0, show f.eval (.tmp 144) = _ from e1]; go_simp) { h with p3 := fun _ => rfl }
    refine SSteps.cons (i := 4) (ds := [3, 1, 2, 0]) (js := [12, 13]) rfl (by kernel_rfl) (by kernel_rfl) (fun b f w hb0 hd hj h => ?_) ?_
    · have d3 : b 3 = true := hd 3 (by decide)
      have e0 := h.p3 d3
      refine Does.load (v := .agg (capCells x).toArray) ?_ { h with p4 := fun _ => rfl }
      rw [show f.eval (.tmp 145) = _ from e0]
      exact run_loadAt_mid w g1 (i * 4) 49 (capCells x) d49 (fun j v hj => below_cell h.bel hg1 (r1 j v hj)) hu49 hd49 (by kernel_rfl)
    refine SSteps.cons (i := 5) (ds := []) (js := [6, 8, 9, 13]) rfl (by kernel_rfl) (by kernel_rfl) (fun b f w hb0 hd hj h => ?_) ?_
    · exact Does.fieldAddr (v := .pointer (some ⟨q2, 3, none⟩)) (by rw [show f.eval (.tmp 14) = _ from h.g14]; go_simp) { h with p5 := fun _ => rfl }
    refine SSteps.cons (i := 6) (ds := [5]) (js := [8, 9, 13]) rfl (by kernel_rfl) (by kernel_rfl) (fun b f w hb0 hd hj h => ?_) ?_
    · have d5 : b 5 = true := hd 5 (by decide)
      have e0 := h.p5 d5
      have hc := below_at h.bel A2
      exact Does.load (v := .slice (some ⟨g2, 0, none⟩) n c2) (by rw [show f.eval (.tmp 147) = _ from e0]; go_simp) { h with p6 := fun _ => rfl }
    refine SSteps.cons (i := 7) (ds := []) (js := [8, 9, 13]) rfl (by kernel_rfl) (by kernel_rfl) (fun b f w hb0 hd hj h => ?_) ?_
    · exact Does.move { h with p7 := fun _ => h.g17 }
    refine SSteps.cons (i := 8) (ds := [6, 7, 5]) (js := [9, 13]) rfl (by kernel_rfl) (by kernel_rfl) (fun b f w hb0 hd hj h => ?_) ?_
    · have d6 : b 6 = true := hd 6 (by decide); have d7 : b 7 = true := hd 7 (by decide)
      have e0 := h.p6 d6
      have e1 := h.p7 d7
      exact Does.indexAddr (v := .pointer (some ⟨g2, i * 4, none⟩)) (by rw [show f.eval (.tmp 148) = _ from e0, show f.eval (.tmp 149) = _ from e1]; go_simp) { h with p8 := fun _ => rfl }
    refine SSteps.cons (i := 9) (ds := [8, 6, 7, 5]) (js := [13]) rfl (by kernel_rfl) (by kernel_rfl) (fun b f w hb0 hd hj h => ?_) ?_
    · have d8 : b 8 = true := hd 8 (by decide)
      have e0 := h.p8 d8
      refine Does.load (v := .agg (capCells y).toArray) ?_ { h with p9 := fun _ => rfl }
      rw [show f.eval (.tmp 150) = _ from e0]
      exact run_loadAt_mid w g2 (i * 4) 49 (capCells y) d49 (fun j v hj => below_cell h.bel hg2 (r2 j v hj)) hu49 hd49 (by kernel_rfl)
    refine SSteps.cons (i := 10) (ds := []) (js := [12, 13]) rfl (by kernel_rfl) (by kernel_rfl) (fun b f w hb0 hd hj h => ?_) ?_
    · refine Does.alloc (P := Tryd.prog) zero49 ?_
      intro w' hb' hbl
      exact { (h.below hbl) with p10 := fun _ => ⟨w.heap.size, _, rfl, h.bel.size, hb', rfl, fun hx => no (hj 12 (by decide)) hx, fun hx e => by obtain ⟨q, cs, e1, _, k, _⟩ := h.p11 hx; have e2 := e1.symm.trans e; simp at e2; have := k.lt; omega⟩ }
    refine SSteps.cons (i := 11) (ds := []) (js := [12, 13]) rfl (by kernel_rfl) (by kernel_rfl) (fun b f w hb0 hd hj h => ?_) ?_
    · refine Does.alloc (P := Tryd.prog) zero49 ?_
      intro w' hb' hbl
      exact { (h.below hbl) with p10 := fun hx => by obtain ⟨q, cs, e1, e2, k, e3, e4, _⟩ := h.p10 hx; exact ⟨q, cs, e1, e2, k.below hbl k.lt, e3, e4, fun _ e => by have e5 : Value.pointer (some ⟨w.heap.size, 0, none⟩) = Value.pointer (some ⟨q, 0, none⟩) := e; simp at e5; have := k.lt; omega⟩, p11 := fun _ => ⟨w.heap.size, _, rfl, h.bel.size, hb', rfl, fun hx => no (hj 13 (by decide)) hx⟩ }
    refine SSteps.cons (i := 12) (ds := [10, 4, 0, 1, 2, 3, 11]) (js := [13]) rfl (by kernel_rfl) (by kernel_rfl) (fun b f w hb0 hd hj h => ?_) ?_
    · have d10 : b 10 = true := hd 10 (by decide); have d4 : b 4 = true := hd 4 (by decide)
      obtain ⟨q, cs, e2, hle, hbq, hcl, _, hne⟩ := h.p10 d10
      have e3 := h.p4 d4
      refine Does.store e2 e3 hbq (by kernel_rfl) (by rw [hcl]; exact Nat.le_refl _) (by simp [capCells, Value.cells, Value.oneCell']) ?_
      intro w' hb' g
      rw [splice_all _ _ (by rw [hcl]; rfl)] at hb'
      exact { h with bel := Go.X.below_grown h.bel g (fun k e => by cases e; exact hle) (Nat.le_refl _), p10 := fun _ => ⟨q, capCells x, e2, hle, hb', rfl, fun _ => rfl, hne⟩, p11 := fun hx => by obtain ⟨z, zs, z1, z2, z3, z4, z5⟩ := h.p11 hx; exact ⟨z, zs, z1, z2, z3.grown g (by intro e; injection e with e; subst e; exact hne hx z1), z4, z5⟩ }
    refine SSteps.cons (i := 13) (ds := [11, 9, 12, 0, 1, 2, 3, 4, 5, 6, 7, 8, 10]) (js := []) rfl (by kernel_rfl) (by kernel_rfl) (fun b f w hb0 hd hj h => ?_) ?_
    · have d11 : b 11 = true := hd 11 (by decide); have d9 : b 9 = true := hd 9 (by decide)
      obtain ⟨q, cs, e2, hle, hbq, hcl, _⟩ := h.p11 d11
      have e3 := h.p9 d9
      refine Does.store e2 e3 hbq (by kernel_rfl) (by rw [hcl]; exact Nat.le_refl _) (by simp [capCells, Value.cells, Value.oneCell']) ?_
      intro w' hb' g
      rw [splice_all _ _ (by rw [hcl]; rfl)] at hb'
      exact { h with bel := Go.X.below_grown h.bel g (fun k e => by cases e; exact hle) (Nat.le_refl _), p11 := fun _ => ⟨q, capCells y, e2, hle, hb', rfl, fun _ => rfl⟩, p10 := fun hx => by obtain ⟨z, zs, z1, z2, z3, z4, z5, z6⟩ := h.p10 hx; exact ⟨z, zs, z1, z2, z3.grown g (by intro e; injection e with e; subst e; exact z6 d11 e2), z4, z5, z6⟩ }
    exact SSteps.nil
  · intro b f w' hall h _
    obtain ⟨u1, cs1, k1, _, y1, _, n1, _⟩ := h.p10 (hall 10 (by decide))
    obtain ⟨u2, cs2, k2, _, y2, _, n2⟩ := h.p11 (hall 11 (by decide))
    have := n1 (hall 12 (by decide))
    subst this
    have := n2 (hall 13 (by decide))
    subst this
    exact hQ f w' u1 u2 k1 k2 h.bel y1 y2
end Go.Proofs.YtmpkkphohilkoaaDoor.B
/- MatchUnseen: how far its loops have come. -/
namespace Go.Proofs.YtmpkkphohilkoaaDoor.B
open Go Go.RowKit Go.X Go.Ma Go.Proofs.YtmpkkphohilkoaaDoorW.PrintWords Go.Proofs.YtmpkkphohilkoaaDoor.F Go.Proofs.YtmpkkphohilkoaaDoor.Nm
theorem rowsTo_same {a b : List S42} {P : Nat → Nat} : ∀ n, (∀ j, j < n → ruleAt (cr a j) (P j) = ruleAt (cr b j) (P j)) → rowsTo a P n = rowsTo b P n
  | 0, _ => rfl
  | n + 1, h => by rw [rowsTo, rowsTo, rowsTo_same n (fun j hj => h j (by omega)), h n (by omega)]
theorem but_then {S : Nat → Prop} {w w1 w2 : World} (h : But S w w1) (g : Below w1.heap.size w1 w2) : But S w w2 :=
  h.grown (Go.X.grown_of_below g none) (fun _ e => nomatch e)
structure UL (wu wr : World) (lo2 br bb : Nat) (P : Nat → Nat) (rs : List S42) (start : Int) (r i hr : Nat) (vr : Value) (vs : List Value) : Prop where
  but : But (fun k => k = bb ∨ ∃ j, j < rs.length ∧ k = P j) wu wr
  core : CoreAt wr lo2 br (rsI rs r i) P
  low : ∀ j, j < rs.length → P j < wu.heap.size
  brl : br < wu.heap.size
  bbl : bb < wu.heap.size
  hi : wu.heap.size ≤ hr ∧ hr ≤ wr.heap.size
  box : Blk wr bb 24 [vr, .int .i64 start]
  rows : OwnRs wr wu.heap.size hr vr ((rsB rs).take r) vs
theorem OwnRs.ge {w : World} {lo hi : Nat} {v : Value} {L : List S42} {vs : List Value} (h : OwnRs w lo hi v L vs) {u : Value} (hu : u ∈ vs) {q : Nat} (hq : u.ownBlock = some q) : lo ≤ q ∧ q < hi := by
  obtain ⟨j, hj, rfl⟩ := List.getElem_of_mem hu
  have h1 := h.bodies j (L[j]'(by rw [h.len]; exact hj)) vs[j] (List.getElem?_eq_getElem _) (List.getElem?_eq_getElem hj)
  exact ⟨(World.ownsRow.lt h1.1 q hq).1, h1.2 q hq⟩
theorem UL.more {wu wr w' : World} {lo2 br bb : Nat} {P : Nat → Nat} {rs : List S42} {start : Int} {r i hr : Nat} {vr : Value} {vs : List Value} (h : UL wu wr lo2 br bb P rs start r i hr vr vs) (g : Below wr.heap.size wr w') : UL wu w' lo2 br bb P rs start r i hr vr vs :=
  ⟨but_then h.but g, h.core.below g, h.low, h.brl, h.bbl, ⟨h.hi.1, Nat.le_trans h.hi.2 g.size⟩, h.box.below g h.box.lt, h.rows.more g⟩
/-- A write into a row that was made since keeps the two grammars, but for that row. -/
theorem UL.wrote {wu wr w' : World} {lo2 br bb g : Nat} {P : Nat → Nat} {rs : List S42} {start : Int} {r i hr : Nat} {vr : Value} {vs : List Value} (h : UL wu wr lo2 br bb P rs start r i hr vr vs) (hg : wr.grownBy w' (some g)) (h1 : hr ≤ g) (h2 : vr.ownBlock ≠ some g) : UL wu w' lo2 br bb P rs start r i hr vr vs := by
  have hlo : wu.heap.size ≤ g := Nat.le_trans h.hi.1 h1
  refine ⟨h.but.grown hg (fun k e => by injection e with e; subst e; exact .inr hlo), ⟨h.core.rows.grown hg (by intro e; injection e with e; have := h.brl; omega), fun j hj => ?_⟩, h.low, h.brl, h.bbl, ⟨h.hi.1, Nat.le_trans h.hi.2 hg.size⟩, h.box.grown hg (by intro e; injection e with e; have := h.bbl; omega), h.rows.kept hg (.inr h2) (fun u hu => .inr fun e => by have := h.rows.ge hu e; omega)⟩
  obtain ⟨a1, a2, a3⟩ := h.core.rules j hj
  have hjl : j < rs.length := by rwa [rsI_length] at hj
  refine ⟨a1, Lent.flat (fun _ _ _ _ hk => hk) a2 (hg.block _ a2.lt (by intro e; injection e with e; have := h.low j hjl; omega)), a3⟩
/-- The same but for what the names say. -/
theorem coreAt_eq {w : World} {base br : Nat} {a b : List S42} {P : Nat → Nat} (h : CoreAt w base br a P) (e : a = b) : CoreAt w base br b P := e ▸ h
theorem rsI_noname {rs : List S42} {r i : Nat} (hr : r < rs.length) (hi : i < (cr rs r).f1.length) (h8 : (cr rs r).f1[i].f0 ≠ 8) : rsI rs r i = rsI rs r (i + 1) := by
  apply List.ext_getElem?
  intro j
  by_cases hj : j < rs.length
  · have a1 : ∀ r i, (rsI rs r i)[j]? = some (cr (rsI rs r i) j) := fun r i => by
      rw [cr, List.getD_eq_getElem?_getD, List.getElem?_eq_getElem (by rw [rsI_length]; exact hj)]; rfl
    rw [a1, a1, rsI_cr hj, rsI_cr hj]
    by_cases h2 : j = r
    · subst h2
      rw [if_neg (Nat.lt_irrefl _), if_pos rfl, if_neg (Nat.lt_irrefl _), if_pos rfl, nmI_succ hi]
      have : nameN (cr rs j).f1[i] = (cr rs j).f1[i] := if_neg h8
      rw [this]
      congr 2
      apply List.ext_getElem?
      intro k
      by_cases hk : k = i
      · subst hk
        rw [List.getElem?_set_self (by rw [nmI_length]; exact hi), nmI_get hi]
      · rw [List.getElem?_set_ne (Ne.symm hk)]
    · rw [if_neg h2, if_neg h2]
  · rw [List.getElem?_eq_none (by rw [rsI_length]; omega), List.getElem?_eq_none (by rw [rsI_length]; omega)]
theorem UL.pass {wu wr : World} {lo2 br bb : Nat} {P : Nat → Nat} {rs : List S42} {start : Int} {r i hr : Nat} {vr : Value} {vs : List Value} (h : UL wu wr lo2 br bb P rs start r i hr vr vs) (hr' : r < rs.length) (hi : i < (cr rs r).f1.length) (h8 : (cr rs r).f1[i].f0 ≠ 8) : UL wu wr lo2 br bb P rs start r (i + 1) hr vr vs :=
  ⟨h.but, coreAt_eq h.core (rsI_noname hr' hi h8), h.low, h.brl, h.bbl, h.hi, h.box, h.rows⟩
/-- A capture's name is written over. -/
theorem UL.name {wu wr : World} {lo2 br bb : Nat} {P : Nat → Nat} {rs : List S42} {start : Int} {r i hr : Nat} {vr : Value} {vs : List Value} (h : UL wu wr lo2 br bb P rs start r i hr vr vs) (hr' : r < rs.length) (hi : i < (cr rs r).f1.length) (h8 : (cr rs r).f1[i].f0 = 8) :
    UL wu (wr.setCell ⟨P r, i * 7 + 6, none⟩ (.string otherS)) lo2 br bb P rs start r (i + 1) hr vr vs := by
  have hlow := h.low r hr'
  have hcr : cr (rsI rs r i) r = ⟨(cr rs r).f0, nmI (cr rs r).f1 i⟩ := by rw [rsI_cr hr', if_neg (Nat.lt_irrefl _), if_pos rfl]
  have hcr' : cr (rsI rs r (i + 1)) r = ⟨(cr rs r).f0, nmI (cr rs r).f1 (i + 1)⟩ := by rw [rsI_cr hr', if_neg (Nat.lt_irrefl _), if_pos rfl]
  have hoth : ∀ j, j < rs.length → j ≠ r → cr (rsI rs r (i + 1)) j = cr (rsI rs r i) j := fun j hj hne => by
    rw [rsI_cr hj, rsI_cr hj]
    by_cases hjr : j < r
    · rw [if_pos hjr, if_pos hjr]
    · rw [if_neg hjr, if_neg hjr, if_neg hne, if_neg hne]
  have hg := grown_setCell wr ⟨P r, i * 7 + 6, none⟩ (.string otherS)
  obtain ⟨a1, a2, a3⟩ := h.core.rules r (by rw [rsI_length]; exact hr')
  have hneq : P r ≠ br := Lent.ne a2 h.core.rows (by decide)
  have hneb : P r ≠ bb := Lent.ne a2 h.box (by decide)
  have hPinj : ∀ j, j < rs.length → j ≠ r → P j ≠ P r := fun j hj hne e => by
    rcases Nat.lt_or_gt_of_ne hne with h1 | h1
    · have := a3 j h1; omega
    · have := (h.core.rules j (by rw [rsI_length]; exact hj)).2.2 r h1; omega
  refine ⟨h.but.grown hg (fun k e => by injection e with e; exact .inl (.inr ⟨r, hr', e.symm⟩)), ⟨?_, fun j hj => ?_⟩, h.low, h.brl, h.bbl, ⟨h.hi.1, by simpa [World.setCell] using h.hi.2⟩, h.box.grown hg (by intro e; injection e with e; exact hneb e.symm), h.rows.kept hg (.inr fun e => ?_) (fun u hu => .inr fun e => ?_)⟩
  · have e : rowsTo (rsI rs r (i + 1)) P (rsI rs r (i + 1)).length = rowsTo (rsI rs r i) P (rsI rs r i).length := by
      rw [rsI_length, rsI_length]
      refine rowsTo_same _ fun j hj => ?_
      by_cases hjr : j = r
      · subst hjr
        rw [hcr, hcr']
        simp only [ruleAt, nmI_length]
      · rw [hoth j hj hjr]
    rw [e]
    exact h.core.rows.grown hg (by intro e; injection e with e; exact hneq e.symm)
  · have hjl : j < rs.length := by rwa [rsI_length] at hj
    obtain ⟨b1, b2, b3⟩ := h.core.rules j (by rw [rsI_length]; exact hjl)
    refine ⟨b1, ?_, b3⟩
    by_cases hjr : j = r
    · subst hjr
      rw [hcr] at b2
      rw [hcr']
      have hl : i < (nmI (cr rs j).f1 i).length := by rw [nmI_length]; exact hi
      have := Lent.name b2 hl otherS
      have hget : (nmI (cr rs j).f1 i)[i] = (cr rs j).f1[i] := by
        have := nmI_get hi
        rw [List.getElem?_eq_getElem hl] at this
        exact Option.some.inj this
      rw [hget] at this
      show Lent k47 47 _ (P j) (nmI (cr rs j).f1 (i + 1)) holdC
      rw [nmI_succ hi]
      have hn : nameN (cr rs j).f1[i] = ⟨(cr rs j).f1[i].f0, (cr rs j).f1[i].f1, (cr rs j).f1[i].f2, otherS⟩ := if_pos h8
      rw [hn]
      exact this
    · rw [hoth j hjl hjr]
      exact Lent.flat (fun _ _ _ _ hk => hk) b2 (hg.block _ b2.lt (by intro e; injection e with e; exact hPinj j hjl hjr e))
  · have := (World.ownsRow.lt h.rows.rows _ e).1; simp only at this; omega
  · have := (h.rows.ge hu e).1; simp only at this; omega
theorem filter_step {b : List S47} {i : Nat} (hi : i < b.length) : (b.take (i + 1)).filter isB = (b.take i).filter isB ++ if b[i].f0 = 8 then [] else [b[i]] := by
  rw [List.take_succ_eq_append_getElem hi, List.filter_append]
  congr 1
  by_cases h : b[i].f0 = 8
  · rw [if_pos h]; simp [isB, h]
  · rw [if_neg h]; simp [isB, h]
theorem rsB_take {rs : List S42} {r : Nat} (hr : r < rs.length) : (rsB rs).take (r + 1) = (rsB rs).take r ++ [⟨(cr rs r).f0, (cr rs r).f1.filter isB⟩] := by
  rw [List.take_succ_eq_append_getElem (by simp [rsB]; exact hr)]
  congr 2
  simp [rsB, cr, List.getD_eq_getElem?_getD, hr]
/-- A rule more. -/
theorem UL.next {wu wr wa wx wy : World} {lo2 br bb : Nat} {P : Nat → Nat} {rs : List S42} {start : Int} {r i hr : Nat} {vr v' vb : Value} {vs : List Value} (h : UL wu wr lo2 br bb P rs start r i hr vr vs) (hr' : r < rs.length) (hi : (cr rs r).f1.length ≤ i)
    (hb : OwnBody wr hr vb ((cr rs r).f1.filter isB)) (h1 : Below wr.heap.size wr wa) (h2 : Appended wa wx 42 2 vr v' ((rsB rs).take r).length) (h3 : wx.ownsRow wu.heap.size 42 2 v' (((rsB rs).take r).length + 1) (rowsC ((rsB rs).take r) vs ++ [.string (cr rs r).f0, vb])) (h4 : Blk wy bb 24 [v', .int .i64 start]) (h5 : wx.grownBy wy (some bb)) :
    UL wu wy lo2 br bb P rs start (r + 1) 0 wy.heap.size v' (vs ++ [vb]) := by
  have ha := h.more h1
  have hba : OwnBody wa hr vb ((cr rs r).f1.filter isB) := World.ownsRow.kept hb (Go.X.grown_of_below h1 none) (by cases vb.ownBlock <;> simp)
  have hvs : ∀ u ∈ vs, u.ownBlock = none ∨ u.ownBlock ≠ vr.ownBlock := fun u hu => by
    obtain ⟨j, hj, rfl⟩ := List.getElem_of_mem hu
    have hq := ha.rows.bodies j (((rsB rs).take r)[j]'(by rw [ha.rows.len]; exact hj)) vs[j] (List.getElem?_eq_getElem _) (List.getElem?_eq_getElem hj)
    cases hv : vs[j].ownBlock with
    | none => exact .inl rfl
    | some q => exact .inr fun e => own_own hq.1 ha.rows.rows (by decide) hv e.symm
  have hvb : vb.ownBlock = none ∨ vb.ownBlock ≠ vr.ownBlock := by
    cases hv : vb.ownBlock with
    | none => exact .inl rfl
    | some q => exact .inr fun e => own_own hba ha.rows.rows (by decide) hv e.symm
  have hge : ∀ k, vr.ownBlock = some k → wu.heap.size ≤ k := fun k hk => (World.ownsRow.lt ha.rows.rows k hk).1
  have hne : ∀ k, k < wu.heap.size → some k ≠ vr.ownBlock := fun k hk e => by have := hge k e.symm; omega
  have hrx := rsI_step rs r i hr' hi
  have hlen : ((rsB rs).take r).length = r := by simp [rsB]; omega
  have hbut : But (fun k => k = bb ∨ ∃ j, j < rs.length ∧ k = P j) wu wx := ha.but.grown h2.grown (fun k e => .inr (hge k e))
  have hb2 : But (fun k => k = bb ∨ ∃ j, j < rs.length ∧ k = P j) wu wy := hbut.grown h5 (fun k e => by injection e with e; exact .inl (.inl e.symm))
  have hbbr : br ≠ bb := ha.core.rows.ne ha.box (by decide)
  refine ⟨hb2, ?_, h.low, h.brl, h.bbl, ⟨Nat.le_trans (Nat.le_trans h.hi.1 h.hi.2) (Nat.le_trans h1.size (Nat.le_trans h2.grown.size h5.size)), Nat.le_refl _⟩, h4, ⟨?_, ?_, ?_⟩⟩
  · rw [← hrx]
    refine ⟨(ha.core.rows.grown h2.grown (hne br h.brl)).grown h5 (by intro e; injection e with e; exact hbbr e), fun j hj => ?_⟩
    obtain ⟨b1, b2, b3⟩ := ha.core.rules j hj
    have hjl : j < rs.length := by rwa [rsI_length] at hj
    have hb2' := Lent.flat (fun _ _ _ _ hk => hk) b2 (h2.grown.block _ b2.lt (hne _ (h.low j hjl)))
    exact ⟨b1, Lent.flat (fun _ _ _ _ hk => hk) hb2' (h5.block _ hb2'.lt (by intro e; injection e with e; exact Lent.ne b2 ha.box (by decide) e)), b3⟩
  · rw [rsB_take hr', List.length_append, List.length_append, ha.rows.len]; rfl
  · rw [rsB_take hr', rowsC_app _ _ _ _ ha.rows.len, List.length_append]
    exact World.ownsRow.kept h3 h5 (.inr fun e => by have := (World.ownsRow.lt h3 bb e).1; have := h.bbl; omega)
  · intro j x u hx hu
    have keep : ∀ (lo : Nat) (u : Value) (b : List S47), OwnBody wa lo u b → wu.heap.size ≤ lo → (u.ownBlock = none ∨ u.ownBlock ≠ vr.ownBlock) → OwnBody wy lo u b := fun lo u b ho hl hn => by
      have o1 := World.ownsRow.kept ho h2.grown hn
      exact World.ownsRow.kept o1 h5 (by
        cases hv : u.ownBlock with
        | none => exact .inl rfl
        | some q => exact .inr fun e => by injection e with e; have := (World.ownsRow.lt ho q hv).1; have := h.bbl; omega)
    have hlt : ∀ {lo : Nat} {u : Value} {b : List S47} {q : Nat}, OwnBody wy lo u b → u.ownBlock = some q → q < wy.heap.size := fun ho hq => (World.ownsRow.lt ho _ hq).2
    rw [rsB_take hr'] at hx
    by_cases hj : j < ((rsB rs).take r).length
    · rw [List.getElem?_append_left hj] at hx
      rw [List.getElem?_append_left (by rw [← ha.rows.len]; exact hj)] at hu
      have hq := ha.rows.bodies j x u hx hu
      have := keep _ _ _ hq.1 (Nat.le_refl _) (hvs u (List.mem_of_getElem? hu))
      exact ⟨this, fun q hq' => hlt this hq'⟩
    · have hjr : j = ((rsB rs).take r).length := by
        have := (List.getElem?_eq_some_iff.1 hx).1
        rw [List.length_append, List.length_singleton] at this
        omega
      rw [hjr, List.getElem?_append_right (Nat.le_refl _), Nat.sub_self] at hx
      rw [hjr, ha.rows.len, List.getElem?_append_right (Nat.le_refl _), Nat.sub_self] at hu
      obtain rfl := Option.some.inj hx
      obtain rfl := Option.some.inj hu
      have hk := keep _ _ _ hba h.hi.1 hvb
      have : OwnBody wy wu.heap.size vb ((cr rs r).f1.filter isB) := ownsRow_low hk h.hi.1
      exact ⟨this, fun q hq' => hlt this hq'⟩
end Go.Proofs.YtmpkkphohilkoaaDoor.B
/- MatchUnseen: what is kept while its loops run. -/
namespace Go.Proofs.YtmpkkphohilkoaaDoor.B
open Go Go.RowKit Go.X Go.Ma Go.Proofs.YtmpkkphohilkoaaDoorW.PrintWords Go.Proofs.YtmpkkphohilkoaaDoor.F
/-- The law's box. -/
structure L1 (w wk : World) (Ar : Option Addr) (n c : Nat) (start : Int) : Prop where
  bel : Below w.heap.size w wk
  b0 : Blk wk w.heap.size 24 [.slice Ar n c, .int .i64 start]
theorem L1.start (w : World) (Ar : Option Addr) (n c : Nat) (start : Int) : L1 w (w.alloc (.cells #[.slice Ar n c, .int .i64 start] 24)) Ar n c start :=
  ⟨(Below.refl _ w).alloc (Nat.le_refl _) _, Blk.alloc w _ _⟩
theorem L1.below {w wk w' : World} {Ar : Option Addr} {n c : Nat} {start : Int} (h : L1 w wk Ar n c start) (hb : Below wk.heap.size wk w') : L1 w w' Ar n c start :=
  ⟨h.bel.trans (hb.mono h.bel.size), h.b0.below hb h.b0.lt⟩
/-- What is kept while the loops run. -/
structure UB (w wu : World) (b2 fb q1 q2 nb bb : Nat) (Ar : Option Addr) (n c : Nat) (start : Int) (br : Nat) (A1 : Option Addr) (c1 : Nat) (X : Res × St) (lo : Nat) (P : Nat → Nat) : Prop where
  bel : Below w.heap.size w wu
  x2 : Blk wu b2 24 [.slice Ar n c, .int .i64 start]
  x5 : Blk wu fb 26 [.int .i64 3000, .int .i64 50000]
  o1 : Blk wu q1 31 (oC X (.slice A1 (ansRes X).forest.length c1))
  o2 : Blk wu q2 32 (uC X)
  ow : OwnF wu lo (.slice A1 (ansRes X).forest.length c1) (ansRes X).forest
  xn : Blk wu nb 24 [.slice (some ⟨br, 0, none⟩) n (n + 1), .int .i64 start]
  xne : b2 ≠ bb ∧ nb ≠ bb
  xb : ∃ cs, Blk wu bb 24 cs
  bodies : ∀ j, j < n → w.heap.size ≤ P j ∧ ∃ cs, Blk wu (P j) 47 cs
  bbl : w.heap.size ≤ bb
theorem rsI_zero (rs : List S42) : rsI rs 0 0 = rs := by
  cases rs with
  | nil => rfl
  | cons x r => simp [rsI, nmI_zero]
theorem UL.low' {wu wr : World} {lo2 br bb : Nat} {P : Nat → Nat} {rs : List S42} {start : Int} {r i hr : Nat} {vr : Value} {vs : List Value} (h : UL wu wr lo2 br bb P rs start r i hr vr vs) : UL wu wr lo2 br bb P rs start r i wr.heap.size vr vs :=
  ⟨h.but, h.core, h.low, h.brl, h.bbl, ⟨Nat.le_trans h.hi.1 h.hi.2, Nat.le_refl _⟩, h.box, h.rows.low h.hi.2⟩
theorem OwnF.but {w w' : World} {lo : Nat} {v : Value} {F : List Cap} {T : Nat → Prop} (h : OwnF w lo v F) (g : But T w w') (hT : ∀ k, T k → ∃ t cs, Blk w k t cs ∧ t ≠ 49) : OwnF w' lo v F := by
  rcases h.2 with h1 | ⟨q, cap, cur, e, h2, h3, h4⟩
  · exact ⟨h.1, .inl h1⟩
  · refine ⟨h.1, .inr ⟨q, cap, cur, e, h2, ?_, h4⟩⟩
    rw [g.block q (Array.getElem?_eq_some_iff.1 h3).1 (fun hq => ?_)]
    · exact h3
    · obtain ⟨t, cs, hb, ht⟩ := hT q hq
      have : w.heap[q]? = _ := hb
      rw [h3] at this
      simp at this
      exact ht this.2.symm
theorem UB.later {w wu wr : World} {b2 fb q1 q2 nb bb : Nat} {Ar : Option Addr} {c : Nat} {start : Int} {br : Nat} {A1 : Option Addr} {c1 : Nat} {X : Res × St} {lo : Nat} {P : Nat → Nat} {rs : List S42} {lo2 r i hr : Nat} {vr : Value} {vs : List Value}
    (h : UB w wu b2 fb q1 q2 nb bb Ar rs.length c start br A1 c1 X lo P) (u : UL wu wr lo2 br bb P rs start r i hr vr vs) : UB w wr b2 fb q1 q2 nb bb Ar rs.length c start br A1 c1 X lo P := by
  obtain ⟨cs0, hbb⟩ := h.xb
  have g := u.but
  have hno : ∀ {k t cs}, Blk wu k t cs → t ≠ 47 → (t ≠ 24 ∨ k ≠ bb) → ¬ (k = bb ∨ ∃ j, j < rs.length ∧ k = P j) := fun hk h47 h24 hs => by
    rcases hs with rfl | ⟨j, hj, rfl⟩
    · rcases h24 with h24 | h24
      · exact hk.ne hbb h24 rfl
      · exact h24 rfl
    · obtain ⟨_, cs, hp⟩ := h.bodies j hj
      exact hk.ne hp h47 rfl
  have hbel : Below w.heap.size wu wr := g.below (fun k hk => by
    rcases hk with rfl | ⟨j, hj, rfl⟩
    · exact h.bbl
    · exact (h.bodies j hj).1) h.bel.size
  refine ⟨h.bel.trans hbel, h.x2.but g (hno h.x2 (by decide) (.inr h.xne.1)), h.x5.but g (hno h.x5 (by decide) (.inl (by decide))), h.o1.but g (hno h.o1 (by decide) (.inl (by decide))), h.o2.but g (hno h.o2 (by decide) (.inl (by decide))), OwnF.but h.ow g (fun k hk => ?_), h.xn.but g (hno h.xn (by decide) (.inr h.xne.2)), h.xne, ⟨_, u.box⟩, fun j hj => ⟨(h.bodies j hj).1, ?_⟩, h.bbl⟩
  · rcases hk with rfl | ⟨j, hj, rfl⟩
    · exact ⟨24, cs0, hbb, by decide⟩
    · obtain ⟨_, cs, hp⟩ := h.bodies j hj
      exact ⟨47, cs, hp, by decide⟩
  · obtain ⟨_, hl, _⟩ := u.core.rules j (by rw [rsI_length]; exact hj)
    obtain ⟨cs, _, hb⟩ := hl.out
    exact ⟨_, hb⟩
theorem ub_start {w w5 : World} {fb q1 q2 br lo lo2 : Nat} {Ar : Option Addr} {c : Nat} {start : Int} {A1 : Option Addr} {c1 : Nat} {X : Res × St} {P : Nat → Nat} {rs : List S42}
    (hl : L1 w w5 Ar rs.length c start) (h5 : Blk w5 fb 26 [.int .i64 3000, .int .i64 50000]) (y1 : Blk w5 q1 31 (oC X (.slice A1 (ansRes X).forest.length c1))) (y2 : Blk w5 q2 32 (uC X)) (ow : OwnF w5 lo (.slice A1 (ansRes X).forest.length c1) (ansRes X).forest) (hc : CoreAt w5 lo2 br rs P) (hlo : w.heap.size ≤ lo2) :
    UB w ((w5.alloc (.cells #[.slice (some ⟨br, 0, none⟩) rs.length (rs.length + 1), .int .i64 start] 24)).alloc (.cells #[.slice none 0 0, .int .i64 start] 24)) w.heap.size fb q1 q2 w5.heap.size (w5.heap.size + 1) Ar rs.length c start br A1 c1 X lo P ∧
      UL ((w5.alloc (.cells #[.slice (some ⟨br, 0, none⟩) rs.length (rs.length + 1), .int .i64 start] 24)).alloc (.cells #[.slice none 0 0, .int .i64 start] 24)) ((w5.alloc (.cells #[.slice (some ⟨br, 0, none⟩) rs.length (rs.length + 1), .int .i64 start] 24)).alloc (.cells #[.slice none 0 0, .int .i64 start] 24)) lo2 br (w5.heap.size + 1) P rs start 0 0 ((w5.alloc (.cells #[.slice (some ⟨br, 0, none⟩) rs.length (rs.length + 1), .int .i64 start] 24)).alloc (.cells #[.slice none 0 0, .int .i64 start] 24)).heap.size (.slice none 0 0) [] := by
  have a1 := Blk.alloc w5 #[.slice (some ⟨br, 0, none⟩) rs.length (rs.length + 1), .int .i64 start] 24
  have g1 : Below w5.heap.size w5 (w5.alloc (.cells #[.slice (some ⟨br, 0, none⟩) rs.length (rs.length + 1), .int .i64 start] 24)) := (Below.refl _ _).alloc (Nat.le_refl _) _
  generalize hw6 : w5.alloc (.cells #[.slice (some ⟨br, 0, none⟩) rs.length (rs.length + 1), .int .i64 start] 24) = w6 at *
  have hs6 : w6.heap.size = w5.heap.size + 1 := by rw [← hw6]; simp
  have a2 := Blk.alloc w6 #[.slice none 0 0, .int .i64 start] 24
  have g2 : Below w6.heap.size w6 (w6.alloc (.cells #[.slice none 0 0, .int .i64 start] 24)) := (Below.refl _ _).alloc (Nat.le_refl _) _
  generalize hw7 : w6.alloc (.cells #[.slice none 0 0, .int .i64 start] 24) = w7 at *
  have hs7 : w7.heap.size = w5.heap.size + 1 + 1 := by rw [← hw7]; simp [hs6]
  rw [hs6] at a2
  have g : Below w5.heap.size w5 w7 := g1.trans (g2.mono (by omega))
  have hl7 := hl.below g
  have hc7 := hc.below g
  have hsz := hl.bel.size
  have hPl : ∀ j, j < rs.length → P j < w5.heap.size := fun j hj => (hc.rules j hj).2.1.lt
  refine ⟨⟨hl7.bel, hl7.b0, h5.below g h5.lt, y1.below g y1.lt, y2.below g y2.lt, ow.more (Go.X.grown_of_below g none), a1.below g2 a1.lt, ⟨by omega, by omega⟩, ⟨_, a2⟩, fun j hj => ⟨Nat.le_trans hlo (hc.rules j hj).1, ?_⟩, by omega⟩, ⟨But.refl _ _, ?_, fun j hj => by have := hPl j hj; omega, by have := hc.rows.lt; omega, by omega, ⟨Nat.le_refl _, Nat.le_refl _⟩, a2, ?_⟩⟩
  · obtain ⟨_, hb, _⟩ := hc7.rules j hj
    obtain ⟨cs, _, hb⟩ := hb.out
    exact ⟨_, hb⟩
  · rw [rsI_zero]; exact hc7
  · refine ⟨by simp, ?_, fun j x u hx => by simp at hx⟩
    simpa [rowsC] using World.ownsRow_nil w7 w7.heap.size 42 2
theorem UL.spot {wu wr : World} {lo2 br bb : Nat} {P : Nat → Nat} {rs : List S42} {start : Int} {r i hr : Nat} {vr : Value} {vs : List Value} (h : UL wu wr lo2 br bb P rs start r i hr vr vs) (hr' : r < rs.length) (hi : i < (cr rs r).f1.length) :
    wr.cell? ⟨br, r * 2 + 1, none⟩ = some (.slice (some ⟨P r, 0, none⟩) (cr rs r).f1.length ((cr rs r).f1.length + 1)) ∧ (∃ v, wr.cell? ⟨P r, i * 7 + 6, none⟩ = some v) ∧ wr.frozen? ⟨P r, i * 7 + 6, none⟩ = false := by
  have hcr : cr (rsI rs r i) r = ⟨(cr rs r).f0, nmI (cr rs r).f1 i⟩ := by rw [rsI_cr hr', if_neg (Nat.lt_irrefl _), if_pos rfl]
  obtain ⟨_, hl, _⟩ := h.core.rules r (by rw [rsI_length]; exact hr')
  obtain ⟨cs, hcs, hb⟩ := hl.out
  have hlen : cs.length = (nmI (cr rs r).f1 i).length * 7 := by have := hcs.1; rw [hcr] at this; exact this
  rw [nmI_length] at hlen
  refine ⟨?_, ?_, hb.frozen _⟩
  · rw [h.core.rows.cell, rowsTo_get _ _ _ r 1 (by rw [rsI_length]; exact hr') (by omega), hcr]
    simp [ruleAt, nmI_length]
  · rw [hb.cell]
    exact ⟨_, List.getElem?_eq_getElem (by rw [List.length_append]; omega)⟩
/-- A row that a body grows in: the rest is kept. -/
theorem UL.grew {wu wi w' : World} {lo2 br bb : Nat} {P : Nat → Nat} {rs : List S42} {start : Int} {r i hr : Nat} {vr vb : Value} {vs : List Value} {b : List S47} {o : Obj} (h : UL wu wi lo2 br bb P rs start r i hr vr vs) (hb : OwnBody wi hr vb b) (hg : (wi.alloc o).grownBy w' vb.ownBlock) : UL wu w' lo2 br bb P rs start r i hr vr vs := by
  have h1 := h.more ((Below.refl _ _).alloc (Nat.le_refl _) o)
  have hb1 : OwnBody (wi.alloc o) hr vb b := World.ownsRow.kept hb (World.grownBy_alloc _ _ none) (by cases vb.ownBlock <;> simp)
  cases hv : vb.ownBlock with
  | none =>
    rw [hv] at hg
    exact h1.wrote (g := (wi.alloc o).heap.size) ⟨hg.os, hg.tape, hg.output, hg.size, fun i hi _ => hg.block i hi (by simp)⟩ h1.hi.2 (fun e => by have := (World.ownsRow.lt h1.rows.rows _ e).2; omega)
  | some g =>
    rw [hv] at hg
    exact h1.wrote hg (World.ownsRow.lt hb g hv).1 (own_own hb1 h1.rows.rows (by decide) hv)
theorem OwnBody.named {wu wi : World} {lo2 br bb : Nat} {P : Nat → Nat} {rs : List S42} {start : Int} {r i hr : Nat} {vr vb : Value} {vs : List Value} {b : List S47} (h : UL wu wi lo2 br bb P rs start r i hr vr vs) (hr' : r < rs.length) (hb : OwnBody wi hr vb b) (k : Nat) (v : Value) : OwnBody (wi.setCell ⟨P r, k, none⟩ v) hr vb b :=
  World.ownsRow.kept hb (grown_setCell wi ⟨P r, k, none⟩ v) (.inr fun e => by
    have h1 := (World.ownsRow.lt hb _ e).1
    have h2 := h.low r hr'
    have h3 := h.hi.1
    simp only at h1
    omega)
theorem OwnBody.snoc {w : World} {lo : Nat} {v : Value} {bs : List S47} {x : S47} (h : w.ownsRow lo 47 7 v (bs.length + 1) (nodesC bs ++ nodeC x)) : OwnBody w lo v (bs ++ [x]) := by
  unfold OwnBody
  rw [nodesC_app, List.length_append, show nodesC [x] = nodeC x by simp [nodesC]]
  exact h
end Go.Proofs.YtmpkkphohilkoaaDoor.B
/- MatchUnseen: what is kept after its loops. -/
namespace Go.Proofs.YtmpkkphohilkoaaDoor.B
open Go Go.RowKit Go.X Go.Ma Go.Proofs.YtmpkkphohilkoaaDoorW.PrintWords Go.Proofs.YtmpkkphohilkoaaDoor.F
theorem mrunN (Ar : Option Addr) (c : Nat) (start : Int) (rs : List S42) (n : Nat) (inp : ByteArray) (D S : Int) (w : World) (hn : rs.length = n) (hr : Kd.C k42 w Ar n rs) (hc : n ≤ c) (hb : ∀ x ∈ rs, x.f1.length ≤ 140737488355328 ∧ x.f0.size ≤ 140737488355328) :
    Calls Tryd.prog 8 #[.agg #[.slice Ar n c, .int .i64 start], .string inp, .agg #[.int .i64 D, .int .i64 S]] w (RunAns w (atAns rs start start inp 0 D S)) := by
  subst hn
  exact mrun.calls Ar c start rs inp D S w hr hc hb
structure UM (w wm : World) (fb q1 q2 bb : Nat) (A1 : Option Addr) (c1 : Nat) (X : Res × St) (lo : Nat) (A3 : Option Addr) (c3 : Nat) (L : List S42) (n : Nat) (start : Int) : Prop where
  bel : Below w.heap.size w wm
  x5 : Blk wm fb 26 [.int .i64 3000, .int .i64 50000]
  o1 : Blk wm q1 31 (oC X (.slice A1 (ansRes X).forest.length c1))
  o2 : Blk wm q2 32 (uC X)
  ow : OwnF wm lo (.slice A1 (ansRes X).forest.length c1) (ansRes X).forest
  xb : Blk wm bb 24 [.slice A3 n c3, .int .i64 start]
  cb : Kd.C k42 wm A3 n L
theorem UM.below {w wm w' : World} {fb q1 q2 bb : Nat} {A1 : Option Addr} {c1 : Nat} {X : Res × St} {lo : Nat} {A3 : Option Addr} {c3 : Nat} {L : List S42} {n : Nat} {start : Int} (h : UM w wm fb q1 q2 bb A1 c1 X lo A3 c3 L n start) (g : Below wm.heap.size wm w') : UM w w' fb q1 q2 bb A1 c1 X lo A3 c3 L n start :=
  ⟨h.bel.trans (g.mono h.bel.size), h.x5.below g h.x5.lt, h.o1.below g h.o1.lt, h.o2.below g h.o2.lt, h.ow.more (Go.X.grown_of_below g none), h.xb.below g h.xb.lt, Kd.C_below h.cb g⟩
theorem um_start {w wu wr : World} {b2 fb q1 q2 nb bb : Nat} {Ar : Option Addr} {c : Nat} {start : Int} {br : Nat} {A1 : Option Addr} {c1 : Nat} {X : Res × St} {lo : Nat} {P : Nat → Nat} {rs : List S42} {lo2 hr : Nat} {vr : Value} {vs : List Value}
    (h : UB w wr b2 fb q1 q2 nb bb Ar rs.length c start br A1 c1 X lo P) (u : UL wu wr lo2 br bb P rs start rs.length 0 hr vr vs) (hl : rs.length ≤ 1048576) (hb : ∀ x ∈ rs, x.f1.length ≤ 1048576) :
    ∃ A3 c3, vr = .slice A3 rs.length c3 ∧ rs.length ≤ c3 ∧ UM w wr fb q1 q2 bb A1 c1 X lo A3 c3 (rsB rs) rs.length start ∧ Kd.C k42 wr (some ⟨br, 0, none⟩) rs.length (rsN rs) := by
  have hN : (rsN rs).length = rs.length := by simp [rsN]
  have hB : (rsB rs).length = rs.length := by simp [rsB]
  have hbN : ∀ x ∈ rsN rs, x.f1.length ≤ 1048576 := by
    intro x hx
    rw [rsN, List.mem_map] at hx
    obtain ⟨y, hy, rfl⟩ := hx
    simpa using hb y hy
  have hbB : ∀ x ∈ rsB rs, x.f1.length ≤ 1048576 := by
    intro x hx
    rw [rsB, List.mem_map] at hx
    obtain ⟨y, hy, rfl⟩ := hx
    exact Nat.le_trans (List.length_filter_le _ _) (hb y hy)
  have hr := u.rows
  rw [List.take_of_length_le (by omega)] at hr
  obtain ⟨A3, c3, rfl⟩ := Go.X.own_slice hr.rows
  rw [hB] at hr
  obtain ⟨_, h2, h3⟩ := hr.C (by omega) (fun x hx => Nat.le_trans (hbB x hx) (by omega))
  rw [hB] at h3
  have hc := u.core
  rw [rsI_last] at hc
  have hC := hc.C (by omega) hbN
  rw [hN] at hC
  have hxb := u.box
  rw [hB] at hxb
  refine ⟨A3, c3, by rw [hB], h2, ⟨h.bel, h.x5, h.o1, h.o2, h.ow, hxb, h3⟩, hC⟩
theorem sizesN {rs : List S42} (hb : ∀ x ∈ rs, x.f1.length ≤ 140737488355328 ∧ x.f0.size ≤ 140737488355328) : ∀ x ∈ rsN rs, x.f1.length ≤ 140737488355328 ∧ x.f0.size ≤ 140737488355328 := by
  intro x hx
  rw [rsN, List.mem_map] at hx
  obtain ⟨y, hy, rfl⟩ := hx
  simpa using hb y hy
theorem sizesB {rs : List S42} (hb : ∀ x ∈ rs, x.f1.length ≤ 140737488355328 ∧ x.f0.size ≤ 140737488355328) : ∀ x ∈ rsB rs, x.f1.length ≤ 140737488355328 ∧ x.f0.size ≤ 140737488355328 := by
  intro x hx
  rw [rsB, List.mem_map] at hx
  obtain ⟨y, hy, rfl⟩ := hx
  exact ⟨Nat.le_trans (List.length_filter_le _ _) (hb y hy).1, (hb y hy).2⟩
/-- A capture in a row of its own. -/
theorem forest_row {w : World} {lo c n i : Nat} {A : Option Addr} {F : List Cap} (h : OwnF w lo (.slice A n c) F) (hm : F.length ≤ 4000000) (hi : i < F.length) : ∃ g, A = some ⟨g, 0, none⟩ ∧ g < w.heap.size ∧ w.rangeAt g (i * 4) (capCells F[i]) := by
  obtain ⟨ad, eA, z0, z1, z2, z3⟩ := at_T49 (caps_C h hm) (i : Int) (by omega) (by simp; omega)
  have er : rd_T49 (F.map toS) (i : Int) = toS F[i] := rdT (by simp [hi])
  rw [er, Int.toNat_natCast] at z0 z1 z2 z3
  simp only [toS] at z0 z1 z2 z3
  rcases h.2 with ⟨h1, h2⟩ | ⟨g, cap, cur, h1, _, h3, _⟩
  · omega
  · injection h1 with h1
    have hg := (Array.getElem?_eq_some_iff.1 h3).1
    rw [h1] at eA
    obtain rfl := Option.some.inj eA
    refine ⟨g, h1, hg, fun j v hj => ?_⟩
    have e : (⟨g, 0, none⟩ : Addr).add (i * 4) = ⟨g, i * 4, none⟩ := by
      unfold Addr.add
      split
      · rename_i h; simp_all
      · simp
    rw [e] at z0 z1 z2 z3
    match j, hj with
    | 0, hj => obtain rfl := Option.some.inj hj; exact z0
    | 1, hj => obtain rfl := Option.some.inj hj; exact z1
    | 2, hj => obtain rfl := Option.some.inj hj; exact z2
    | 3, hj => obtain rfl := Option.some.inj hj; exact z3
theorem two_boxes (w : World) (a0 a1 a2 a3 b0 b1 : Value) (t t' : TypeId) : Below w.heap.size w ((w.alloc (.cells #[a0, a1, a2, a3] t)).alloc (.cells #[b0, b1] t')) ∧ Blk ((w.alloc (.cells #[a0, a1, a2, a3] t)).alloc (.cells #[b0, b1] t')) w.heap.size t [a0, a1, a2, a3] ∧ Blk ((w.alloc (.cells #[a0, a1, a2, a3] t)).alloc (.cells #[b0, b1] t')) (w.heap.size + 1) t' [b0, b1] := by
  have k1 := Blk.alloc w #[a0, a1, a2, a3] t
  have g1 : Below w.heap.size w (w.alloc (.cells #[a0, a1, a2, a3] t)) := (Below.refl _ _).alloc (Nat.le_refl _) _
  have hs : (w.alloc (.cells #[a0, a1, a2, a3] t)).heap.size = w.heap.size + 1 := by simp
  generalize w.alloc (.cells #[a0, a1, a2, a3] t) = w1 at *
  have k2 := Blk.alloc w1 #[b0, b1] t'
  have g2 : Below w1.heap.size w1 (w1.alloc (.cells #[b0, b1] t')) := (Below.refl _ _).alloc (Nat.le_refl _) _
  rw [hs] at k2
  exact ⟨g1.trans (g2.mono (by omega)), k1.below g2 k1.lt, k2⟩
/-- The run with the names written over, beside the first. -/
structure UN (wm : World) (y1 y2 : Nat) (A2 : Option Addr) (c2 : Nat) (X : Res × St) (lo : Nat) : Prop where
  o1 : Blk wm y1 31 (oC X (.slice A2 (ansRes X).forest.length c2))
  o2 : Blk wm y2 32 (uC X)
  ow : OwnF wm lo (.slice A2 (ansRes X).forest.length c2) ((ansRes X).forest.map (nmC otherS))
theorem UN.below {wm w' : World} {y1 y2 : Nat} {A2 : Option Addr} {c2 : Nat} {X : Res × St} {lo : Nat} (h : UN wm y1 y2 A2 c2 X lo) (g : Below wm.heap.size wm w') : UN w' y1 y2 A2 c2 X lo :=
  ⟨h.o1.below g h.o1.lt, h.o2.below g h.o2.lt, h.ow.more (Go.X.grown_of_below g none)⟩
theorem un_start {wa wm : World} {y1 y2 : Nat} {A2 : Option Addr} {c2 : Nat} {X Y V : Res × St} {lo : Nat} (hu : ULaw X Y V) (h1 : Blk wm y1 31 (oC Y (.slice A2 (ansRes Y).forest.length c2))) (h2 : Blk wm y2 32 (uC Y)) (h3 : OwnF wa lo (.slice A2 (ansRes Y).forest.length c2) (ansRes Y).forest) (g : Below wa.heap.size wa wm) : UN wm y1 y2 A2 c2 X lo := by
  have e1 : (ansRes Y).forest = (ansRes X).forest.map (nmC otherS) := by rw [hu.res, nmR_forest]
  have e2 : (ansRes Y).forest.length = (ansRes X).forest.length := by rw [e1, List.length_map]
  have e3 : (ansRes Y).kind = (ansRes X).kind := by rw [hu.res, nmR_kind]
  have e4 : (ansRes Y).en = (ansRes X).en := by rw [hu.res, nmR_en]
  have e5 : (ansRes Y).label = (ansRes X).label := by rw [hu.res]; rfl
  have e6 := hu.st
  refine ⟨?_, ?_, ?_⟩
  · have h := h1
    unfold oC at h
    rw [e2, e3, e4, e5] at h
    exact h
  · have h := h2
    unfold uC at h
    rw [e6] at h
    exact h
  · have h := h3.more (Go.X.grown_of_below g none)
    rw [e2] at h
    rwa [e1] at h
end Go.Proofs.YtmpkkphohilkoaaDoor.B
