/- Texts joined and shortened (wip/tools/shrink.py): MLawB, MTurn0, MTurnLaw. -/
import Derived.Test.YtmpkkphohilkoaaQt13
import Derived.Test.YtmpkkphohilkoaaQt10
import Derived.Outline
/- What the laws of chapter 14 go on with: their boxes, what was lent, the answers that are kept. -/
namespace Go.Proofs.Ytmpkkphohilkoaa.B
open Go Go.RowKit Go.X Go.Ma Go.Proofs.YtmpkkphohilkoaaW.PrintWords Go.Proofs.Ytmpkkphohilkoaa.F

theorem eqA32 (d : Nat) (w : World) (x0 y0 : Int) (x1 y1 : Int) :
    (Op.equalIn (d + 2) 32 (.agg #[.int .i64 x0, .int .i64 x1]) (.agg #[.int .i64 y0, .int .i64 y1])).run Try.prog w = .ok (x0 == y0 && (x1 == y1)) w := by
  refine eqA_of Try.underlying32 (by kernel_rfl) ?_
  refine eqf_cons (by rfl) (by go_simp; rfl) (by go_simp; rfl) (by go_simp) ?_
  exact eqf_last (by rfl) (by go_simp; rfl) (by go_simp; rfl) (by go_simp)
/-- What was lent, and its box. -/
structure OB (wk : World) (ob lo br : Nat) (start : Int) (rs : List S45) (P : Nat → Nat) : Prop where
  box : Blk wk ob 24 [.slice (some ⟨br, 0, none⟩) rs.length (rs.length + 1), .int .i64 start]
  core : CoreAt wk lo br rs P
theorem OB.below {wk w' : World} {ob lo br : Nat} {start : Int} {rs : List S45} {P : Nat → Nat} (h : OB wk ob lo br start rs P) (hb : Below wk.heap.size wk w') : OB w' ob lo br start rs P := ⟨h.box.below hb h.box.lt, h.core.below hb⟩
theorem OB.start {wk : World} {lo br : Nat} {start : Int} {rs : List S45} {P : Nat → Nat} (h : CoreAt wk lo br rs P) : OB (wk.alloc (.cells #[.slice (some ⟨br, 0, none⟩) rs.length (rs.length + 1), .int .i64 start] 24)) wk.heap.size lo br start rs P :=
  ⟨Blk.alloc wk _ _, h.below ((Below.refl _ _).alloc (Nat.le_refl _) _)⟩
/-- An answer that is kept. -/
structure KA (wk : World) (b lo hi : Nat) (k : Int) (en : Nat) (lb : ByteArray) (v : Value) (dp st : Nat) (F : List Cap) : Prop where
  c : Blk wk b 31 (rsC k en lb v)
  u : Blk wk (b + 1) 32 [.int .i64 (dp : Nat), .int .i64 (st : Nat)]
  own : OwnF wk lo v F
  hi : ∀ q, v.ownBlock = some q → q < hi
theorem KA.below {wk w' : World} {b lo hi : Nat} {k : Int} {en : Nat} {lb : ByteArray} {v : Value} {dp st : Nat} {F : List Cap} (h : KA wk b lo hi k en lb v dp st F) (hb : Below wk.heap.size wk w') : KA w' b lo hi k en lb v dp st F :=
  ⟨h.c.below hb h.c.lt, h.u.below hb h.u.lt, h.own.more (Go.X.grown_of_below hb none), h.hi⟩
def two (w : World) (k : Int) (en : Nat) (lb : ByteArray) (v : Value) (dp st : Nat) : World := (w.alloc (.cells #[.int .i64 k, .int .i64 (en : Nat), .string lb, v] 31)).alloc (.cells #[.int .i64 (dp : Nat), .int .i64 (st : Nat)] 32)
theorem two_below (w : World) (k : Int) (en : Nat) (lb : ByteArray) (v : Value) (dp st : Nat) : Below w.heap.size w (two w k en lb v dp st) := ((Below.refl _ w).alloc (Nat.le_refl _) _).alloc (by simp) _
theorem KA.start {w : World} {lo : Nat} {k : Int} {en : Nat} {lb : ByteArray} {v : Value} {dp st : Nat} {F : List Cap} (h : OwnF w lo v F) : KA (two w k en lb v dp st) w.heap.size lo w.heap.size k en lb v dp st F := by
  refine ⟨(Blk.alloc w _ _).grown (World.grownBy_alloc _ _ none) (by simp), ?_, h.more (Go.X.grown_of_below (two_below w k en lb v dp st) none), fun q hq => (World.ownsRow.lt h q hq).2⟩
  have := Blk.alloc (w.alloc (.cells #[.int .i64 k, .int .i64 (en : Nat), .string lb, v] 31)) #[.int .i64 (dp : Nat), .int .i64 (st : Nat)] 32
  simpa [two] using this
theorem RunAns.at {x : Res × St} {k : Int} {en : Nat} {lb : ByteArray} {F : List Cap} {t st dp : Nat} {er : Int} (h1 : ansRes x = ⟨k, en, lb, F, t⟩) (h2 : ansSt x = ⟨st, dp, er⟩) {w w' : World} {e : Ending} (h : RunAns w x e w') :
    ∃ A c, e = .returned (.tuple #[.agg #[.int .i64 k, .int .i64 (en : Nat), .string lb, .slice A F.length c], .agg #[.int .i64 (dp : Nat), .int .i64 (st : Nat)], .int .i64 er]) ∧ Below w.heap.size w w' ∧ OwnF w' w.heap.size (.slice A F.length c) F := by
  obtain ⟨v, he, hb, ho⟩ := h
  rw [h1] at he ho
  rw [h2] at he
  obtain ⟨A, c, rfl⟩ := Go.X.own_slice ho
  exact ⟨A, c, he, hb, ho⟩
theorem runOf_few (rs : List S45) (inp : ByteArray) (r p : Nat) (D S : Int) : (runOf rs inp r p D S).1.forest.length ≤ 1048576 := by
  have h := ev_ok (envOf rs inp) (clamp D S) (2 * (clamp D S).steps + 1) (tre rs r) p 1 st0 (by simp only [st0]; omega)
  have h1 := h.few
  have h2 := h.max (Nat.zero_le _)
  have h3 := (clamp_le D S).2
  unfold runOf
  omega
theorem atAns_few (rs : List S45) (start rule : Int) (inp : ByteArray) (at_ D S : Int) : (ansRes (atAns rs start rule inp at_ D S)).forest.length ≤ 1048576 := by
  have hz : ∀ e : Int, (ansRes ((.zero, ⟨0, 0, e⟩) : Res × St)).forest.length ≤ 1048576 := fun e => by
    rw [ansRes]
    split <;> exact Nat.zero_le _
  unfold atAns
  split
  · split
    · split
      · split
        · rw [ansRes]
          split
          · exact runOf_few _ _ _ _ _ _
          · exact Nat.zero_le _
        · exact hz 5
      · exact hz 1
    · exact hz 5
  · exact hz 6
theorem heavy_no {rs : List S45} (h : decide (4096 < rs.length ∨ 1048576 < sz rs) = false) : rs.length ≤ 1048576 ∧ ∀ x ∈ rs, x.f1.length ≤ 1048576 := by
  have h' := of_decide_eq_false h
  exact ⟨by omega, fun x hx => by have := sz_mem hx; omega⟩
end Go.Proofs.Ytmpkkphohilkoaa.B
/- A lent core grammar whose bodies are written over, one after the other. -/
namespace Go.X
open Go Go.RowKit
section
variable {P : Program} {ops : Array Oper} {o : Oper} {a : Act} {w : World} {K : Act → World → Prop} {Q : Exit → Act → World → Prop} {E : Prop}
theorem run_append_nil' (w : World) (t ty e : TypeId) (i : TypeInfo) (ht : P.underlying t = some (.slice e)) (hi : P.info? e = some i) (g n cap c : Nat) (h : n ≤ cap) :
    (Builtin.append_ #[t, t] ty #[.slice (some ⟨g, 0, none⟩) n cap, .slice none 0 c]).run P w = .ok (.slice (some ⟨g, 0, none⟩) n cap) w := by
  simp [Builtin.append_, run_underlying ht, sizeOf, typeInfo, hi, Builtin.lenOf, Builtin.firstCells, loadCells, h, storeCells]
/-- 'append(v, x...)' as one step of a region, x whatever lies there. -/
theorem step_append_x (hgd : o.guard = none) (s x : Operand) (t e : TypeId) (ho : o.op = .call { callee := .builtin .append, args := #[s, x], argTypes := #[t, t] })
    (base : Nat) (i : TypeInfo) (z : Value) (size bytes : Nat) (ht : P.underlying t = some (.slice e)) (hi : P.info? e = some i) (hz : i.zero = some z)
    (hsize : i.size = size) (hby : i.bytes = bytes) (hzs : z.cells.size = size)
    (v : Value) (n : Nat) (xs : List Value) (hs : a.eval s = v) (hown : w.ownsRow base e size v n xs)
    (ad : Addr) (m c : Nat) (news : List Value) (hx : a.eval x = .slice (some ad) m c) (hl : news.length = m * size) (hnews : ∀ j u, news[j]? = some u → w.cell? (ad.add j) = some u) (h1 : ∀ u ∈ news, u.oneCell' = true)
    (h63 : n + m ≤ maxLen) (hbytes : (n + m) * bytes ≤ 140737488355328) (hbase : base ≤ w.heap.size)
    (h : ∀ v' w', w'.ownsRow base e size v' (n + m) (xs ++ news) → Appended w w' e size v v' n → K (a.put o.dst v') w') :
    if Region.wanted o (yielded ops a.tmps) = true then Oper.wp P o a w K Q else E := by
  have hw : Region.wanted o (yielded ops a.tmps) = true := by simp [Region.wanted, hgd]
  rw [if_pos hw]
  obtain ⟨v', w', hr, h2, h3⟩ := run_append_x (P := P) w base t o.type e i z size bytes ht hi hz hsize hby hzs v n xs hown ad m c news hl hnews h1 h63 hbytes hbase
  unfold Oper.wp execOp
  simp only [ho, resolve, invoke, builtin, Sem.run_bind, Sem.run_pure, Result.andThen_ok, List.map_toArray, List.map_cons, List.map_nil, hs, hx, hr]
  exact h v' w' h2 h3
theorem step_append_nil (hgd : o.guard = none) (s x : Operand) (t e : TypeId) (ho : o.op = .call { callee := .builtin .append, args := #[s, x], argTypes := #[t, t] })
    (i : TypeInfo) (ht : P.underlying t = some (.slice e)) (hi : P.info? e = some i) (g n cap c : Nat) (hs : a.eval s = .slice (some ⟨g, 0, none⟩) n cap) (hx : a.eval x = .slice none 0 c) (hc : n ≤ cap)
    (h : K (a.put o.dst (.slice (some ⟨g, 0, none⟩) n cap)) w) :
    if Region.wanted o (yielded ops a.tmps) = true then Oper.wp P o a w K Q else E := by
  have hw : Region.wanted o (yielded ops a.tmps) = true := by simp [Region.wanted, hgd]
  rw [if_pos hw]
  have hr := run_append_nil' (P := P) w t o.type e i ht hi g n cap c hc
  unfold Oper.wp execOp
  simp only [ho, resolve, invoke, builtin, Sem.run_bind, Sem.run_pure, Result.andThen_ok, List.map_toArray, List.map_cons, List.map_nil, hs, hx, hr]
  exact h
/-- 'append([]T{}, x...)': a row of its own, x whatever lies there. -/
theorem step_append_fresh (hgd : o.guard = none) (s x : Operand) (t e : TypeId) (ho : o.op = .call { callee := .builtin .append, args := #[s, x], argTypes := #[t, t] })
    (base : Nat) (i : TypeInfo) (z : Value) (size bytes : Nat) (ht : P.underlying t = some (.slice e)) (hi : P.info? e = some i) (hz : i.zero = some z)
    (hsize : i.size = size) (hby : i.bytes = bytes) (hzs : z.cells.size = size) (hpos : 0 < size)
    (hs : a.eval s = .slice (some ⟨base, 0, none⟩) 0 0) (hown : w.ownsRow base e size (.slice (some ⟨base, 0, none⟩) 0 0) 0 [])
    (Ab : Option Addr) (m c : Nat) (news : List Value) (hx : a.eval x = .slice Ab m c) (hl : news.length = m * size)
    (hcells : news ≠ [] → ∃ ad, Ab = some ad ∧ ∀ j u, news[j]? = some u → w.cell? (ad.add j) = some u) (h1 : ∀ u ∈ news, u.oneCell' = true)
    (h63 : m ≤ maxLen) (hbytes : m * bytes ≤ 140737488355328)
    (h : ∀ v' w', w'.ownsRow base e size v' m news → w.grownBy w' (some base) → K (a.put o.dst v') w') :
    if Region.wanted o (yielded ops a.tmps) = true then Oper.wp P o a w K Q else E := by
  cases Ab with
  | none =>
    obtain rfl : news = [] := Classical.byContradiction fun hne => by obtain ⟨ad, e, _⟩ := hcells hne; cases e
    obtain rfl : m = 0 := by
      rcases Nat.eq_zero_or_pos m with h0 | h0
      · exact h0
      · have := Nat.mul_pos h0 hpos; simp only [List.length_nil] at hl; omega
    exact step_append_nil hgd s x t e ho i ht hi base 0 0 c hs hx (Nat.le_refl _) (h _ w hown ⟨rfl, rfl, rfl, Nat.le_refl _, fun _ _ _ => rfl⟩)
  | some ad =>
    refine step_append_x hgd s x t e ho base i z size bytes ht hi hz hsize hby hzs _ 0 [] hs hown ad m c news hx hl (fun j u hu => ?_) h1 (by omega) (by simpa using hbytes) (Nat.le_of_lt (World.ownsRow.lt hown base rfl).2) (fun v' w' h2 h3 => h v' w' (by simpa using h2) h3.grown)
    exact (hcells (by rintro rfl; simp at hu)).elim fun ad' q => by obtain ⟨q1, q2⟩ := q; cases q1; exact q2 j u hu
end
end Go.X
namespace Go.Proofs.Ytmpkkphohilkoaa.B
open Go Go.RowKit Go.X Go.Ma Go.Proofs.YtmpkkphohilkoaaW.PrintWords Go.Proofs.Ytmpkkphohilkoaa.F

/-- The i-th body, the first r of them being written over. -/
def tb (rs ds : List S45) (r i : Nat) : List S55 := if i < r then (cr ds i).f1 else (cr rs i).f1
def turn (rs ds : List S45) (r : Nat) : List S45 := (List.range rs.length).map fun i => ⟨(cr rs i).f0, tb rs ds r i⟩
theorem turn_length (rs ds : List S45) (r : Nat) : (turn rs ds r).length = rs.length := by simp [turn]
theorem tb_next {rs ds : List S45} {r i : Nat} (h : i ≠ r) : tb rs ds (r + 1) i = tb rs ds r i := by
  unfold tb
  by_cases h1 : i < r
  · rw [if_pos (by omega), if_pos h1]
  · rw [if_neg (by omega), if_neg h1]
theorem tb_self (rs ds : List S45) (r : Nat) : tb rs ds (r + 1) r = (cr ds r).f1 := if_pos (Nat.lt_succ_self r)
def rowsV (rs : List S45) (V : Nat → Value) : Nat → List Value
  | 0 => []
  | i + 1 => rowsV rs V i ++ [.string (cr rs i).f0, V i]
theorem rowsV_length (rs : List S45) (V : Nat → Value) : ∀ i, (rowsV rs V i).length = i * 2
  | 0 => rfl
  | i + 1 => by rw [rowsV, List.length_append, rowsV_length rs V i, Nat.succ_mul]; rfl
theorem rowsV_congr (rs : List S45) {V V' : Nat → Value} : ∀ i, (∀ j, j < i → V j = V' j) → rowsV rs V i = rowsV rs V' i
  | 0, _ => rfl
  | i + 1, h => by rw [rowsV, rowsV, rowsV_congr rs i (fun j hj => h j (by omega)), h i (by omega)]
def updV (V : Nat → Value) (r : Nat) (v : Value) : Nat → Value := fun j => if j = r then v else V j
theorem updV_self (V : Nat → Value) (r : Nat) (v : Value) : updV V r v r = v := if_pos rfl
theorem updV_ne (V : Nat → Value) {r j : Nat} (v : Value) (h : j ≠ r) : updV V r v j = V j := if_neg h
theorem rowsV_set (rs : List S45) (V : Nat → Value) (R : List Value) (r : Nat) (v : Value) : ∀ n, r < n → (rowsV rs V n ++ R).set (r * 2 + 1) v = rowsV rs (updV V r v) n ++ R
  | 0, h => by omega
  | n + 1, h => by
    rcases Nat.lt_succ_iff_lt_or_eq.1 h with hlt | rfl
    · rw [rowsV, rowsV, List.append_assoc, List.append_assoc, updV_ne V v (by omega)]
      exact rowsV_set rs V ([.string (cr rs n).f0, V n] ++ R) r v n hlt
    · rw [rowsV, rowsV, updV_self, rowsV_congr rs (V' := V) r (fun j hj => updV_ne V v (by omega)), List.append_assoc, List.append_assoc, List.set_append_right _ _ (by rw [rowsV_length]; omega), rowsV_length, Nat.add_sub_cancel_left]
      rfl
theorem rowsV_get (rs : List S45) (V : Nat → Value) (R : List Value) (i j : Nat) (hj : j < 2) : ∀ n, i < n → (rowsV rs V n ++ R)[i * 2 + j]? = [Value.string (cr rs i).f0, V i][j]?
  | 0, h => by omega
  | n + 1, h => by
    rcases Nat.lt_succ_iff_lt_or_eq.1 h with hlt | rfl
    · rw [rowsV, List.append_assoc]
      exact rowsV_get rs V _ i j hj n hlt
    · rw [rowsV, List.append_assoc, List.getElem?_append_right (by rw [rowsV_length]; omega), rowsV_length, Nat.add_sub_cancel_left, List.getElem?_append_left hj]
theorem rowsTo_V (rs : List S45) (P : Nat → Nat) : ∀ n, rowsTo rs P n = rowsV rs (fun i => .slice (some ⟨P i, 0, none⟩) (cr rs i).f1.length ((cr rs i).f1.length + 1)) n
  | 0 => rfl
  | n + 1 => by rw [rowsTo, rowsV, rowsTo_V rs P n]; rfl
/-- A body in a row of the call's own. -/
def BodyIn (w : World) (lo : Nat) (v : Value) (body : List S55) : Prop := ∃ cells, w.ownsRow lo 55 7 v body.length cells ∧ Reps (k55.K w) k55.sz body cells
theorem BodyIn.kept {w w' : World} {lo : Nat} {v : Value} {body : List S55} {r : Option Nat} (h : BodyIn w lo v body) (hg : w.grownBy w' r) (hr : v.ownBlock = none ∨ v.ownBlock ≠ r) : BodyIn w' lo v body := by
  obtain ⟨cells, h1, h2⟩ := h
  exact ⟨cells, h1.kept hg hr, h2.imp_ (fun _ _ hk => flat55 _ _ _ _ hk)⟩
theorem BodyIn.C {w : World} {lo : Nat} {v : Value} {body : List S55} (h : BodyIn w lo v body) (hb : body.length ≤ 1048576) : ∃ A c, v = .slice A body.length c ∧ body.length ≤ c ∧ Kd.C k55 w A body.length body := by
  obtain ⟨cells, h1, h2⟩ := h
  rcases h1.2 with ⟨rfl, h0⟩ | ⟨g, cap, cur, rfl, _, h3, h4, h5, h6, h7⟩
  · have : body = [] := List.eq_nil_of_length_eq_zero h0
    subst this
    exact ⟨none, 0, rfl, Nat.le_refl _, by simp, by simp, fun h => absurd h (Nat.lt_irrefl _)⟩
  · refine ⟨_, cap, rfl, h4, C_of_blk (e := 55) (cs := cells) (rest := cur.toList.drop (body.length * 7)) ?_ h2 (by omega)⟩
    rw [← h7, List.take_append_drop]
    simpa [Blk] using h3
theorem Lent.bodyIn {w : World} {lo b : Nat} {body : List S55} {hold : List Value} (h : Lent k55 55 w b body hold) (hh : hold.length = 7) (hlo : lo ≤ b) (hb : body.length ≤ 1048576) : BodyIn w lo (.slice (some ⟨b, 0, none⟩) body.length (body.length + 1)) body := by
  obtain ⟨cs, hr, hk⟩ := h.out
  have hl : cs.length = body.length * 7 := hr.1
  refine ⟨cs, ⟨by simpa using hl, .inr ⟨b, body.length + 1, (cs ++ hold).toArray, rfl, hlo, by simpa [Blk] using hk, by omega, by simp only [maxLen]; omega, ?_, ?_⟩⟩, hr⟩
  · simp only [List.size_toArray, List.length_append, hl, hh, Nat.add_mul, Nat.one_mul]
  · rw [List.toList_toArray, ← hl]
    exact List.take_left
/-- The first r bodies are written over. -/
structure TA (wr : World) (lo br : Nat) (rs ds : List S45) (V : Nat → Value) (P : Nat → Nat) (r : Nat) : Prop where
  rows : Blk wr br 45 (rowsV rs V rs.length ++ holdR)
  body : ∀ i, i < rs.length → BodyIn wr lo (V i) (tb rs ds r i)
  lent : ∀ i, r ≤ i → i < rs.length → V i = .slice (some ⟨P i, 0, none⟩) (cr rs i).f1.length ((cr rs i).f1.length + 1) ∧ Lent k55 55 wr (P i) (cr rs i).f1 holdC
  apart : ∀ i j, i < rs.length → j < rs.length → i ≠ j → (V i).ownBlock = none ∨ (V i).ownBlock ≠ (V j).ownBlock
theorem TA.start {wr : World} {lo br : Nat} {rs ds : List S45} {P : Nat → Nat} (h : CoreAt wr lo br rs P) (hb : ∀ x ∈ rs, x.f1.length ≤ 1048576) : TA wr lo br rs ds (fun i => .slice (some ⟨P i, 0, none⟩) (cr rs i).f1.length ((cr rs i).f1.length + 1)) P 0 := by
  refine ⟨by rw [← rowsTo_V]; exact h.rows, fun i hi => ?_, fun i _ hi => ⟨rfl, (h.rules i hi).2.1⟩, fun i j hi hj hne => .inr ?_⟩
  · obtain ⟨a1, a2, _⟩ := h.rules i hi
    rw [tb, if_neg (Nat.not_lt_zero i)]
    exact Lent.bodyIn a2 rfl a1 (hb _ (cr_mem hi))
  · simp only [Value.ownBlock]
    intro e
    injection e with e
    rcases Nat.lt_or_ge i j with h1 | h1
    · have := (h.rules j hj).2.2 i h1; omega
    · have := (h.rules i hi).2.2 j (by omega); omega
theorem owned_ne {w : World} {lo n b t : Nat} {v : Value} {xs cs : List Value} (h : w.ownsRow lo 55 7 v n xs) (hb : Blk w b t cs) (ht : t ≠ 55) : v.ownBlock ≠ some b := own_other h hb ht
/-- A body of the same length is copied over the lent one. -/
theorem TA.copy {wr w' : World} {lo br : Nat} {rs ds : List S45} {V : Nat → Value} {P : Nat → Nat} {r : Nat} {cs : List Value} (h : TA wr lo br rs ds V P r) (hr : r < rs.length) (hlo : lo ≤ P r) (hg : wr.grownBy w' (some (P r))) (hb : Blk w' (P r) 55 (cs ++ holdC))
    (hc : Reps (k55.K w') k55.sz (cr ds r).f1 cs) (hl : (cr ds r).f1.length = (cr rs r).f1.length) (hm : (cr ds r).f1.length ≤ 1048576) : TA w' lo br rs ds V P (r + 1) := by
  obtain ⟨hV, hL⟩ := h.lent r (Nat.le_refl _) hr
  have hLB : ∃ c, Blk wr (P r) 55 c := by obtain ⟨c, _, hk⟩ := hL.out; exact ⟨_, hk⟩
  obtain ⟨c0, hc0⟩ := hLB
  have hbr : br ≠ P r := h.rows.ne hc0 (by decide)
  refine ⟨h.rows.grown hg (by intro e; injection e with e; exact hbr e), fun i hi => ?_, fun i h1 h2 => ⟨(h.lent i (by omega) h2).1, ?_⟩, h.apart⟩
  · by_cases hir : i = r
    · subst hir
      rw [tb_self, hV, ← hl]
      exact Lent.bodyIn (hold := holdC) ⟨cs, hc, hb⟩ rfl hlo hm
    · rw [tb_next hir]
      refine (h.body i hi).kept hg ?_
      have := h.apart i r hi hr hir
      rw [hV] at this
      exact this
  · have hne : P i ≠ P r := by
      have := h.apart i r h2 hr (by omega)
      rw [(h.lent i (by omega) h2).1, hV] at this
      simp only [Value.ownBlock] at this
      rcases this with e | e
      · cases e
      · exact fun q => e (by rw [q])
    obtain ⟨c, h3, h4⟩ := (h.lent i (by omega) h2).2.out
    exact ⟨c, h3.imp_ (fun _ _ hk => flat55 _ _ _ _ hk), h4.grown hg (by intro e; injection e with e; exact hne e)⟩
/-- A body of another length takes the lent one's place. -/
theorem TA.put {wr w5 : World} {lo br : Nat} {rs ds : List S45} {V : Nat → Value} {P : Nat → Nat} {r : Nat} {v : Value} {cs : List Value} (h : TA wr lo br rs ds V P r) (hr : r < rs.length) (hg : wr.grownBy w5 none) (ho : w5.ownsRow lo 55 7 v (cr ds r).f1.length cs)
    (hc : Reps (k55.K w5) k55.sz (cr ds r).f1 cs) (hf : ∀ b, v.ownBlock = some b → wr.heap.size ≤ b) : TA (w5.setCell ⟨br, r * 2 + 1, none⟩ v) lo br rs ds (updV V r v) P (r + 1) := by
  have gs := grown_setCell w5 ⟨br, r * 2 + 1, none⟩ v
  have r5 : Blk w5 br 45 (rowsV rs V rs.length ++ holdR) := h.rows.grown hg (by simp)
  have hold : ∀ i, i < rs.length → ∀ b, (V i).ownBlock = some b → b < wr.heap.size := fun i hi b hb => by
    obtain ⟨c, h1, _⟩ := h.body i hi
    exact (World.ownsRow.lt h1 b hb).2
  refine ⟨?_, fun i hi => ?_, fun i h1 h2 => ?_, fun i j hi hj hne => ?_⟩
  · have := r5.setCell (r * 2 + 1) v
    rw [rowsV_set rs V holdR r v rs.length hr] at this
    exact this
  · by_cases hir : i = r
    · subst hir
      rw [tb_self, updV_self]
      exact BodyIn.kept ⟨cs, ho, hc⟩ gs (.inr (owned_ne ho r5 (by decide)))
    · rw [tb_next hir, updV_ne V v hir]
      have h5 := (h.body i hi).kept hg (by cases (V i).ownBlock <;> simp)
      obtain ⟨c, h1, h2⟩ := h5
      exact BodyIn.kept ⟨c, h1, h2⟩ gs (.inr (owned_ne h1 r5 (by decide)))
  · rw [updV_ne V v (by omega)]
    obtain ⟨c, h3, h4⟩ := (h.lent i (by omega) h2).2.out
    have h5 := h4.grown hg (by simp)
    exact ⟨(h.lent i (by omega) h2).1, c, h3.imp_ (fun _ _ hk => flat55 _ _ _ _ hk), h5.grown gs (by intro e; injection e with e; exact h5.ne r5 (by decide) e)⟩
  · by_cases hir : i = r
    · subst hir
      rw [updV_self, updV_ne V v (fun e => hne e.symm)]
      cases hv : v.ownBlock with
      | none => exact .inl rfl
      | some b =>
        refine .inr fun e => ?_
        have := hold j hj b e.symm
        have := hf b hv
        omega
    · by_cases hjr : j = r
      · subst hjr
        rw [updV_self, updV_ne V v hir]
        cases hv : (V i).ownBlock with
        | none => exact .inl rfl
        | some b =>
          refine .inr fun e => ?_
          have := hold i hi b hv
          have := hf b e.symm
          omega
      · rw [updV_ne V v hir, updV_ne V v hjr]
        exact h.apart i j hi hj hne
theorem turn_rows {w : World} {lo br : Nat} {rs ds : List S45} {V : Nat → Value} {P : Nat → Nat} {r : Nat} (h : TA w lo br rs ds V P r) (hb : ∀ i, i < rs.length → (tb rs ds r i).length ≤ 1048576) : ∀ n, n ≤ rs.length → Reps (k45.K w) k45.sz ((turn rs ds r).take n) (rowsV rs V n)
  | 0, _ => by rw [List.take_zero]; exact Reps.none _ _
  | n + 1, hn => by
    have hl : n < (turn rs ds r).length := by rw [turn_length]; omega
    rw [List.take_succ_eq_append_getElem hl, rowsV]
    have e : (turn rs ds r)[n] = ⟨(cr rs n).f0, tb rs ds r n⟩ := by simp [turn]
    rw [e]
    obtain ⟨A, c, hv, hc, hC⟩ := (h.body n (by omega)).C (hb n (by omega))
    rw [hv]
    exact (turn_rows h hb n (by omega)).snoc (k45_mk w ⟨(cr rs n).f0, tb rs ds r n⟩ hc hC) rfl
theorem TA.C {w : World} {lo br : Nat} {rs ds : List S45} {V : Nat → Value} {P : Nat → Nat} {r : Nat} (h : TA w lo br rs ds V P r) (hl : rs.length ≤ 1048576) (hb : ∀ i, i < rs.length → (tb rs ds r i).length ≤ 1048576) : Kd.C k45 w (some ⟨br, 0, none⟩) rs.length (turn rs ds r) := by
  have := turn_rows h hb rs.length (Nat.le_refl _)
  rw [List.take_of_length_le (by rw [turn_length]; exact Nat.le_refl _)] at this
  have e := C_of_blk h.rows this (by rw [turn_length]; omega)
  rwa [turn_length] at e
end Go.Proofs.Ytmpkkphohilkoaa.B
/- The walk of the law MatchTurned (printed by wip/tools/genturn.py). -/
namespace Go.Proofs.Ytmpkkphohilkoaa.B
open Go Go.RowKit Go.X Go.Ma Go.Proofs.YtmpkkphohilkoaaW.PrintWords Go.Proofs.Ytmpkkphohilkoaa.F
attribute [local go_sem high] eqA32

theorem LendCore.callsN (Ar : Option Addr) (c : Nat) (start : Int) (rs : List S45) (n : Nat) (w : World) (hn : rs.length = n) (hr : Kd.C k45 w Ar n rs) (mr : n ≤ 1048576) (mb : ∀ x ∈ rs, x.f1.length ≤ 1048576) :
    Calls Try.prog 7 #[.agg #[.slice Ar n c, .int .i64 start]] w fun e w' => ∃ br P, e = .returned (.agg #[.slice (some ⟨br, 0, none⟩) n (n + 1), .int .i64 start]) ∧ CoreAt w' w.heap.size br rs P ∧ Below w.heap.size w w' := by
  subst hn
  exact (LendCore.calls Ar c start rs w hr mr mb).mono fun e w' ⟨br, P, h1, h2, _, h3⟩ => ⟨br, P, h1, h2, h3⟩
theorem mrun.callsN (Ar : Option Addr) (c : Nat) (start : Int) (rs : List S45) (n : Nat) (inp : ByteArray) (D S : Int) (w : World) (hn : rs.length = n) (hr : Kd.C k45 w Ar n rs) (hc : n ≤ c) (hb : ∀ x ∈ rs, x.f1.length ≤ 140737488355328 ∧ x.f0.size ≤ 140737488355328) :
    Calls Try.prog 8 #[.agg #[.slice Ar n c, .int .i64 start], .string inp, .agg #[.int .i64 D, .int .i64 S]] w (RunAns w (atAns rs start start inp 0 D S)) := by
  subst hn
  exact mrun.calls Ar c start rs inp D S w hr hc hb
theorem rrun.callsN (Ar : Option Addr) (c : Nat) (start : Int) (rs : List S45) (n : Nat) (inp : ByteArray) (D S : Int) (w : World) (hn : rs.length = n) (hr : Kd.C k45 w Ar n rs) (hc : n ≤ c) (hb : ∀ x ∈ rs, x.f1.length ≤ 140737488355328 ∧ x.f0.size ≤ 140737488355328) :
    Calls Try.prog 9 #[.agg #[.slice Ar n c, .int .i64 start], .string inp, .agg #[.int .i64 D, .int .i64 S]] w (RunAns w (atAns rs start start inp 0 D S)) := by
  subst hn
  exact rrun.calls Ar c start rs inp D S w hr hc hb
theorem info55m : (Try.prog.info? 55).map (fun i => (i.zero.map (fun z => z.cells.size), i.size, i.bytes)) = some (some 7, 7, 64) := by kernel_rfl
theorem info55x : ∃ i z, Try.prog.info? 55 = some i ∧ i.zero = some z ∧ i.size = 7 ∧ i.bytes = 64 ∧ z.cells.size = 7 := by
  obtain ⟨i, h1, h2⟩ := Option.map_eq_some_iff.1 info55m
  simp only [Prod.mk.injEq] at h2
  obtain ⟨z, h3, h4⟩ := Option.map_eq_some_iff.1 h2.1
  exact ⟨i, z, h1, h3, h2.2.1, h2.2.2, h4⟩
/-- The law's boxes. -/
structure LT (w wk : World) (Ar : Option Addr) (n c : Nat) (start : Int) (Ad : Option Addr) (nd cd : Nat) (sd D S : Int) : Prop where
  bel : Below w.heap.size w wk
  b0 : Blk wk w.heap.size 24 [.slice Ar n c, .int .i64 start]
  bd : Blk wk (w.heap.size + 1) 24 [.slice Ad nd cd, .int .i64 sd]
  b1 : Blk wk (w.heap.size + 1 + 1) 26 [.int .i64 D, .int .i64 S]
theorem LT.start (w : World) (Ar : Option Addr) (n c : Nat) (start : Int) (Ad : Option Addr) (nd cd : Nat) (sd D S : Int) : LT w (((w.alloc (.cells #[.slice Ar n c, .int .i64 start] 24)).alloc (.cells #[.slice Ad nd cd, .int .i64 sd] 24)).alloc (.cells #[.int .i64 D, .int .i64 S] 26)) Ar n c start Ad nd cd sd D S := by
  generalize hw1 : w.alloc (.cells #[.slice Ar n c, .int .i64 start] 24) = w1
  have z1 : w1.heap.size = w.heap.size + 1 := by rw [← hw1]; simp
  have g1 : Below w.heap.size w w1 ∧ Blk w1 w.heap.size 24 [.slice Ar n c, .int .i64 start] := by rw [← hw1]; exact ⟨(Below.refl _ w).alloc (Nat.le_refl _) _, Blk.alloc w _ _⟩
  generalize hw2 : w1.alloc (.cells #[.slice Ad nd cd, .int .i64 sd] 24) = w2
  have z2 : w2.heap.size = w.heap.size + 1 + 1 := by rw [← hw2]; simp [z1]
  have g2 : w1.grownBy w2 none := by rw [← hw2]; exact World.grownBy_alloc _ _ none
  have k2 : Blk w2 (w.heap.size + 1) 24 [.slice Ad nd cd, .int .i64 sd] := by rw [← hw2, ← z1]; exact Blk.alloc w1 _ _
  have g3 := World.grownBy_alloc w2 (.cells #[.int .i64 D, .int .i64 S] 26) none
  have k3 := Blk.alloc w2 #[.int .i64 D, .int .i64 S] 26
  rw [z2] at k3
  have g := Fr4.grown2 g2 g3
  exact ⟨g1.1.grown g g1.1.size (fun k hk => by cases hk), g1.2.grown g (by simp), k2.grown g3 (by simp), k3⟩
theorem LT.below {w wk w' : World} {Ar : Option Addr} {n c : Nat} {start : Int} {Ad : Option Addr} {nd cd : Nat} {sd D S : Int} (h : LT w wk Ar n c start Ad nd cd sd D S) (hb : Below wk.heap.size wk w') : LT w w' Ar n c start Ad nd cd sd D S :=
  ⟨h.bel.trans (hb.mono h.bel.size), h.b0.below hb h.b0.lt, h.bd.below hb h.bd.lt, h.b1.below hb h.b1.lt⟩
theorem LT.own {w wk w' : World} {Ar : Option Addr} {n c : Nat} {start : Int} {Ad : Option Addr} {nd cd : Nat} {sd D S : Int} {b t : Nat} {cs : List Value} (h : LT w wk Ar n c start Ad nd cd sd D S) (hg : wk.grownBy w' (some b)) (hb : Blk wk b t cs) (ht : t = 55 ∨ t = 45) (hlo : w.heap.size ≤ b) : LT w w' Ar n c start Ad nd cd sd D S := by
  have k : ∀ {b' t' : Nat} {cs' : List Value}, Blk wk b' t' cs' → t' ≠ 55 → t' ≠ 45 → Blk w' b' t' cs' := fun h1 h2 h3 => h1.grown hg (by intro e; injection e with e; rcases ht with rfl | rfl; exact h1.ne hb h2 e; exact h1.ne hb h3 e)
  exact ⟨h.bel.grown hg h.bel.size (fun q hq => by injection hq with hq; omega), k h.b0 (by decide) (by decide), k h.bd (by decide) (by decide), k h.b1 (by decide) (by decide)⟩
theorem KA.ownB {wk w' : World} {b lo hi : Nat} {k : Int} {en : Nat} {lb : ByteArray} {v : Value} {dp st : Nat} {F : List Cap} {b0 t : Nat} {cs : List Value} (h : KA wk b lo hi k en lb v dp st F) (hg : wk.grownBy w' (some b0)) (hb : Blk wk b0 t cs) (ht : t = 55 ∨ t = 45) : KA w' b lo hi k en lb v dp st F := by
  have k' : ∀ {b' t' : Nat} {cs' : List Value}, Blk wk b' t' cs' → t' ≠ 55 → t' ≠ 45 → Blk w' b' t' cs' := fun h1 h2 h3 => h1.grown hg (by intro e; injection e with e; rcases ht with rfl | rfl; exact h1.ne hb h2 e; exact h1.ne hb h3 e)
  exact ⟨k' h.c (by decide) (by decide), k' h.u (by decide) (by decide), h.own.kept hg hb (by rcases ht with rfl | rfl <;> decide), h.hi⟩
theorem Blk.ownB {wk w' : World} {b' t' : Nat} {cs' : List Value} {b0 t : Nat} {cs : List Value} (h1 : Blk wk b' t' cs') (hg : wk.grownBy w' (some b0)) (hb : Blk wk b0 t cs) (ht : t = 55 ∨ t = 45) (h2 : t' ≠ 55) (h3 : t' ≠ 45) : Blk w' b' t' cs' :=
  h1.grown hg (by intro e; injection e with e; rcases ht with rfl | rfl; exact h1.ne hb h2 e; exact h1.ne hb h3 e)
structure TB (wk : World) (ob br n : Nat) (start : Int) (T : List S45) : Prop where
  box : Blk wk ob 24 [.slice (some ⟨br, 0, none⟩) n (n + 1), .int .i64 start]
  c : Kd.C k45 wk (some ⟨br, 0, none⟩) n T
theorem TB.below {wk w' : World} {ob br n : Nat} {start : Int} {T : List S45} (h : TB wk ob br n start T) (hb : Below wk.heap.size wk w') : TB w' ob br n start T := ⟨h.box.below hb h.box.lt, Kd.C_below h.c hb⟩
theorem TB.start {wk : World} {lo br n : Nat} {start : Int} {T : List S45} {Q : Nat → Nat} (hn : T.length = n) (h : CoreAt wk lo br T Q) (h1 : n ≤ 1048576) (h2 : ∀ x ∈ T, x.f1.length ≤ 1048576) : TB (wk.alloc (.cells #[.slice (some ⟨br, 0, none⟩) n (n + 1), .int .i64 start] 24)) wk.heap.size br n start T := by
  subst hn
  exact ⟨Blk.alloc wk _ _, Kd.C_below (h.C h1 h2) ((Below.refl _ _).alloc (Nat.le_refl _) _)⟩
theorem tb_le {rs ds : List S45} {r i : Nat} (h1 : ∀ x ∈ rs, x.f1.length ≤ 1048576) (h2 : ∀ x ∈ ds, x.f1.length ≤ 1048576) (hr : r ≤ ds.length) (hi : i < rs.length) : (tb rs ds r i).length ≤ 1048576 := by
  unfold tb
  split
  · exact h2 _ (cr_mem (by omega))
  · exact h1 _ (cr_mem hi)
theorem turn_fit {rs ds : List S45} {r : Nat} (h1 : ∀ x ∈ rs, x.f1.length ≤ 1048576) (h2 : ∀ x ∈ ds, x.f1.length ≤ 1048576) (h3 : ∀ x ∈ rs, x.f1.length ≤ 140737488355328 ∧ x.f0.size ≤ 140737488355328) (hr : r ≤ ds.length) :
    ∀ x ∈ turn rs ds r, x.f1.length ≤ 1048576 ∧ (x.f1.length ≤ 140737488355328 ∧ x.f0.size ≤ 140737488355328) := by
  intro x hx
  obtain ⟨i, hi, rfl⟩ := List.mem_map.1 hx
  have hi' : i < rs.length := by simpa using hi
  have := tb_le h1 h2 hr hi'
  exact ⟨this, Nat.le_trans this (by decide), (h3 _ (cr_mem hi')).2⟩
set_option maxRecDepth 100000 in
set_option maxHeartbeats 4000000 in
theorem MatchTurned.calls (Ar : Option Addr) (c : Nat) (start : Int) (rs : List S45) (Ad : Option Addr) (cd : Nat) (sd : Int) (ds : List S45) (inp : ByteArray) (D S : Int) (w : World) (hr : Kd.C k45 w Ar rs.length rs) (hc : rs.length ≤ c) (hb : ∀ x ∈ rs, x.f1.length ≤ 140737488355328 ∧ x.f0.size ≤ 140737488355328)
    (hrd : Kd.C k45 w Ad ds.length ds) (hcd : ds.length ≤ cd) (hbd : ∀ x ∈ ds, x.f1.length ≤ 140737488355328 ∧ x.f0.size ≤ 140737488355328) :
    Calls Try.prog 4 #[.agg #[.slice Ar rs.length c, .int .i64 start], .agg #[.slice Ad ds.length cd, .int .i64 sd], .string inp, .agg #[.int .i64 D, .int .i64 S]] w fun e w' => e = .returned (.bool true) ∧ Below w.heap.size w w' := by
  have HR := Lib.hid hr; clear hr
  have HC := Lib.hid hc; clear hc
  have HBB := Lib.hid hb; clear hb
  have HRD := Lib.hid hrd; clear hrd
  have HCD := Lib.hid hcd; clear hcd
  have HBD := Lib.hid hbd; clear hbd
  have HQL := Lib.hid (atAns_few rs start start inp 0 D S)
  obtain ⟨q1, hq1⟩ : ∃ q, ansRes (atAns rs start start inp 0 D S) = q := ⟨_, rfl⟩
  obtain ⟨q2, hq2⟩ : ∃ q, ansSt (atAns rs start start inp 0 D S) = q := ⟨_, rfl⟩
  rw [hq1] at HQL
  obtain ⟨k, en, lb, F, t⟩ := q1
  obtain ⟨st, dp, er⟩ := q2
  have HQ := Lib.hid (And.intro hq1 hq2)
  clear hq1 hq2
  have L0 := Lib.hid (LT.start w Ar rs.length c start Ad ds.length cd sd D S)
  go_enter Try.func4, Try.ntmps4
  go_wp2_with (fail)
  generalize (((w.alloc (.cells #[.slice Ar rs.length c, .int .i64 start] 24)).alloc (.cells #[.slice Ad ds.length cd, .int .i64 sd] 24)).alloc (.cells #[.int .i64 D, .int .i64 S] 26)) = wa at *
  refine (dowellaw14_heavy.calls 4097 Ar c rs start _ wa (Kd.C_below HR.out L0.out.bel) HC.out (heavy_f rs start (fun x hx => (HBB.out x hx).1) _ (by omega))).mono ?_
  rintro e w1 ⟨rfl, hbw⟩
  have L1 := Lib.hid (L0.out.below hbw)
  clear L0
  clear hbw
  dsimp only
  by_cases hh : decide (4096 < rs.length ∨ 1048576 < sz rs) = true
  · rw [hh]
    go_wp2
    go_ret
    exact ⟨rfl, L1.out.bel⟩
  have hh' : decide (4096 < rs.length ∨ 1048576 < sz rs) = false := by simpa using hh
  have HM := Lib.hid (heavy_no hh')
  rw [hh']
  clear hh hh'
  have e0 : w1.cell? ⟨w.heap.size + 1, 0, none⟩ = some (.slice Ad ds.length cd) := L1.out.bd.cell 0
  have e1 : w1.cell? ⟨w.heap.size + 1, 1, none⟩ = some (.int .i64 sd) := L1.out.bd.cell 1
  go_wp2_with (fail)
  clear e0 e1
  refine (dowellaw14_heavy.calls 4097 Ad cd ds sd _ w1 (Kd.C_below HRD.out L1.out.bel) HCD.out (heavy_f ds sd (fun x hx => (HBD.out x hx).1) _ (by omega))).mono ?_
  rintro e w2 ⟨rfl, hbw⟩
  have L2 := Lib.hid (L1.out.below hbw)
  clear L1
  clear hbw
  dsimp only
  by_cases hh : decide (4096 < ds.length ∨ 1048576 < sz ds) = true
  · rw [hh]
    go_wp2
    go_ret
    exact ⟨rfl, L2.out.bel⟩
  have hh' : decide (4096 < ds.length ∨ 1048576 < sz ds) = false := by simpa using hh
  have HMD := Lib.hid (heavy_no hh')
  rw [hh']
  clear hh hh'
  have a0 : w2.cell? ⟨w.heap.size, 0, none⟩ = some (.slice Ar rs.length c) := L2.out.b0.cell 0
  have a1 : w2.cell? ⟨w.heap.size, 1, none⟩ = some (.int .i64 start) := L2.out.b0.cell 1
  go_wp2_with (fail)
  clear a0 a1
  refine (LendCore.calls Ar c start rs w2 (Kd.C_below HR.out L2.out.bel) HM.out.1 HM.out.2).mono ?_
  rintro e w3 ⟨br, Q, rfl, hcore, hbr, hbw⟩
  have HLO' : Hid (w.heap.size ≤ w2.heap.size) := L2.out.bel.size
  have HBR : Hid (w.heap.size ≤ br) := Nat.le_trans HLO'.out hbr
  clear hbr
  have L3 := Lib.hid (L2.out.below hbw)
  clear L2
  clear hbw
  dsimp only
  have HO' : ∀ wz : World, wz = w3.alloc (.cells #[.slice (some ⟨br, 0, none⟩) rs.length (rs.length + 1), .int .i64 start] 24) → Hid (LT w wz Ar rs.length c start Ad ds.length cd sd D S ∧ OB wz w3.heap.size w2.heap.size br start rs Q) := by
    rintro wz rfl
    exact ⟨L3.out.below ((Below.refl _ _).alloc (Nat.le_refl _) _), OB.start hcore⟩
  have o0 : (w3.alloc (.cells #[.slice (some ⟨br, 0, none⟩) rs.length (rs.length + 1), .int .i64 start] 24)).cell? ⟨w3.heap.size, 0, none⟩ = some (.slice (some ⟨br, 0, none⟩) rs.length (rs.length + 1)) := (HO' _ rfl).out.2.box.cell 0
  have o1 : (w3.alloc (.cells #[.slice (some ⟨br, 0, none⟩) rs.length (rs.length + 1), .int .i64 start] 24)).cell? ⟨w3.heap.size, 1, none⟩ = some (.int .i64 start) := (HO' _ rfl).out.2.box.cell 1
  have d0 : (w3.alloc (.cells #[.slice (some ⟨br, 0, none⟩) rs.length (rs.length + 1), .int .i64 start] 24)).cell? ⟨w.heap.size + 1 + 1, 0, none⟩ = some (.int .i64 D) := (HO' _ rfl).out.1.b1.cell 0
  have d1 : (w3.alloc (.cells #[.slice (some ⟨br, 0, none⟩) rs.length (rs.length + 1), .int .i64 start] 24)).cell? ⟨w.heap.size + 1 + 1, 1, none⟩ = some (.int .i64 S) := (HO' _ rfl).out.1.b1.cell 1
  clear hcore L3
  go_wp2_with (fail)
  clear o0 o1 d0 d1
  generalize hw4 : w3.alloc (.cells #[.slice (some ⟨br, 0, none⟩) rs.length (rs.length + 1), .int .i64 start] 24) = w4
  have HOO := HO' w4 hw4.symm
  clear HO' hw4
  generalize hob : w3.heap.size = ob at *
  generalize hlo : w2.heap.size = lo at *
  clear hob hlo
  have L4 := Lib.hid HOO.out.1
  have O4 := Lib.hid HOO.out.2
  clear HOO
  refine (mrun.calls (some ⟨br, 0, none⟩) (rs.length + 1) start rs inp D S w4 (O4.out.core.C HM.out.1 HM.out.2) (by omega) HBB.out).mono ?_
  rintro e w5 hans
  obtain ⟨A1, c1, rfl, hbw, hown1⟩ := RunAns.at HQ.out.1 HQ.out.2 hans
  clear hans
  have L5 := Lib.hid (L4.out.below hbw)
  have O5 := Lib.hid (O4.out.below hbw)
  clear L4 O4
  clear hbw
  dsimp only
  have HK' : ∀ wz : World, wz = (w5.alloc (.cells #[.int .i64 k, .int .i64 (en : Nat), .string lb, .slice A1 F.length c1] 31)).alloc (.cells #[.int .i64 (dp : Nat), .int .i64 (st : Nat)] 32) → Hid (Below w5.heap.size w5 wz ∧ KA wz w5.heap.size w4.heap.size w5.heap.size k en lb (.slice A1 F.length c1) dp st F) := by
    rintro wz rfl
    exact ⟨two_below w5 k en lb (.slice A1 F.length c1) dp st, KA.start hown1⟩
  have a0 : ((w5.alloc (.cells #[.int .i64 k, .int .i64 (en : Nat), .string lb, .slice A1 F.length c1] 31)).alloc (.cells #[.int .i64 (dp : Nat), .int .i64 (st : Nat)] 32)).cell? ⟨w.heap.size, 0, none⟩ = some (.slice Ar rs.length c) := (L5.out.below (HK' _ rfl).out.1).b0.cell 0
  have a1 : ((w5.alloc (.cells #[.int .i64 k, .int .i64 (en : Nat), .string lb, .slice A1 F.length c1] 31)).alloc (.cells #[.int .i64 (dp : Nat), .int .i64 (st : Nat)] 32)).cell? ⟨w.heap.size, 1, none⟩ = some (.int .i64 start) := (L5.out.below (HK' _ rfl).out.1).b0.cell 1
  have d0 : ((w5.alloc (.cells #[.int .i64 k, .int .i64 (en : Nat), .string lb, .slice A1 F.length c1] 31)).alloc (.cells #[.int .i64 (dp : Nat), .int .i64 (st : Nat)] 32)).cell? ⟨w.heap.size + 1 + 1, 0, none⟩ = some (.int .i64 D) := (L5.out.below (HK' _ rfl).out.1).b1.cell 0
  have d1 : ((w5.alloc (.cells #[.int .i64 k, .int .i64 (en : Nat), .string lb, .slice A1 F.length c1] 31)).alloc (.cells #[.int .i64 (dp : Nat), .int .i64 (st : Nat)] 32)).cell? ⟨w.heap.size + 1 + 1, 1, none⟩ = some (.int .i64 S) := (L5.out.below (HK' _ rfl).out.1).b1.cell 1
  go_wp2_with (fail)
  clear hown1 a0 a1 d0 d1
  generalize hw6 : (w5.alloc (.cells #[.int .i64 k, .int .i64 (en : Nat), .string lb, .slice A1 F.length c1] 31)).alloc (.cells #[.int .i64 (dp : Nat), .int .i64 (st : Nat)] 32) = w6
  have HKK := HK' w6 hw6.symm
  clear HK' hw6
  have L6 := Lib.hid (L5.out.below HKK.out.1)
  have O6 := Lib.hid (O5.out.below HKK.out.1)
  clear L5 O5
  have K16 := Lib.hid HKK.out.2
  clear HKK
  generalize hb1 : w5.heap.size = b1 at *
  generalize hl1 : w4.heap.size = lo1 at *
  clear hb1 hl1
  refine (rrun.calls Ar c start rs inp D S w6 (Kd.C_below HR.out L6.out.bel) HC.out HBB.out).mono ?_
  rintro e w7 hans
  obtain ⟨A3, c3, rfl, hbw, hown3⟩ := RunAns.at HQ.out.1 HQ.out.2 hans
  clear hans
  have L7 := Lib.hid (L6.out.below hbw)
  have O7 := Lib.hid (O6.out.below hbw)
  have K17 := Lib.hid (K16.out.below hbw)
  clear L6 O6 K16
  clear hbw
  dsimp only
  have HK' : ∀ wz : World, wz = (w7.alloc (.cells #[.int .i64 k, .int .i64 (en : Nat), .string lb, .slice A3 F.length c3] 31)).alloc (.cells #[.int .i64 (dp : Nat), .int .i64 (st : Nat)] 32) → Hid (Below w7.heap.size w7 wz ∧ KA wz w7.heap.size w6.heap.size w7.heap.size k en lb (.slice A3 F.length c3) dp st F) := by
    rintro wz rfl
    exact ⟨two_below w7 k en lb (.slice A3 F.length c3) dp st, KA.start hown3⟩
  have x10 : ((w7.alloc (.cells #[.int .i64 k, .int .i64 (en : Nat), .string lb, .slice A3 F.length c3] 31)).alloc (.cells #[.int .i64 (dp : Nat), .int .i64 (st : Nat)] 32)).cell? ⟨b1, 0, none⟩ = some (.int .i64 k) := (K17.out.below (HK' _ rfl).out.1).c.cell 0
  have x11 : ((w7.alloc (.cells #[.int .i64 k, .int .i64 (en : Nat), .string lb, .slice A3 F.length c3] 31)).alloc (.cells #[.int .i64 (dp : Nat), .int .i64 (st : Nat)] 32)).cell? ⟨b1, 1, none⟩ = some (.int .i64 (en : Nat)) := (K17.out.below (HK' _ rfl).out.1).c.cell 1
  have x12 : ((w7.alloc (.cells #[.int .i64 k, .int .i64 (en : Nat), .string lb, .slice A3 F.length c3] 31)).alloc (.cells #[.int .i64 (dp : Nat), .int .i64 (st : Nat)] 32)).cell? ⟨b1, 2, none⟩ = some (.string lb) := (K17.out.below (HK' _ rfl).out.1).c.cell 2
  have x13 : ((w7.alloc (.cells #[.int .i64 k, .int .i64 (en : Nat), .string lb, .slice A3 F.length c3] 31)).alloc (.cells #[.int .i64 (dp : Nat), .int .i64 (st : Nat)] 32)).cell? ⟨b1, 3, none⟩ = some (.slice A1 F.length c1) := (K17.out.below (HK' _ rfl).out.1).c.cell 3
  have x30 : ((w7.alloc (.cells #[.int .i64 k, .int .i64 (en : Nat), .string lb, .slice A3 F.length c3] 31)).alloc (.cells #[.int .i64 (dp : Nat), .int .i64 (st : Nat)] 32)).cell? ⟨w7.heap.size, 0, none⟩ = some (.int .i64 k) := (HK' _ rfl).out.2.c.cell 0
  have x31 : ((w7.alloc (.cells #[.int .i64 k, .int .i64 (en : Nat), .string lb, .slice A3 F.length c3] 31)).alloc (.cells #[.int .i64 (dp : Nat), .int .i64 (st : Nat)] 32)).cell? ⟨w7.heap.size, 1, none⟩ = some (.int .i64 (en : Nat)) := (HK' _ rfl).out.2.c.cell 1
  have x32 : ((w7.alloc (.cells #[.int .i64 k, .int .i64 (en : Nat), .string lb, .slice A3 F.length c3] 31)).alloc (.cells #[.int .i64 (dp : Nat), .int .i64 (st : Nat)] 32)).cell? ⟨w7.heap.size, 2, none⟩ = some (.string lb) := (HK' _ rfl).out.2.c.cell 2
  have x33 : ((w7.alloc (.cells #[.int .i64 k, .int .i64 (en : Nat), .string lb, .slice A3 F.length c3] 31)).alloc (.cells #[.int .i64 (dp : Nat), .int .i64 (st : Nat)] 32)).cell? ⟨w7.heap.size, 3, none⟩ = some (.slice A3 F.length c3) := (HK' _ rfl).out.2.c.cell 3
  go_wp2_with (fail)
  clear hown3 x10 x11 x12 x13 x30 x31 x32 x33
  generalize hw8 : (w7.alloc (.cells #[.int .i64 k, .int .i64 (en : Nat), .string lb, .slice A3 F.length c3] 31)).alloc (.cells #[.int .i64 (dp : Nat), .int .i64 (st : Nat)] 32) = w8
  have HKK := HK' w8 hw8.symm
  clear HK' hw8
  have L8 := Lib.hid (L7.out.below HKK.out.1)
  have O8 := Lib.hid (O7.out.below HKK.out.1)
  have K18 := Lib.hid (K17.out.below HKK.out.1)
  clear L7 O7 K17
  have K38 := Lib.hid HKK.out.2
  clear HKK
  generalize hb3 : w7.heap.size = b3 at *
  generalize hl3 : w6.heap.size = lo3 at *
  clear hb3 hl3
  refine (outcomes.calls A1 A3 c1 c3 k en lb F lo1 lo3 w8 K18.out.own K38.out.own (Nat.le_trans HQL.out (by decide))).mono ?_
  rintro e w9 ⟨rfl, hbw⟩
  have L9 := Lib.hid (L8.out.below hbw)
  have O9 := Lib.hid (O8.out.below hbw)
  have K19 := Lib.hid (K18.out.below hbw)
  have K39 := Lib.hid (K38.out.below hbw)
  clear L8 O8 K18 K38
  clear hbw
  dsimp only
  have HQlo : Hid (∀ i, i < rs.length → lo ≤ Q i) := fun i hi => (O9.out.core.rules i hi).1
  go_wp2
  go_loopg [16] (min rs.length ds.length) (fun q v wr => ∃ (i : Nat) (V : Nat → Value), Hid (q + i = min rs.length ds.length) ∧ v = .int .i64 (i : Nat) ∧ Hid (LT w wr Ar rs.length c start Ad ds.length cd sd D S ∧ Blk wr ob 24 [.slice (some ⟨br, 0, none⟩) rs.length (rs.length + 1), .int .i64 start] ∧ TA wr lo br rs ds V Q i ∧ KA wr b1 lo1 b1 k en lb (.slice A1 F.length c1) dp st F ∧ KA wr b3 lo3 b3 k en lb (.slice A3 F.length c3) dp st F))
  case atStart => exact ⟨0, _, Nat.add_zero _, rfl, L9.out, O9.out.box, TA.start O9.out.core HM.out.2, K19.out, K39.out⟩
  case round =>
    clear L9 O9 K19 K39
    obtain ⟨i, V, HI, rfl, HS⟩ := hrel
    have o0 : wr.cell? ⟨ob, 0, none⟩ = some (.slice (some ⟨br, 0, none⟩) rs.length (rs.length + 1)) := HS.out.2.1.cell 0
    have e0 : wr.cell? ⟨w.heap.size + 1, 0, none⟩ = some (.slice Ad ds.length cd) := HS.out.1.bd.cell 0
    by_cases hlt : i < min rs.length ds.length
    · have hin : i < rs.length := by omega
      have hid' : i < ds.length := by omega
      have hi0 : (0 : Int) ≤ (i : Int) := Int.natCast_nonneg _
      have hi1 : (i : Int) < (rs.length : Int) := Int.ofNat_lt.2 hin
      have hi2 : (i : Int) < (ds.length : Int) := Int.ofNat_lt.2 hid'
      obtain ⟨ad, Ab, cb, eA, _, f1, _, hcb⟩ := cr_at (Kd.C_below HRD.out HS.out.1.bel) i hid'
      subst eA
      have HCB := Lib.hid hcb; clear hcb
      have HIN : Hid (i < rs.length ∧ i < ds.length ∧ rs.length ≤ 1048576 ∧ (cr ds i).f1.length ≤ 1048576 ∧ (cr rs i).f1.length ≤ 1048576 ∧ lo ≤ Q i) := ⟨hin, hid', HM.out.1, HMD.out.2 _ (cr_mem hid'), HM.out.2 _ (cr_mem hin), HQlo.out i hin⟩
      have HLT := Lib.hid hlt
      clear hlt hin hid'
      have HVL := Lib.hid (HS.out.2.2.1.lent i (Nat.le_refl _) HIN.out.1)
      have g1 : wr.cell? ⟨br, i * 2 + 1, none⟩ = some (.slice (some ⟨Q i, 0, none⟩) (cr rs i).f1.length ((cr rs i).f1.length + 1)) := by
        rw [← HVL.out.1, HS.out.2.2.1.rows.cell, rowsV_get rs V holdR i 1 (by decide) rs.length HIN.out.1]
        rfl
      have hiw : wrap64 ((i : Int) + 1) = ((i + 1 : Nat) : Int) := by have := HIN.out.2.2.1; have := HIN.out.1; rw [IntWalk.wrap64_in _ (by omega)]; rfl
      obtain ⟨cs, hreps, hcells⟩ := X.C_cells HCB.out
      have hlen : cs.length = (cr ds i).f1.length * 7 := hreps.1
      have hone := X.Reps_oneCell hreps
      have HRE := Lib.hid hreps; clear hreps
      have HL := Lib.hid hlen; clear hlen
      have HCE := Lib.hid hcells; clear hcells
      have HO := Lib.hid hone; clear hone
      by_cases heq : (cr ds i).f1.length = (cr rs i).f1.length
      · have HEQ := Lib.hid heq
        rw [← heq] at g1
        obtain ⟨c0, hc0, hk0⟩ := HVL.out.2.out
        have HK0 := Lib.hid hk0; clear hk0
        have HC0 : Hid (c0.length = (cr ds i).f1.length * 7) := by show _ = _; rw [heq]; exact hc0.1
        clear hc0 heq
        go_wp2_with (first
          | (with_reducible refine X.copy rfl (.tmp 91) (.tmp 92) 43 43 rfl 55 7 Try.underlying43 sz55 (Q i) 0 _ _ _ _ _ rfl rfl _ _ HK0.out cs ?_ ?_ ?_ ?_ ?_)
          | fail)
        · have := HL.out; rw [show (cr ds i).f1.length.min (cr ds i).f1.length = (cr ds i).f1.length from Nat.min_self _]; exact this
        · exact HCE.out
        · have := HL.out; have := HC0.out; rw [List.length_append]; omega
        · exact HO.out
        intro w2' hb2 hg2
        have HF : Hid (LT w w2' Ar rs.length c start (some ad) ds.length cd sd D S ∧ Blk w2' ob 24 [.slice (some ⟨br, 0, none⟩) rs.length (rs.length + 1), .int .i64 start] ∧ TA w2' lo br rs ds V Q (i + 1) ∧ KA w2' b1 lo1 b1 k en lb (.slice A1 F.length c1) dp st F ∧ KA w2' b3 lo3 b3 k en lb (.slice A3 F.length c3) dp st F) := by
          obtain ⟨s1, s2, s3, s4, s5⟩ := HS.out
          have hb := HK0.out
          have hsp : splice (c0 ++ holdC) 0 cs = cs ++ holdC := by
            rw [X.splice_begin, show cs.length = c0.length by rw [HL.out, HC0.out], List.drop_left]
          rw [hsp] at hb2
          exact ⟨s1.own hg2 hb (.inl rfl) (Nat.le_trans HLO'.out HIN.out.2.2.2.2.2), Blk.ownB s2 hg2 hb (.inl rfl) (by decide) (by decide), s3.copy HIN.out.1 HIN.out.2.2.2.2.2 hg2 hb2 (HRE.out.imp_ (fun _ _ hk => flat55 _ _ _ _ hk)) HEQ.out HIN.out.2.2.2.1, s4.ownB hg2 hb (.inl rfl), s5.ownB hg2 hb (.inl rfl)⟩
        clear hb2 hg2 HS o0 e0 g1 f1 HVL HK0 HC0 HCB HCE HRE HO
        go_wp2
        go_roundg (min rs.length ds.length - (i + 1))
        case measure => clear hiw; have := HI.out; have := HLT.out; omega
        case rel => exact ⟨i + 1, V, by clear hiw; have := HLT.out; show _ = _; omega, by first | rfl | rw [hiw], HF.out⟩
      · have hneq : ¬ ((cr ds i).f1.length : Int) = ((cr rs i).f1.length : Int) := by omega
        have hneqb : (((cr ds i).f1.length : Int) == ((cr rs i).f1.length : Int)) = false := beq_eq_false_iff_ne.2 hneq
        have HOWN : Hid ((World.drew (wr.alloc (.cells #[] 55))).ownsRow wr.heap.size 55 7 (.slice (some ⟨wr.heap.size, 0, none⟩) 0 0) 0 []) := (World.ownsRow_made wr #[] 0 (Nat.le_refl _) (Nat.zero_le _) rfl).drew
        have HG0 : Hid (wr.grownBy (World.drew (wr.alloc (.cells #[] 55))) none) := by
          have := World.grownBy_alloc wr (.cells #[] 55) none
          exact ⟨this.os, this.tape, this.output, this.size, this.block⟩
        have HCE0 : Hid (cs ≠ [] → ∃ ad, Ab = some ad ∧ ∀ j u, cs[j]? = some u → (World.drew (wr.alloc (.cells #[] 55))).cell? (ad.add j) = some u) := fun hne => by
          obtain ⟨ad', e1, hk⟩ := HCE.out hne
          exact ⟨ad', e1, fun j u hu => HG0.out.cell (hk j u hu) (by simp)⟩
        clear HCE
        obtain ⟨i55, z55, hi55⟩ := info55x
        have H55 := Lib.hid hi55; clear hi55
        have o0' := (World.grownBy_alloc wr (.cells #[] 55) none).cell o0 (by simp)
        go_wp2
        go_region_law (first
          | (refine step_append_fresh rfl (.tmp 97) (.tmp 98) 43 55 rfl wr.heap.size i55 z55 7 64 Try.underlying43 H55.out.1 H55.out.2.1 H55.out.2.2.1 H55.out.2.2.2.1 H55.out.2.2.2.2 (by decide) (by simp [Act.eval]) HOWN.out Ab (cr ds i).f1.length cb cs (by simp [Act.eval]) HL.out HCE0.out HO.out ?_ ?_ ?_
             · have := HIN.out.2.2.2.1; simp only [maxLen]; omega
             · have := HIN.out.2.2.2.1; omega
             intro v' w5 hown hgr
             obtain ⟨av, cv, hvv⟩ := Go.X.own_slice hown
             subst hvv
             have HW5 := Lib.hid hown; clear hown
             have HG5 : Hid (wr.grownBy w5 none) := by
               have g := HG0.out
               exact ⟨hgr.os.trans g.os, hgr.tape.trans g.tape, hgr.output.trans g.output, Nat.le_trans g.size hgr.size, fun k hk hk2 => (hgr.block k (Nat.lt_of_lt_of_le hk g.size) (by intro e; injection e with e; omega)).trans (g.block k hk hk2)⟩
             clear hgr
             have g5 : w5.cell? ⟨br, i * 2 + 1, none⟩ = some (.slice (some ⟨Q i, 0, none⟩) (cr rs i).f1.length ((cr rs i).f1.length + 1)) := HG5.out.cell g1 (by simp)
             have o5 := HG5.out.cell o0 (by simp)
             have f5 : w5.frozen? ⟨br, i * 2 + 1, none⟩ = false := (HS.out.2.2.1.rows.grown HG5.out (by simp)).frozen _)
          | fail)
        all_goals
          have HF : Hid (LT w (w5.setCell ⟨br, i * 2 + 1, none⟩ (.slice av (cr ds i).f1.length cv)) Ar rs.length c start (some ad) ds.length cd sd D S ∧ Blk (w5.setCell ⟨br, i * 2 + 1, none⟩ (.slice av (cr ds i).f1.length cv)) ob 24 [.slice (some ⟨br, 0, none⟩) rs.length (rs.length + 1), .int .i64 start] ∧ TA (w5.setCell ⟨br, i * 2 + 1, none⟩ (.slice av (cr ds i).f1.length cv)) lo br rs ds (updV V i (.slice av (cr ds i).f1.length cv)) Q (i + 1) ∧ KA (w5.setCell ⟨br, i * 2 + 1, none⟩ (.slice av (cr ds i).f1.length cv)) b1 lo1 b1 k en lb (.slice A1 F.length c1) dp st F ∧ KA (w5.setCell ⟨br, i * 2 + 1, none⟩ (.slice av (cr ds i).f1.length cv)) b3 lo3 b3 k en lb (.slice A3 F.length c3) dp st F) := by
            obtain ⟨s1, s2, s3, s4, s5⟩ := HS.out
            have bel := below_of_grown HG5.out
            have r5 := s3.rows.below bel s3.rows.lt
            have gs := grown_setCell w5 ⟨br, i * 2 + 1, none⟩ (.slice av (cr ds i).f1.length cv)
            have hq : Q i < wr.heap.size := by obtain ⟨_, _, hk⟩ := HVL.out.2.out; exact hk.lt
            exact ⟨(s1.below bel).own gs r5 (.inr rfl) HBR.out, Blk.ownB (s2.below bel s2.lt) gs r5 (.inr rfl) (by decide) (by decide), s3.put HIN.out.1 HG5.out (ownsRow_low HW5.out (Nat.le_of_lt (Nat.lt_of_le_of_lt HIN.out.2.2.2.2.2 hq))) (HRE.out.imp_ (fun _ _ hk => flat55 _ _ _ _ hk)) (fun b hb => (World.ownsRow.lt HW5.out b hb).1), (s4.below bel).ownB gs r5 (.inr rfl), (s5.below bel).ownB gs r5 (.inr rfl)⟩
          clear HW5 HG5 g5 o5 f5 HS o0 e0 g1 f1 HVL HCB HRE HO HOWN HG0 HCE0 H55 o0'
          go_wp2
          go_roundg (min rs.length ds.length - (i + 1))
          case measure => clear hiw; have := HI.out; have := HLT.out; omega
          case rel => exact ⟨i + 1, _, by clear hiw; have := HLT.out; show _ = _; omega, by first | rfl | rw [hiw], HF.out⟩
    · have hle : i ≤ ds.length := by have := HI.out; omega
      have T9 : Hid (TB wr ob br rs.length start (turn rs ds i)) := ⟨HS.out.2.1, HS.out.2.2.1.C HM.out.1 (fun j hj => tb_le HM.out.2 HMD.out.2 hle hj)⟩
      have HTF := Lib.hid (turn_fit HM.out.2 HMD.out.2 HBB.out hle)
      have HTL : Hid ((turn rs ds i).length = rs.length) := turn_length rs ds i
      have L9 := Lib.hid HS.out.1
      have K19 := Lib.hid HS.out.2.2.2.1
      have K39 := Lib.hid HS.out.2.2.2.2
      have hcase : (¬ ((i : Int) < (rs.length : Int))) ∨ ((i : Int) < (rs.length : Int) ∧ ¬ ((i : Int) < (ds.length : Int))) := by omega
      have o1 : wr.cell? ⟨ob, 1, none⟩ = some (.int .i64 start) := HS.out.2.1.cell 1
      clear HS hle hlt HI
      generalize turn rs ds i = T at *
      have HQLz := Lib.hid (atAns_few T start start inp 0 D S)
      obtain ⟨q1, hq1⟩ : ∃ q, ansRes (atAns T start start inp 0 D S) = q := ⟨_, rfl⟩
      obtain ⟨q2, hq2⟩ : ∃ q, ansSt (atAns T start start inp 0 D S) = q := ⟨_, rfl⟩
      rw [hq1] at HQLz
      obtain ⟨kz, enz, lbz, Fz, tz⟩ := q1
      obtain ⟨stz, dpz, erz⟩ := q2
      have HQz := Lib.hid (And.intro hq1 hq2)
      clear hq1 hq2
      rcases hcase with hi1 | ⟨hi1, hi2⟩
      all_goals
        go_wp2_with (fail)
        clear o0 o1 e0
        refine (LendCore.callsN (some ⟨br, 0, none⟩) (rs.length + 1) start T rs.length wr HTL.out T9.out.c HM.out.1 (fun x hx => (HTF.out x hx).1)).mono ?_
        rintro e wn ⟨br2, Q2, rfl, hcore2, hbw⟩
        have L10 := Lib.hid (L9.out.below hbw)
        have T10 := Lib.hid (T9.out.below hbw)
        have K110 := Lib.hid (K19.out.below hbw)
        have K310 := Lib.hid (K39.out.below hbw)
        clear L9 T9 K19 K39
        clear hbw
        dsimp only
        have HN' : ∀ wz : World, wz = wn.alloc (.cells #[.slice (some ⟨br2, 0, none⟩) rs.length (rs.length + 1), .int .i64 start] 24) → Hid (Below wn.heap.size wn wz ∧ TB wz wn.heap.size br2 rs.length start T) := by
          rintro wz rfl
          exact ⟨(Below.refl _ _).alloc (Nat.le_refl _) _, TB.start HTL.out hcore2 HM.out.1 (fun x hx => (HTF.out x hx).1)⟩
        have o0 : (wn.alloc (.cells #[.slice (some ⟨br2, 0, none⟩) rs.length (rs.length + 1), .int .i64 start] 24)).cell? ⟨ob, 0, none⟩ = some (.slice (some ⟨br, 0, none⟩) rs.length (rs.length + 1)) := (T10.out.below (HN' _ rfl).out.1).box.cell 0
        have o1 : (wn.alloc (.cells #[.slice (some ⟨br2, 0, none⟩) rs.length (rs.length + 1), .int .i64 start] 24)).cell? ⟨ob, 1, none⟩ = some (.int .i64 start) := (T10.out.below (HN' _ rfl).out.1).box.cell 1
        have d0 : (wn.alloc (.cells #[.slice (some ⟨br2, 0, none⟩) rs.length (rs.length + 1), .int .i64 start] 24)).cell? ⟨w.heap.size + 1 + 1, 0, none⟩ = some (.int .i64 D) := (L10.out.below (HN' _ rfl).out.1).b1.cell 0
        have d1 : (wn.alloc (.cells #[.slice (some ⟨br2, 0, none⟩) rs.length (rs.length + 1), .int .i64 start] 24)).cell? ⟨w.heap.size + 1 + 1, 1, none⟩ = some (.int .i64 S) := (L10.out.below (HN' _ rfl).out.1).b1.cell 1
        clear hcore2
        go_wp2_with (fail)
        clear o0 o1 d0 d1
        generalize hwm : wn.alloc (.cells #[.slice (some ⟨br2, 0, none⟩) rs.length (rs.length + 1), .int .i64 start] 24) = wm
        have HNN := HN' wm hwm.symm
        clear HN' hwm
        have L11 := Lib.hid (L10.out.below HNN.out.1)
        have T11 := Lib.hid (T10.out.below HNN.out.1)
        have K111 := Lib.hid (K110.out.below HNN.out.1)
        have K311 := Lib.hid (K310.out.below HNN.out.1)
        clear L10 T10 K110 K310
        have U11 := Lib.hid HNN.out.2
        clear HNN
        generalize hnb : wn.heap.size = nb at *
        clear hnb
        refine (mrun.callsN (some ⟨br, 0, none⟩) (rs.length + 1) start T rs.length inp D S wm HTL.out T11.out.c (by omega) (fun x hx => (HTF.out x hx).2)).mono ?_
        rintro e w5 hans
        obtain ⟨A4, c4, rfl, hbw, hown4⟩ := RunAns.at HQz.out.1 HQz.out.2 hans
        clear hans
        have L12 := Lib.hid (L11.out.below hbw)
        have T12 := Lib.hid (T11.out.below hbw)
        have K112 := Lib.hid (K111.out.below hbw)
        have K312 := Lib.hid (K311.out.below hbw)
        have U12 := Lib.hid (U11.out.below hbw)
        clear L11 T11 K111 K311 U11
        clear hbw
        dsimp only
        have HK' : ∀ wz : World, wz = (w5.alloc (.cells #[.int .i64 kz, .int .i64 (enz : Nat), .string lbz, .slice A4 Fz.length c4] 31)).alloc (.cells #[.int .i64 (dpz : Nat), .int .i64 (stz : Nat)] 32) → Hid (Below w5.heap.size w5 wz ∧ KA wz w5.heap.size wm.heap.size w5.heap.size kz enz lbz (.slice A4 Fz.length c4) dpz stz Fz) := by
          rintro wz rfl
          exact ⟨two_below w5 kz enz lbz (.slice A4 Fz.length c4) dpz stz, KA.start hown4⟩
        have o0 : ((w5.alloc (.cells #[.int .i64 kz, .int .i64 (enz : Nat), .string lbz, .slice A4 Fz.length c4] 31)).alloc (.cells #[.int .i64 (dpz : Nat), .int .i64 (stz : Nat)] 32)).cell? ⟨nb, 0, none⟩ = some (.slice (some ⟨br2, 0, none⟩) rs.length (rs.length + 1)) := (U12.out.below (HK' _ rfl).out.1).box.cell 0
        have o1 : ((w5.alloc (.cells #[.int .i64 kz, .int .i64 (enz : Nat), .string lbz, .slice A4 Fz.length c4] 31)).alloc (.cells #[.int .i64 (dpz : Nat), .int .i64 (stz : Nat)] 32)).cell? ⟨nb, 1, none⟩ = some (.int .i64 start) := (U12.out.below (HK' _ rfl).out.1).box.cell 1
        have d0 : ((w5.alloc (.cells #[.int .i64 kz, .int .i64 (enz : Nat), .string lbz, .slice A4 Fz.length c4] 31)).alloc (.cells #[.int .i64 (dpz : Nat), .int .i64 (stz : Nat)] 32)).cell? ⟨w.heap.size + 1 + 1, 0, none⟩ = some (.int .i64 D) := (L12.out.below (HK' _ rfl).out.1).b1.cell 0
        have d1 : ((w5.alloc (.cells #[.int .i64 kz, .int .i64 (enz : Nat), .string lbz, .slice A4 Fz.length c4] 31)).alloc (.cells #[.int .i64 (dpz : Nat), .int .i64 (stz : Nat)] 32)).cell? ⟨w.heap.size + 1 + 1, 1, none⟩ = some (.int .i64 S) := (L12.out.below (HK' _ rfl).out.1).b1.cell 1
        go_wp2_with (fail)
        clear hown4 o0 o1 d0 d1
        generalize hw6 : (w5.alloc (.cells #[.int .i64 kz, .int .i64 (enz : Nat), .string lbz, .slice A4 Fz.length c4] 31)).alloc (.cells #[.int .i64 (dpz : Nat), .int .i64 (stz : Nat)] 32) = w6
        have HKK := HK' w6 hw6.symm
        clear HK' hw6
        have L13 := Lib.hid (L12.out.below HKK.out.1)
        have T13 := Lib.hid (T12.out.below HKK.out.1)
        have K113 := Lib.hid (K112.out.below HKK.out.1)
        have K313 := Lib.hid (K312.out.below HKK.out.1)
        have U13 := Lib.hid (U12.out.below HKK.out.1)
        clear L12 T12 K112 K312 U12
        have K413 := Lib.hid HKK.out.2
        clear HKK
        generalize hb4 : w5.heap.size = b4 at *
        generalize hl4 : wm.heap.size = lo4 at *
        clear hb4 hl4
        refine (rrun.callsN (some ⟨br2, 0, none⟩) (rs.length + 1) start T rs.length inp D S w6 HTL.out U13.out.c (by omega) (fun x hx => (HTF.out x hx).2)).mono ?_
        rintro e w7 hans
        obtain ⟨A5, c5, rfl, hbw, hown5⟩ := RunAns.at HQz.out.1 HQz.out.2 hans
        clear hans
        have L14 := Lib.hid (L13.out.below hbw)
        have T14 := Lib.hid (T13.out.below hbw)
        have K114 := Lib.hid (K113.out.below hbw)
        have K314 := Lib.hid (K313.out.below hbw)
        have U14 := Lib.hid (U13.out.below hbw)
        have K414 := Lib.hid (K413.out.below hbw)
        clear L13 T13 K113 K313 U13 K413
        clear hbw
        dsimp only
        have HK' : ∀ wz : World, wz = (w7.alloc (.cells #[.int .i64 kz, .int .i64 (enz : Nat), .string lbz, .slice A5 Fz.length c5] 31)).alloc (.cells #[.int .i64 (dpz : Nat), .int .i64 (stz : Nat)] 32) → Hid (Below w7.heap.size w7 wz ∧ KA wz w7.heap.size w6.heap.size w7.heap.size kz enz lbz (.slice A5 Fz.length c5) dpz stz Fz) := by
          rintro wz rfl
          exact ⟨two_below w7 kz enz lbz (.slice A5 Fz.length c5) dpz stz, KA.start hown5⟩
        have u40 : ((w7.alloc (.cells #[.int .i64 kz, .int .i64 (enz : Nat), .string lbz, .slice A5 Fz.length c5] 31)).alloc (.cells #[.int .i64 (dpz : Nat), .int .i64 (stz : Nat)] 32)).cell? ⟨b4 + 1, 0, none⟩ = some (.int .i64 (dpz : Nat)) := (K414.out.below (HK' _ rfl).out.1).u.cell 0
        have u41 : ((w7.alloc (.cells #[.int .i64 kz, .int .i64 (enz : Nat), .string lbz, .slice A5 Fz.length c5] 31)).alloc (.cells #[.int .i64 (dpz : Nat), .int .i64 (stz : Nat)] 32)).cell? ⟨b4 + 1, 1, none⟩ = some (.int .i64 (stz : Nat)) := (K414.out.below (HK' _ rfl).out.1).u.cell 1
        have x40 : ((w7.alloc (.cells #[.int .i64 kz, .int .i64 (enz : Nat), .string lbz, .slice A5 Fz.length c5] 31)).alloc (.cells #[.int .i64 (dpz : Nat), .int .i64 (stz : Nat)] 32)).cell? ⟨b4, 0, none⟩ = some (.int .i64 kz) := (K414.out.below (HK' _ rfl).out.1).c.cell 0
        have x41 : ((w7.alloc (.cells #[.int .i64 kz, .int .i64 (enz : Nat), .string lbz, .slice A5 Fz.length c5] 31)).alloc (.cells #[.int .i64 (dpz : Nat), .int .i64 (stz : Nat)] 32)).cell? ⟨b4, 1, none⟩ = some (.int .i64 (enz : Nat)) := (K414.out.below (HK' _ rfl).out.1).c.cell 1
        have x42 : ((w7.alloc (.cells #[.int .i64 kz, .int .i64 (enz : Nat), .string lbz, .slice A5 Fz.length c5] 31)).alloc (.cells #[.int .i64 (dpz : Nat), .int .i64 (stz : Nat)] 32)).cell? ⟨b4, 2, none⟩ = some (.string lbz) := (K414.out.below (HK' _ rfl).out.1).c.cell 2
        have x43 : ((w7.alloc (.cells #[.int .i64 kz, .int .i64 (enz : Nat), .string lbz, .slice A5 Fz.length c5] 31)).alloc (.cells #[.int .i64 (dpz : Nat), .int .i64 (stz : Nat)] 32)).cell? ⟨b4, 3, none⟩ = some (.slice A4 Fz.length c4) := (K414.out.below (HK' _ rfl).out.1).c.cell 3
        have u50 : ((w7.alloc (.cells #[.int .i64 kz, .int .i64 (enz : Nat), .string lbz, .slice A5 Fz.length c5] 31)).alloc (.cells #[.int .i64 (dpz : Nat), .int .i64 (stz : Nat)] 32)).cell? ⟨w7.heap.size + 1, 0, none⟩ = some (.int .i64 (dpz : Nat)) := (HK' _ rfl).out.2.u.cell 0
        have u51 : ((w7.alloc (.cells #[.int .i64 kz, .int .i64 (enz : Nat), .string lbz, .slice A5 Fz.length c5] 31)).alloc (.cells #[.int .i64 (dpz : Nat), .int .i64 (stz : Nat)] 32)).cell? ⟨w7.heap.size + 1, 1, none⟩ = some (.int .i64 (stz : Nat)) := (HK' _ rfl).out.2.u.cell 1
        have x50 : ((w7.alloc (.cells #[.int .i64 kz, .int .i64 (enz : Nat), .string lbz, .slice A5 Fz.length c5] 31)).alloc (.cells #[.int .i64 (dpz : Nat), .int .i64 (stz : Nat)] 32)).cell? ⟨w7.heap.size, 0, none⟩ = some (.int .i64 kz) := (HK' _ rfl).out.2.c.cell 0
        have x51 : ((w7.alloc (.cells #[.int .i64 kz, .int .i64 (enz : Nat), .string lbz, .slice A5 Fz.length c5] 31)).alloc (.cells #[.int .i64 (dpz : Nat), .int .i64 (stz : Nat)] 32)).cell? ⟨w7.heap.size, 1, none⟩ = some (.int .i64 (enz : Nat)) := (HK' _ rfl).out.2.c.cell 1
        have x52 : ((w7.alloc (.cells #[.int .i64 kz, .int .i64 (enz : Nat), .string lbz, .slice A5 Fz.length c5] 31)).alloc (.cells #[.int .i64 (dpz : Nat), .int .i64 (stz : Nat)] 32)).cell? ⟨w7.heap.size, 2, none⟩ = some (.string lbz) := (HK' _ rfl).out.2.c.cell 2
        have x53 : ((w7.alloc (.cells #[.int .i64 kz, .int .i64 (enz : Nat), .string lbz, .slice A5 Fz.length c5] 31)).alloc (.cells #[.int .i64 (dpz : Nat), .int .i64 (stz : Nat)] 32)).cell? ⟨w7.heap.size, 3, none⟩ = some (.slice A5 Fz.length c5) := (HK' _ rfl).out.2.c.cell 3
        go_wp2_with (fail)
        clear hown5 u40 u41 x40 x41 x42 x43 u50 u51 x50 x51 x52 x53
        generalize hw8 : (w7.alloc (.cells #[.int .i64 kz, .int .i64 (enz : Nat), .string lbz, .slice A5 Fz.length c5] 31)).alloc (.cells #[.int .i64 (dpz : Nat), .int .i64 (stz : Nat)] 32) = w8
        have HKK := HK' w8 hw8.symm
        clear HK' hw8
        have L15 := Lib.hid (L14.out.below HKK.out.1)
        have T15 := Lib.hid (T14.out.below HKK.out.1)
        have K115 := Lib.hid (K114.out.below HKK.out.1)
        have K315 := Lib.hid (K314.out.below HKK.out.1)
        have U15 := Lib.hid (U14.out.below HKK.out.1)
        have K415 := Lib.hid (K414.out.below HKK.out.1)
        clear L14 T14 K114 K314 U14 K414
        have K515 := Lib.hid HKK.out.2
        clear HKK
        generalize hb5 : w7.heap.size = b5 at *
        generalize hl5 : w6.heap.size = lo5 at *
        clear hb5 hl5
        refine (outcomes.calls A4 A5 c4 c5 kz enz lbz Fz lo4 lo5 w8 K415.out.own K515.out.own (Nat.le_trans HQLz.out (by decide))).mono ?_
        rintro e w9 ⟨rfl, hbw⟩
        have L16 := Lib.hid (L15.out.below hbw)
        have T16 := Lib.hid (T15.out.below hbw)
        have K116 := Lib.hid (K115.out.below hbw)
        have K316 := Lib.hid (K315.out.below hbw)
        have U16 := Lib.hid (U15.out.below hbw)
        have K416 := Lib.hid (K415.out.below hbw)
        have K516 := Lib.hid (K515.out.below hbw)
        clear L15 T15 K115 K315 U15 K415 K515
        clear hbw
        dsimp only
        have x10 : w9.cell? ⟨b1, 0, none⟩ = some (.int .i64 k) := K116.out.c.cell 0
        have x11 : w9.cell? ⟨b1, 1, none⟩ = some (.int .i64 (en : Nat)) := K116.out.c.cell 1
        have x12 : w9.cell? ⟨b1, 2, none⟩ = some (.string lb) := K116.out.c.cell 2
        have x13 : w9.cell? ⟨b1, 3, none⟩ = some (.slice A1 F.length c1) := K116.out.c.cell 3
        have x30 : w9.cell? ⟨b3, 0, none⟩ = some (.int .i64 k) := K316.out.c.cell 0
        have x31 : w9.cell? ⟨b3, 1, none⟩ = some (.int .i64 (en : Nat)) := K316.out.c.cell 1
        have x32 : w9.cell? ⟨b3, 2, none⟩ = some (.string lb) := K316.out.c.cell 2
        have x33 : w9.cell? ⟨b3, 3, none⟩ = some (.slice A3 F.length c3) := K316.out.c.cell 3
        go_wp2_with (fail)
        clear x10 x11 x12 x13 x30 x31 x32 x33
        refine (outcomes.calls A1 A3 c1 c3 k en lb F lo1 lo3 w9 K116.out.own K316.out.own (Nat.le_trans HQL.out (by decide))).mono ?_
        rintro e w10 ⟨rfl, hbw⟩
        have L17 := Lib.hid (L16.out.below hbw)
        have T17 := Lib.hid (T16.out.below hbw)
        have K117 := Lib.hid (K116.out.below hbw)
        have K317 := Lib.hid (K316.out.below hbw)
        have U17 := Lib.hid (U16.out.below hbw)
        have K417 := Lib.hid (K416.out.below hbw)
        have K517 := Lib.hid (K516.out.below hbw)
        clear L16 T16 K116 K316 U16 K416 K516
        clear hbw
        dsimp only
        go_wp2
        go_ret
        exact ⟨rfl, L17.out.bel⟩
end Go.Proofs.Ytmpkkphohilkoaa.B
