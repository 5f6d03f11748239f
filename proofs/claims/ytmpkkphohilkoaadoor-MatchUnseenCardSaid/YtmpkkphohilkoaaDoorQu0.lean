/- Texts joined and shortened (wip/tools/shrink.py): Ev, Lay, Sim, Uns, Shift. -/
/- Core grammars, evaluated step by step: what both evaluations compute, in plain Lean. -/
namespace Go.Ma

structure Cls where
  c0 : Int
  c1 : Int
  c2 : Int
  c3 : Int
structure Cap where
  nm : ByteArray
  fr : Int
  to : Int
  kids : Int
/-- A node with its parts. -/
inductive T where
  | emp | set (c : Cls) | rule (n : Nat) | thr (s : ByteArray) | seq (a b : T) | alt (a b : T) | star (a : T) | not (a : T) | cap (nm : ByteArray) (a : T)
structure St where
  steps : Nat
  depth : Nat
  err : Int
structure Res where
  kind : Int
  en : Nat
  label : ByteArray
  forest : List Cap
  trees : Nat
structure Lim where
  depth : Nat
  steps : Nat
def Res.zero : Res := ⟨0, 0, ⟨#[]⟩, [], 0⟩
def Res.mat (p : Nat) : Res := ⟨1, p, ⟨#[]⟩, [], 0⟩
/-- What the evaluation is of: the rules' trees, and which byte at which place is in which class. -/
structure Env where
  rules : Nat → T
  len : Nat
  has : Cls → Nat → Bool
/-- Is a limit passed? -/
def stop (l : Lim) (d : Nat) (s : St) : Bool := decide (s.err ≠ 0 ∨ l.depth < d ∨ l.steps ≤ s.steps)
/-- The state behind a limit that is passed. -/
def halt (l : Lim) (d : Nat) (s : St) : St := if s.err ≠ 0 then s else if l.depth < d then { s with err := 3 } else { s with err := 4 }
def tick (d : Nat) (s : St) : St := ⟨s.steps + 1, max s.depth d, s.err⟩
mutual
def ev (e : Env) (l : Lim) : Nat → T → Nat → Nat → St → Res × St
  | 0, _, _, _, s => (.zero, s)
  | f + 1, t, p, d, s =>
    if stop l d s = true then (.zero, halt l d s) else
    match t with
    | .emp => (.mat p, tick d s)
    | .set c => (if p < e.len ∧ e.has c p = true then .mat (p + 1) else .zero, tick d s)
    | .rule n => ev e l f (e.rules n) p (d + 1) (tick d s)
    | .thr x => (⟨2, p, x, [], 0⟩, tick d s)
    | .seq a b =>
      let x := ev e l f a p (d + 1) (tick d s)
      if x.1.kind ≠ 1 then x else
      let y := ev e l f b x.1.en (d + 1) x.2
      if y.1.kind = 1 then ({ y.1 with forest := x.1.forest ++ y.1.forest, trees := y.1.trees + x.1.trees }, y.2) else y
    | .alt a b =>
      let x := ev e l f a p (d + 1) (tick d s)
      if x.1.kind ≠ 0 then x else ev e l f b p (d + 1) x.2
    | .star a => lp e l f a p [] 0 d (tick d s)
    | .not a =>
      let x := ev e l f a p (d + 1) (tick d s)
      (if x.1.kind = 1 then .zero else .mat p, x.2)
    | .cap nm a =>
      let x := ev e l f a p (d + 1) (tick d s)
      if x.1.kind ≠ 1 then x else ({ x.1 with forest := ⟨nm, p, x.1.en, x.1.trees⟩ :: x.1.forest, trees := 1 }, x.2)
/-- A star's rounds: where it stands, its forest. -/
def lp (e : Env) (l : Lim) : Nat → T → Nat → List Cap → Nat → Nat → St → Res × St
  | 0, _, _, _, _, _, s => (.zero, s)
  | f + 1, a, q, fo, tr, d, s =>
    if s.err ≠ 0 then (.zero, s) else
    let x := ev e l f a q (d + 1) s
    if x.1.kind = 0 then (⟨1, q, ⟨#[]⟩, fo, tr⟩, x.2) else if x.1.kind = 2 then x else lp e l f a x.1.en (fo ++ x.1.forest) (tr + x.1.trees) d x.2
end
/-- Going through a forest: how many trees were counted, and how many nodes are still to come as kids. -/
def rt : List Cap → Int → Int → Int × Int
  | [], n, k => (n, k)
  | c :: r, n, k => if k = 0 then rt r (n + 1) (k + c.kids) else rt r n (k - 1 + c.kids)
theorem rt_append (F G : List Cap) (n k : Int) : rt (F ++ G) n k = rt G (rt F n k).1 (rt F n k).2 := by
  induction F generalizing n k with
  | nil => rfl
  | cons c r ih =>
    rw [List.cons_append, rt, rt]
    split
    · exact ih _ _
    · exact ih _ _
/-- A forest of t trees. -/
def WF (F : List Cap) (t : Nat) : Prop := ∀ n k : Int, 0 ≤ k → rt F n k = if (t : Int) ≤ k then (n, k - t) else (n + (t - k), 0)
theorem WF.nil : WF [] 0 := fun n k hk => by
  rw [rt, if_pos (by omega)]
  simp
theorem WF.append {F G : List Cap} {t u : Nat} (h : WF F t) (g : WF G u) : WF (F ++ G) (t + u) := fun n k hk => by
  rw [rt_append, h n k hk]
  by_cases h1 : (t : Int) ≤ k
  · rw [if_pos h1, g _ _ (by simp only; omega)]
    simp only
    by_cases h2 : (u : Int) ≤ k - t
    · rw [if_pos h2, if_pos (by omega)]
      congr 1
      omega
    · rw [if_neg h2, if_neg (by omega)]
      congr 1
      omega
  · rw [if_neg h1, g _ _ (by simp only; omega)]
    simp only
    by_cases h2 : (u : Int) ≤ 0
    · rw [if_pos h2]
      by_cases h3 : ((t + u : Nat) : Int) ≤ k
      · omega
      · rw [if_neg h3]
        congr 1
        · omega
        · omega
    · rw [if_neg h2, if_neg (by omega)]
      congr 1
      omega
theorem WF.cap {F : List Cap} {t : Nat} (h : WF F t) (nm : ByteArray) (a b : Int) : WF (⟨nm, a, b, (t : Int)⟩ :: F) 1 := fun n k hk => by
  rw [rt]
  simp only
  by_cases h0 : k = 0
  · subst h0
    rw [if_pos rfl, h _ _ (by omega), if_pos (by omega), if_neg (by omega)]
    congr 1
    omega
  · rw [if_neg h0, h _ _ (by omega), if_pos (by omega), if_pos (by omega)]
    congr 1
    omega
section
variable (e : Env) (l : Lim) {f : Nat} {p d : Nat} {s : St}
theorem ev_stop (t : T) (h : stop l d s = true) : ev e l (f + 1) t p d s = (.zero, halt l d s) := by
  rw [ev.eq_def]
  simp only [h, if_true]
theorem ev_emp (h : ¬ stop l d s = true) : ev e l (f + 1) .emp p d s = (.mat p, tick d s) := by
  rw [ev.eq_def]
  simp only [if_neg h]
theorem ev_set (c : Cls) (h : ¬ stop l d s = true) : ev e l (f + 1) (.set c) p d s = (if p < e.len ∧ e.has c p = true then .mat (p + 1) else .zero, tick d s) := by
  rw [ev.eq_def]
  simp only [if_neg h]
theorem ev_rule (n : Nat) (h : ¬ stop l d s = true) : ev e l (f + 1) (.rule n) p d s = ev e l f (e.rules n) p (d + 1) (tick d s) := by
  rw [ev.eq_def]
  simp only [if_neg h]
theorem ev_thr (x : ByteArray) (h : ¬ stop l d s = true) : ev e l (f + 1) (.thr x) p d s = (⟨2, p, x, [], 0⟩, tick d s) := by
  rw [ev.eq_def]
  simp only [if_neg h]
theorem ev_seq (a b : T) (h : ¬ stop l d s = true) : ev e l (f + 1) (.seq a b) p d s =
    if (ev e l f a p (d + 1) (tick d s)).1.kind ≠ 1 then ev e l f a p (d + 1) (tick d s) else
    if (ev e l f b (ev e l f a p (d + 1) (tick d s)).1.en (d + 1) (ev e l f a p (d + 1) (tick d s)).2).1.kind = 1 then
      ({ (ev e l f b (ev e l f a p (d + 1) (tick d s)).1.en (d + 1) (ev e l f a p (d + 1) (tick d s)).2).1 with
        forest := (ev e l f a p (d + 1) (tick d s)).1.forest ++ (ev e l f b (ev e l f a p (d + 1) (tick d s)).1.en (d + 1) (ev e l f a p (d + 1) (tick d s)).2).1.forest,
        trees := (ev e l f b (ev e l f a p (d + 1) (tick d s)).1.en (d + 1) (ev e l f a p (d + 1) (tick d s)).2).1.trees + (ev e l f a p (d + 1) (tick d s)).1.trees },
        (ev e l f b (ev e l f a p (d + 1) (tick d s)).1.en (d + 1) (ev e l f a p (d + 1) (tick d s)).2).2)
    else ev e l f b (ev e l f a p (d + 1) (tick d s)).1.en (d + 1) (ev e l f a p (d + 1) (tick d s)).2 := by
  rw [ev.eq_def]
  simp only [if_neg h]
theorem ev_alt (a b : T) (h : ¬ stop l d s = true) : ev e l (f + 1) (.alt a b) p d s =
    if (ev e l f a p (d + 1) (tick d s)).1.kind ≠ 0 then ev e l f a p (d + 1) (tick d s) else ev e l f b p (d + 1) (ev e l f a p (d + 1) (tick d s)).2 := by
  rw [ev.eq_def]
  simp only [if_neg h]
theorem ev_star (a : T) (h : ¬ stop l d s = true) : ev e l (f + 1) (.star a) p d s = lp e l f a p [] 0 d (tick d s) := by
  rw [ev.eq_def]
  simp only [if_neg h]
theorem ev_not (a : T) (h : ¬ stop l d s = true) : ev e l (f + 1) (.not a) p d s = (if (ev e l f a p (d + 1) (tick d s)).1.kind = 1 then .zero else .mat p, (ev e l f a p (d + 1) (tick d s)).2) := by
  rw [ev.eq_def]
  simp only [if_neg h]
theorem ev_cap (nm : ByteArray) (a : T) (h : ¬ stop l d s = true) : ev e l (f + 1) (.cap nm a) p d s =
    if (ev e l f a p (d + 1) (tick d s)).1.kind ≠ 1 then ev e l f a p (d + 1) (tick d s) else
      ({ (ev e l f a p (d + 1) (tick d s)).1 with forest := ⟨nm, p, (ev e l f a p (d + 1) (tick d s)).1.en, (ev e l f a p (d + 1) (tick d s)).1.trees⟩ :: (ev e l f a p (d + 1) (tick d s)).1.forest, trees := 1 }, (ev e l f a p (d + 1) (tick d s)).2) := by
  rw [ev.eq_def]
  simp only [if_neg h]
theorem lp_err (a : T) (q : Nat) (fo : List Cap) (tr : Nat) (h : s.err ≠ 0) : lp e l (f + 1) a q fo tr d s = (.zero, s) := by
  rw [lp]
  simp only [if_pos h]
theorem lp_go (a : T) (q : Nat) (fo : List Cap) (tr : Nat) (h : s.err = 0) : lp e l (f + 1) a q fo tr d s =
    if (ev e l f a q (d + 1) s).1.kind = 0 then (⟨1, q, ⟨#[]⟩, fo, tr⟩, (ev e l f a q (d + 1) s).2) else if (ev e l f a q (d + 1) s).1.kind = 2 then ev e l f a q (d + 1) s else
      lp e l f a (ev e l f a q (d + 1) s).1.en (fo ++ (ev e l f a q (d + 1) s).1.forest) (tr + (ev e l f a q (d + 1) s).1.trees) d (ev e l f a q (d + 1) s).2 := by
  rw [lp]
  simp only [if_neg (show ¬ s.err ≠ 0 by simp [h])]
end
/-- What holds of every outcome: bounds, and that its forest is as many trees as it says. -/
structure OK (e : Env) (l : Lim) (p : Nat) (s : St) (x : Res × St) : Prop where
  steps : s.steps ≤ x.2.steps
  max : s.steps ≤ l.steps → x.2.steps ≤ l.steps
  deep : s.depth ≤ l.depth → x.2.depth ≤ l.depth
  few : x.1.forest.length + s.steps ≤ x.2.steps
  tr : x.1.trees ≤ x.1.forest.length
  wf : WF x.1.forest x.1.trees
  en : p ≤ e.len → x.1.en ≤ e.len
  kind : x.1.kind = 0 ∨ x.1.kind = 1 ∨ x.1.kind = 2
  more : x.2.err = 0 → s.steps < x.2.steps ∧ s.steps < l.steps
theorem halt_same (l : Lim) (d : Nat) (s : St) : (halt l d s).steps = s.steps ∧ (halt l d s).depth = s.depth := by
  unfold halt
  split
  · exact ⟨rfl, rfl⟩
  · split <;> exact ⟨rfl, rfl⟩
theorem halt_err {l : Lim} {d : Nat} {s : St} : (halt l d s).err ≠ 0 := by
  unfold halt
  split
  · assumption
  · split <;> simp
theorem zero_ok (e : Env) (l : Lim) (d p : Nat) (s : St) : OK e l p s (.zero, halt l d s) := by
  have h1 := halt_same l d s
  refine ⟨by simp only; omega, by simp only; omega, by simp only; omega, ?_, Nat.le_refl _, WF.nil, fun _ => Nat.zero_le _, .inl rfl, fun h0 => absurd h0 halt_err⟩
  simp only [Res.zero, List.length_nil]; omega
theorem go_on {l : Lim} {d : Nat} {s : St} (h : ¬ stop l d s = true) : s.err = 0 ∧ d ≤ l.depth ∧ s.steps < l.steps := by
  rw [stop, decide_eq_true_iff] at h
  omega
/-- A step more, ahead of what comes. -/
theorem OK.tick {e : Env} {l : Lim} {d p : Nat} {s : St} {x : Res × St} (h : ¬ stop l d s = true) (hx : OK e l p (tick d s) x) : OK e l p s x := by
  obtain ⟨h1, h2, h3⟩ := go_on h
  obtain ⟨a1, a2, a3, a4, a5, a6, a7, a8, a9⟩ := hx
  simp only [Ma.tick] at a1 a2 a3 a4 a9
  exact ⟨by omega, fun _ => a2 (by omega), fun hd => a3 (by omega), by omega, a5, a6, a7, a8, fun _ => ⟨by omega, h3⟩⟩
theorem flat_ok (e : Env) (l : Lim) (d p : Nat) (s : St) (r : Res) (h : ¬ stop l d s = true) (hf : r.forest = []) (ht : r.trees = 0) (he : p ≤ e.len → r.en ≤ e.len) (hk : r.kind = 0 ∨ r.kind = 1 ∨ r.kind = 2) : OK e l p s (r, tick d s) := by
  obtain ⟨h1, h2, h3⟩ := go_on h
  refine ⟨by simp [Ma.tick], fun _ => by simp [Ma.tick]; omega, fun _ => by simp [Ma.tick]; omega, by simp [Ma.tick, hf], by simp [ht], ?_, he, hk, fun _ => ⟨by simp [Ma.tick], h3⟩⟩
  rw [hf, ht]
  exact WF.nil
/-- One outcome behind another. -/
theorem OK.trans {e : Env} {l : Lim} {p q : Nat} {s : St} {x y : Res × St} (hx : OK e l p s x) (hq : p ≤ e.len → q ≤ e.len) (hy : OK e l q x.2 y) : OK e l p s y :=
  ⟨Nat.le_trans hx.steps hy.steps, fun h => hy.max (hx.max h), fun h => hy.deep (hx.deep h), by have := hx.steps; have := hy.few; omega, hy.tr, hy.wf, fun h => hy.en (hq h), hy.kind, fun h => by have := hy.more h; have := hx.steps; omega⟩
mutual
theorem ev_ok (e : Env) (l : Lim) : ∀ (f : Nat) (t : T) (p d : Nat) (s : St), 2 * (l.steps - s.steps) + 1 ≤ f → OK e l p s (ev e l f t p d s)
  | 0, _, _, _, _, h => by omega
  | f + 1, t, p, d, s, h => by
    by_cases hs : stop l d s = true
    · rw [ev_stop e l t hs]
      exact zero_ok e l d p s
    · obtain ⟨g1, g2, g3⟩ := go_on hs
      have IH : ∀ a q, OK e l q (tick d s) (ev e l f a q (d + 1) (tick d s)) := fun a q => ev_ok e l f a q (d + 1) (tick d s) (by simp only [tick]; omega)
      have IH2 : ∀ a b q q', OK e l q' (ev e l f a q (d + 1) (tick d s)).2 (ev e l f b q' (d + 1) (ev e l f a q (d + 1) (tick d s)).2) := fun a b q q' => ev_ok e l f b q' (d + 1) _ (by
        have := (IH a q).steps
        simp only [tick] at this ⊢
        omega)
      match t with
      | .emp =>
        rw [ev_emp e l hs]
        exact flat_ok e l d p s _ hs rfl rfl (fun h => h) (.inr (.inl rfl))
      | .set c =>
        rw [ev_set e l c hs]
        split
        · rename_i hh
          exact flat_ok e l d p s _ hs rfl rfl (fun _ => hh.1) (.inr (.inl rfl))
        · exact flat_ok e l d p s _ hs rfl rfl (fun _ => Nat.zero_le _) (.inl rfl)
      | .rule n =>
        rw [ev_rule e l n hs]
        exact OK.tick hs (IH _ _)
      | .thr x =>
        rw [ev_thr e l x hs]
        exact flat_ok e l d p s _ hs rfl rfl (fun h => h) (.inr (.inr rfl))
      | .seq a b =>
        rw [ev_seq e l a b hs]
        have hx := IH a p
        have hy := IH2 a b p (ev e l f a p (d + 1) (tick d s)).1.en
        refine OK.tick hs ?_
        generalize ev e l f a p (d + 1) (tick d s) = x at *
        generalize ev e l f b x.1.en (d + 1) x.2 = y at *
        split
        · exact hx
        · split
          · have ht := hx.trans hx.en hy
            refine ⟨ht.steps, ht.max, ht.deep, ?_, ?_, ?_, ht.en, ht.kind, ht.more⟩
            · have := hx.few; have := hy.few; simp only [List.length_append]; omega
            · have := hx.tr; have := hy.tr; simp only [List.length_append]; omega
            · show WF (x.1.forest ++ y.1.forest) (y.1.trees + x.1.trees)
              rw [Nat.add_comm]
              exact hx.wf.append hy.wf
          · exact hx.trans hx.en hy
      | .alt a b =>
        rw [ev_alt e l a b hs]
        refine OK.tick hs ?_
        split
        · exact IH a p
        · exact (IH a p).trans (fun h => h) (IH2 a b p p)
      | .star a =>
        rw [ev_star e l a hs]
        exact lp_ok e l f a p [] 0 d (tick d s) s (by simp only [tick]; omega) (by simp [tick]) (by simp [tick]) (Nat.le_refl _) WF.nil (fun _ => by simp only [tick]; omega) (fun h => by simp only [tick]; omega)
      | .not a =>
        rw [ev_not e l a hs]
        have hx := OK.tick hs (IH a p)
        generalize ev e l f a p (d + 1) (tick d s) = x at *
        split
        · exact ⟨hx.steps, hx.max, hx.deep, by simp only [Res.zero, List.length_nil]; have := hx.steps; omega, Nat.le_refl _, WF.nil, fun _ => Nat.zero_le _, .inl rfl, hx.more⟩
        · exact ⟨hx.steps, hx.max, hx.deep, by simp only [Res.mat, List.length_nil]; have := hx.steps; omega, Nat.le_refl _, WF.nil, fun h => h, .inr (.inl rfl), hx.more⟩
      | .cap nm a =>
        rw [ev_cap e l nm a hs]
        have hx := IH a p
        have hs' := hx.few
        generalize ev e l f a p (d + 1) (tick d s) = x at *
        split
        · exact OK.tick hs hx
        · have ht := OK.tick hs hx
          refine ⟨ht.steps, ht.max, ht.deep, ?_, ?_, hx.wf.cap _ _ _, ht.en, ht.kind, ht.more⟩
          · simp only [tick, List.length_cons] at *; omega
          · simp
theorem lp_ok (e : Env) (l : Lim) : ∀ (f : Nat) (a : T) (q : Nat) (fo : List Cap) (tr : Nat) (d : Nat) (s s0 : St), 2 * (l.steps - s.steps) + 2 ≤ f → s0.steps ≤ s.steps → fo.length + s0.steps ≤ s.steps → tr ≤ fo.length → WF fo tr → (s0.steps ≤ l.steps → s.steps ≤ l.steps) → (s0.depth ≤ l.depth → s.depth ≤ l.depth) →
    OK e l q s0 (lp e l f a q fo tr d s)
  | 0, _, _, _, _, _, _, _, h, _, _, _, _, _, _ => by omega
  | f + 1, a, q, fo, tr, d, s, s0, h, h1, h2, h3, h4, h5, h6 => by
    by_cases he : s.err = 0
    · rw [lp_go e l a q fo tr he]
      have hx := ev_ok e l f a q (d + 1) s (by omega)
      split
      · exact ⟨Nat.le_trans h1 hx.steps, fun h => hx.max (h5 h), fun h => hx.deep (h6 h), by have := hx.steps; simp only; omega, h3, h4, fun h => h, .inr (.inl rfl), fun h => by have := hx.more h; simp only; omega⟩
      · split
        · exact ⟨Nat.le_trans h1 hx.steps, fun h => hx.max (h5 h), fun h => hx.deep (h6 h), by have := hx.few; omega, hx.tr, hx.wf, hx.en, hx.kind, fun h => by have := hx.more h; omega⟩
        · generalize ev e l f a q (d + 1) s = x at *
          by_cases hxe : x.2.err = 0
          · have hm := hx.more hxe
            have := lp_ok e l f a x.1.en (fo ++ x.1.forest) (tr + x.1.trees) d x.2 s0 (by omega) (by omega) (by have := hx.few; rw [List.length_append]; omega) (by have := hx.tr; rw [List.length_append]; omega) (h4.append hx.wf) (fun h => hx.max (h5 h)) (fun h => hx.deep (h6 h))
            exact ⟨this.steps, this.max, this.deep, this.few, this.tr, this.wf, fun h => this.en (hx.en h), this.kind, this.more⟩
          · obtain ⟨f', rfl⟩ : ∃ f', f = f' + 1 := ⟨f - 1, by omega⟩
            rw [lp_err e l a _ _ _ hxe]
            exact ⟨Nat.le_trans h1 hx.steps, fun h => hx.max (h5 h), fun h => hx.deep (h6 h), by have := hx.steps; simp only [Res.zero, List.length_nil]; omega, Nat.le_refl _, WF.nil, fun _ => Nat.zero_le _, .inl rfl, fun h => absurd h hxe⟩
    · rw [lp_err e l a q fo tr he]
      exact ⟨h1, h5, h6, by simp only [Res.zero, List.length_nil]; omega, Nat.le_refl _, WF.nil, fun _ => Nat.zero_le _, .inl rfl, fun h => absurd h he⟩
end
end Go.Ma
/- Bodies of core grammars: laid as trees by a stack, and their parts by places; in plain Lean. -/
namespace Go.Ma

structure CN where
  op : Int
  cls : Cls
  rule : Int
  nm : ByteArray
def zCN : CN := ⟨0, ⟨0, 0, 0, 0⟩, 0, ⟨#[]⟩⟩
/-- How many parts. -/
def ar (op : Int) : Nat := if op = 4 ∨ op = 5 then 2 else if op = 6 ∨ op = 7 ∨ op = 8 then 1 else 0
def mk (n : CN) (a b : T) : T :=
  if n.op = 0 then .emp else if n.op = 1 then .set n.cls else if n.op = 2 then .rule n.rule.toNat else if n.op = 3 then .thr n.nm else
  if n.op = 4 then .seq a b else if n.op = 5 then .alt a b else if n.op = 6 then .star a else if n.op = 7 then .not a else .cap n.nm a
def hd : List T → T
  | [] => .emp
  | x :: _ => x
/-- A node is laid upon the stack of trees (its top first). -/
def push (st : List T) (n : CN) : List T :=
  if ar n.op = 2 then mk n (hd (st.drop 1)) (hd st) :: st.drop 2 else if ar n.op = 1 then mk n (hd st) .emp :: st.drop 1 else mk n .emp .emp :: st
def cn (b : List CN) (i : Nat) : CN := b.getD i zCN
/-- The stack of trees behind i nodes. -/
def tstk (b : List CN) : Nat → List T
  | 0 => []
  | i + 1 => push (tstk b i) (cn b i)
/-- The stack of places behind i nodes. -/
def istk (b : List CN) : Nat → List Nat
  | 0 => []
  | i + 1 => i :: (istk b i).drop (ar (cn b i).op)
/-- The tree of the i-th node. -/
def tr (b : List CN) (i : Nat) : T := hd (tstk b (i + 1))
/-- No node has more parts than there are, up to the i-th. -/
def fits (b : List CN) (i : Nat) : Prop := ∀ j, j < i → ar (cn b j).op ≤ (istk b j).length
theorem fits.low {b : List CN} {i j : Nat} (h : fits b i) (hj : j ≤ i) : fits b j := fun k hk => h k (by omega)
theorem tstk_istk {b : List CN} : ∀ {i : Nat}, fits b i → tstk b i = (istk b i).map (tr b)
  | 0, _ => rfl
  | i + 1, h => by
    have ih := tstk_istk (h.low (Nat.le_succ i))
    have hk := h i (Nat.lt_succ_self i)
    have e : tr b i = hd (tstk b (i + 1)) := rfl
    rw [istk, List.map_cons, e, tstk, push, ih]
    split
    · rename_i h2
      rw [h2]
      simp only [hd, List.map_drop]
    · split
      · rename_i h2
        rw [h2]
        simp only [hd, List.map_drop]
      · have h0 : ar (cn b i).op = 0 := by
          rename_i h1 h2
          unfold ar at *
          split at h1 <;> simp_all
        rw [h0]
        simp only [hd, List.drop_zero]
end Go.Ma
/- Two evaluations of one tree, within other limits: the same comes, or the limit that is passed is less than what was used. -/
namespace Go.Ma

/-- What was used rises alone; an error stays. -/
structure Up (s : St) (x : Res × St) : Prop where
  steps : s.steps ≤ x.2.steps
  depth : s.depth ≤ x.2.depth
  err : s.err ≠ 0 → x.2.err ≠ 0
theorem Up.refl (s : St) (r : Res) : Up s (r, s) := ⟨Nat.le_refl _, Nat.le_refl _, fun h => h⟩
theorem Up.trans {s : St} {x y : Res × St} (h : Up s x) (g : Up x.2 y) : Up s y := ⟨Nat.le_trans h.steps g.steps, Nat.le_trans h.depth g.depth, fun q => g.err (h.err q)⟩
theorem Up.res {s : St} {x : Res × St} (h : Up s x) (r : Res) : Up s (r, x.2) := ⟨h.steps, h.depth, h.err⟩
theorem Up.tick {d : Nat} {s : St} {x : Res × St} (h : Up (tick d s) x) : Up s x := ⟨by have := h.steps; simp only [Ma.tick] at this; omega, by have := h.depth; simp only [Ma.tick] at this; omega, h.err⟩
mutual
theorem ev_up (e : Env) (l : Lim) : ∀ (f : Nat) (t : T) (p d : Nat) (s : St), Up s (ev e l f t p d s)
  | 0, _, _, _, s => by rw [ev]; exact Up.refl s _
  | f + 1, t, p, d, s => by
    by_cases hs : stop l d s = true
    · rw [ev_stop e l t hs]
      have := halt_same l d s
      exact ⟨by simp only; omega, by simp only; omega, fun _ => halt_err⟩
    · refine Up.tick (d := d) ?_
      match t with
      | .emp => rw [ev_emp e l hs]; exact Up.refl _ _
      | .set c => rw [ev_set e l c hs]; exact Up.refl _ _
      | .rule n => rw [ev_rule e l n hs]; exact ev_up e l f _ _ _ _
      | .thr x => rw [ev_thr e l x hs]; exact Up.refl _ _
      | .seq a b =>
        rw [ev_seq e l a b hs]
        have h1 := ev_up e l f a p (d + 1) (tick d s)
        have h2 := ev_up e l f b (ev e l f a p (d + 1) (tick d s)).1.en (d + 1) (ev e l f a p (d + 1) (tick d s)).2
        split
        · exact h1
        · split
          · exact (h1.trans h2).res _
          · exact h1.trans h2
      | .alt a b =>
        rw [ev_alt e l a b hs]
        split
        · exact ev_up e l f a p (d + 1) (tick d s)
        · exact (ev_up e l f a p (d + 1) (tick d s)).trans (ev_up e l f b p (d + 1) _)
      | .star a => rw [ev_star e l a hs]; exact lp_up e l f a p [] 0 d (tick d s)
      | .not a => rw [ev_not e l a hs]; exact (ev_up e l f a p (d + 1) (tick d s)).res _
      | .cap nm a =>
        rw [ev_cap e l nm a hs]
        split
        · exact ev_up e l f a p (d + 1) (tick d s)
        · exact (ev_up e l f a p (d + 1) (tick d s)).res _
theorem lp_up (e : Env) (l : Lim) : ∀ (f : Nat) (a : T) (q : Nat) (fo : List Cap) (tr : Nat) (d : Nat) (s : St), Up s (lp e l f a q fo tr d s)
  | 0, _, _, _, _, _, s => by rw [lp]; exact Up.refl s _
  | f + 1, a, q, fo, tr, d, s => by
    by_cases he : s.err = 0
    · rw [lp_go e l a q fo tr he]
      have h1 := ev_up e l f a q (d + 1) s
      split
      · exact h1.res _
      · split
        · exact h1
        · exact h1.trans (lp_up e l f a _ _ _ d _)
    · rw [lp_err e l a q fo tr he]
      exact Up.refl s _
end
theorem Up.ok {s : St} {x : Res × St} (h : Up s x) (hx : x.2.err = 0) : s.err = 0 := Classical.byContradiction fun q => h.err q hx
end Go.Ma
/- Captures are not seen: other names; none at all. Plain. -/
namespace Go.Ma
/-- Another name. -/
def nmC (s : ByteArray) (c : Cap) : Cap := ⟨s, c.fr, c.to, c.kids⟩
def nmR (s : ByteArray) (r : Res) : Res := ⟨r.kind, r.en, r.label, r.forest.map (nmC s), r.trees⟩
theorem nmR_kind (s : ByteArray) (r : Res) : (nmR s r).kind = r.kind := by cases r; rfl
theorem nmR_en (s : ByteArray) (r : Res) : (nmR s r).en = r.en := by cases r; rfl
theorem nmR_forest (s : ByteArray) (r : Res) : (nmR s r).forest = r.forest.map (nmC s) := by cases r; rfl
theorem nmR_trees (s : ByteArray) (r : Res) : (nmR s r).trees = r.trees := by cases r; rfl
def nmT (s : ByteArray) : T → T
  | .seq a b => .seq (nmT s a) (nmT s b)
  | .alt a b => .alt (nmT s a) (nmT s b)
  | .star a => .star (nmT s a)
  | .not a => .not (nmT s a)
  | .cap _ a => .cap s (nmT s a)
  | .emp => .emp
  | .set c => .set c
  | .rule n => .rule n
  | .thr x => .thr x
mutual
theorem ev_name {s : ByteArray} {e e' : Env} (hl : e'.len = e.len) (hh : e'.has = e.has) (hr : ∀ n, e'.rules n = nmT s (e.rules n)) (l : Lim) : ∀ (f : Nat) (t : T) (p d : Nat) (z : St), ev e' l f (nmT s t) p d z = (nmR s (ev e l f t p d z).1, (ev e l f t p d z).2)
  | 0, _, _, _, _ => by rw [ev.eq_def, ev.eq_def]; rfl
  | f + 1, t, p, d, z => by
    by_cases hs : stop l d z = true
    · rw [ev_stop e l t hs, ev_stop e' l _ hs]; rfl
    · match t with
      | .emp => rw [nmT, ev_emp e l hs, ev_emp e' l hs]; rfl
      | .set c =>
        rw [nmT, ev_set e l c hs, ev_set e' l c hs, hl, hh]
        split <;> rfl
      | .rule n => rw [nmT, ev_rule e l n hs, ev_rule e' l n hs, hr]; exact ev_name hl hh hr l f _ p (d + 1) _
      | .thr x => rw [nmT, ev_thr e l x hs, ev_thr e' l x hs]; rfl
      | .seq a b =>
        rw [nmT, ev_seq e l a b hs, ev_seq e' l _ _ hs, ev_name hl hh hr l f a p (d + 1) (tick d z)]
        generalize ev e l f a p (d + 1) (tick d z) = x
        obtain ⟨x, s1⟩ := x
        simp only [nmR_kind]
        by_cases hx : x.kind ≠ 1
        · rw [if_pos hx, if_pos hx]
        · rw [if_neg hx, if_neg hx, nmR_en, ev_name hl hh hr l f b x.en (d + 1) s1]
          generalize ev e l f b x.en (d + 1) s1 = y
          obtain ⟨y, s2⟩ := y
          simp only [nmR_kind]
          by_cases hy : y.kind = 1
          · rw [if_pos hy, if_pos hy]; simp [nmR]
          · rw [if_neg hy, if_neg hy]
      | .alt a b =>
        rw [nmT, ev_alt e l a b hs, ev_alt e' l _ _ hs, ev_name hl hh hr l f a p (d + 1) (tick d z)]
        generalize ev e l f a p (d + 1) (tick d z) = x
        obtain ⟨x, s1⟩ := x
        simp only [nmR_kind]
        by_cases hx : x.kind ≠ 0
        · rw [if_pos hx, if_pos hx]
        · rw [if_neg hx, if_neg hx]; exact ev_name hl hh hr l f b p (d + 1) s1
      | .star a => rw [nmT, ev_star e l a hs, ev_star e' l _ hs]; exact lp_name hl hh hr l f a p [] 0 d (tick d z)
      | .not a =>
        rw [nmT, ev_not e l a hs, ev_not e' l _ hs, ev_name hl hh hr l f a p (d + 1) (tick d z)]
        simp only [nmR_kind]
        split <;> rfl
      | .cap nm a =>
        rw [nmT, ev_cap e l nm a hs, ev_cap e' l _ _ hs, ev_name hl hh hr l f a p (d + 1) (tick d z)]
        generalize ev e l f a p (d + 1) (tick d z) = x
        obtain ⟨x, s1⟩ := x
        simp only [nmR_kind]
        by_cases hx : x.kind ≠ 1
        · rw [if_pos hx, if_pos hx]
        · rw [if_neg hx, if_neg hx]; simp [nmR, nmC]
theorem lp_name {s : ByteArray} {e e' : Env} (hl : e'.len = e.len) (hh : e'.has = e.has) (hr : ∀ n, e'.rules n = nmT s (e.rules n)) (l : Lim) : ∀ (f : Nat) (a : T) (q : Nat) (fo : List Cap) (tr d : Nat) (z : St), lp e' l f (nmT s a) q (fo.map (nmC s)) tr d z = (nmR s (lp e l f a q fo tr d z).1, (lp e l f a q fo tr d z).2)
  | 0, _, _, _, _, _, _ => by rw [lp.eq_def, lp.eq_def]; rfl
  | f + 1, a, q, fo, tr, d, z => by
    by_cases he : z.err = 0
    · rw [lp_go e l a q fo tr he, lp_go e' l _ q (fo.map (nmC s)) tr he, ev_name hl hh hr l f a q (d + 1) z]
      generalize ev e l f a q (d + 1) z = x
      obtain ⟨x, s1⟩ := x
      simp only [nmR_kind]
      by_cases h0 : x.kind = 0
      · rw [if_pos h0, if_pos h0]; rfl
      · rw [if_neg h0, if_neg h0]
        by_cases h2 : x.kind = 2
        · rw [if_pos h2, if_pos h2]
        · rw [if_neg h2, if_neg h2, nmR_en, nmR_forest, nmR_trees, ← List.map_append]
          exact lp_name hl hh hr l f a x.en (fo ++ x.forest) (tr + x.trees) d s1
    · rw [lp_err e l a q fo tr he, lp_err e' l _ q (fo.map (nmC s)) tr he]; rfl
end
/-- Without captures. -/
def noT : T → T
  | .seq a b => .seq (noT a) (noT b)
  | .alt a b => .alt (noT a) (noT b)
  | .star a => .star (noT a)
  | .not a => .not (noT a)
  | .cap _ a => noT a
  | .emp => .emp
  | .set c => .set c
  | .rule n => .rule n
  | .thr x => .thr x
/-- What comes without captures, where something came. -/
structure Bare (x y : Res × St) : Prop where
  kind : y.1.kind = x.1.kind
  en : y.1.en = x.1.en
  label : y.1.label = x.1.label
  none : y.1.forest = []
  steps : y.2.steps ≤ x.2.steps
  depth : y.2.depth ≤ x.2.depth
  err : y.2.err = 0
theorem tick_le {d d' : Nat} {s s' : St} (hd : d' ≤ d) (h1 : s'.steps ≤ s.steps) (h2 : s'.depth ≤ s.depth) : (tick d' s').steps ≤ (tick d s).steps ∧ (tick d' s').depth ≤ (tick d s).depth := by
  simp only [tick]; omega
theorem not_stop {l : Lim} {d d' : Nat} {s s' : St} (h : ¬ stop l d s = true) (hd : d' ≤ d) (h1 : s'.steps ≤ s.steps) (he : s'.err = 0) : ¬ stop l d' s' = true := by
  obtain ⟨g1, g2, g3⟩ := go_on h
  rw [stop, decide_eq_true_iff]
  omega
mutual
theorem ev_bare {e e' : Env} (hl : e'.len = e.len) (hh : e'.has = e.has) (hr : ∀ n, e'.rules n = noT (e.rules n)) (l : Lim) : ∀ (f f' : Nat) (t : T) (p d d' : Nat) (s s' : St), 2 * (l.steps - s.steps) + 1 ≤ f → f ≤ f' → d' ≤ d → s'.steps ≤ s.steps → s'.depth ≤ s.depth → s'.err = 0 → (ev e l f t p d s).2.err = 0 → Bare (ev e l f t p d s) (ev e' l f' (noT t) p d' s')
  | 0, _, _, _, _, _, _, _, h, _, _, _, _, _, _ => by omega
  | f + 1, f', t, p, d, d', s, s', hf, hff, hd, h1, h2, he, hx => by
    by_cases hs : stop l d s = true
    · rw [ev_stop e l t hs] at hx
      exact absurd hx halt_err
    · obtain ⟨g1, g2, g3⟩ := go_on hs
      have hs' := not_stop hs hd h1 he
      obtain ⟨t1, t2⟩ := tick_le hd h1 h2
      have te : (tick d' s').err = 0 := he
      match t with
      | .cap nm a =>
        rw [ev_cap e l nm a hs] at hx ⊢
        have hxa : (ev e l f a p (d + 1) (tick d s)).2.err = 0 := by split at hx <;> exact hx
        have hb := ev_bare hl hh hr l f f' a p (d + 1) d' (tick d s) s' (by simp only [tick]; omega) (by omega) (by omega) (by simp only [tick]; omega) (by simp only [tick]; omega) he hxa
        rw [noT]
        split
        · exact hb
        · exact ⟨hb.kind, hb.en, hb.label, hb.none, hb.steps, hb.depth, hb.err⟩
      | .emp =>
        obtain ⟨f', rfl⟩ : ∃ m, f' = m + 1 := ⟨f' - 1, by omega⟩
        rw [noT, ev_emp e l hs, ev_emp e' l hs']
        exact ⟨rfl, rfl, rfl, rfl, t1, t2, te⟩
      | .set c =>
        obtain ⟨f', rfl⟩ : ∃ m, f' = m + 1 := ⟨f' - 1, by omega⟩
        rw [noT, ev_set e l c hs, ev_set e' l c hs', hl, hh]
        refine ⟨rfl, rfl, rfl, ?_, t1, t2, te⟩
        show (if _ then _ else _ : Res).forest = []
        split <;> rfl
      | .rule n =>
        obtain ⟨f', rfl⟩ : ∃ m, f' = m + 1 := ⟨f' - 1, by omega⟩
        rw [ev_rule e l n hs] at hx
        rw [noT, ev_rule e l n hs, ev_rule e' l n hs', hr]
        exact ev_bare hl hh hr l f f' _ p (d + 1) (d' + 1) _ _ (by simp only [tick]; omega) (by omega) (by omega) t1 t2 te hx
      | .thr x =>
        obtain ⟨f', rfl⟩ : ∃ m, f' = m + 1 := ⟨f' - 1, by omega⟩
        rw [noT, ev_thr e l x hs, ev_thr e' l x hs']
        exact ⟨rfl, rfl, rfl, rfl, t1, t2, te⟩
      | .seq a b =>
        obtain ⟨f', rfl⟩ : ∃ m, f' = m + 1 := ⟨f' - 1, by omega⟩
        rw [ev_seq e l a b hs] at hx
        rw [noT, ev_seq e l a b hs, ev_seq e' l _ _ hs']
        have hxa : (ev e l f a p (d + 1) (tick d s)).2.err = 0 := by
          split at hx
          · exact hx
          · have u := ev_up e l f b (ev e l f a p (d + 1) (tick d s)).1.en (d + 1) (ev e l f a p (d + 1) (tick d s)).2
            split at hx
            · exact u.ok hx
            · exact u.ok hx
        have hb := ev_bare hl hh hr l f f' a p (d + 1) (d' + 1) (tick d s) (tick d' s') (by simp only [tick]; omega) (by omega) (by omega) t1 t2 te hxa
        have hup := (ev_up e l f a p (d + 1) (tick d s)).steps
        generalize ev e l f a p (d + 1) (tick d s) = x at *
        generalize ev e' l f' (noT a) p (d' + 1) (tick d' s') = x' at *
        rw [hb.kind, hb.en]
        by_cases hk : x.1.kind ≠ 1
        · rw [if_pos hk, if_pos hk]; exact hb
        · rw [if_neg hk] at hx
          rw [if_neg hk, if_neg hk]
          have hxb : (ev e l f b x.1.en (d + 1) x.2).2.err = 0 := by split at hx <;> exact hx
          have hc := ev_bare hl hh hr l f f' b x.1.en (d + 1) (d' + 1) x.2 x'.2 (by simp only [tick] at hup; omega) (by omega) (by omega) hb.steps hb.depth hb.err hxb
          generalize ev e l f b x.1.en (d + 1) x.2 = y at *
          generalize ev e' l f' (noT b) x.1.en (d' + 1) x'.2 = y' at *
          rw [hc.kind]
          by_cases hy : y.1.kind = 1
          · rw [if_pos hy, if_pos hy]
            exact ⟨hc.kind, hc.en, hc.label, by simp [hb.none, hc.none], hc.steps, hc.depth, hc.err⟩
          · rw [if_neg hy, if_neg hy]; exact hc
      | .alt a b =>
        obtain ⟨f', rfl⟩ : ∃ m, f' = m + 1 := ⟨f' - 1, by omega⟩
        rw [ev_alt e l a b hs] at hx
        rw [noT, ev_alt e l a b hs, ev_alt e' l _ _ hs']
        have hxa : (ev e l f a p (d + 1) (tick d s)).2.err = 0 := by
          split at hx
          · exact hx
          · exact (ev_up e l f b p (d + 1) _).ok hx
        have hb := ev_bare hl hh hr l f f' a p (d + 1) (d' + 1) (tick d s) (tick d' s') (by simp only [tick]; omega) (by omega) (by omega) t1 t2 te hxa
        have hup := (ev_up e l f a p (d + 1) (tick d s)).steps
        generalize ev e l f a p (d + 1) (tick d s) = x at *
        generalize ev e' l f' (noT a) p (d' + 1) (tick d' s') = x' at *
        rw [hb.kind]
        by_cases hk : x.1.kind ≠ 0
        · rw [if_pos hk, if_pos hk]; exact hb
        · rw [if_neg hk] at hx
          rw [if_neg hk, if_neg hk]
          exact ev_bare hl hh hr l f f' b p (d + 1) (d' + 1) x.2 x'.2 (by simp only [tick] at hup; omega) (by omega) (by omega) hb.steps hb.depth hb.err hx
      | .star a =>
        obtain ⟨f', rfl⟩ : ∃ m, f' = m + 1 := ⟨f' - 1, by omega⟩
        rw [ev_star e l a hs] at hx
        rw [noT, ev_star e l a hs, ev_star e' l _ hs']
        exact lp_bare hl hh hr l f f' a p [] 0 0 d d' _ _ (by simp only [tick]; omega) (by omega) hd t1 t2 te hx
      | .not a =>
        obtain ⟨f', rfl⟩ : ∃ m, f' = m + 1 := ⟨f' - 1, by omega⟩
        rw [ev_not e l a hs] at hx
        rw [noT, ev_not e l a hs, ev_not e' l _ hs']
        have hb := ev_bare hl hh hr l f f' a p (d + 1) (d' + 1) (tick d s) (tick d' s') (by simp only [tick]; omega) (by omega) (by omega) t1 t2 te hx
        generalize ev e l f a p (d + 1) (tick d s) = x at *
        generalize ev e' l f' (noT a) p (d' + 1) (tick d' s') = x' at *
        rw [hb.kind]
        refine ⟨rfl, rfl, rfl, ?_, hb.steps, hb.depth, hb.err⟩
        show (if _ then _ else _ : Res).forest = []
        split <;> rfl
theorem lp_bare {e e' : Env} (hl : e'.len = e.len) (hh : e'.has = e.has) (hr : ∀ n, e'.rules n = noT (e.rules n)) (l : Lim) : ∀ (f f' : Nat) (a : T) (q : Nat) (fo : List Cap) (tr tr' d d' : Nat) (s s' : St), 2 * (l.steps - s.steps) + 2 ≤ f → f ≤ f' → d' ≤ d → s'.steps ≤ s.steps → s'.depth ≤ s.depth → s'.err = 0 → (lp e l f a q fo tr d s).2.err = 0 → Bare (lp e l f a q fo tr d s) (lp e' l f' (noT a) q [] tr' d' s')
  | 0, _, _, _, _, _, _, _, _, _, _, h, _, _, _, _, _, _ => by omega
  | f + 1, f', a, q, fo, tr, tr', d, d', s, s', hf, hff, hd, h1, h2, he, hx => by
    obtain ⟨f', rfl⟩ : ∃ m, f' = m + 1 := ⟨f' - 1, by omega⟩
    by_cases hz : s.err = 0
    · rw [lp_go e l a q fo tr hz] at hx
      rw [lp_go e l a q fo tr hz, lp_go e' l _ q [] tr' he]
      have hxa : (ev e l f a q (d + 1) s).2.err = 0 := by
        split at hx
        · exact hx
        · split at hx
          · exact hx
          · exact (lp_up e l f a _ _ _ d _).ok hx
      have hb := ev_bare hl hh hr l f f' a q (d + 1) (d' + 1) s s' (by omega) (by omega) (by omega) h1 h2 he hxa
      have hm := (ev_ok e l f a q (d + 1) s (by omega)).more hxa
      generalize ev e l f a q (d + 1) s = x at *
      generalize ev e' l f' (noT a) q (d' + 1) s' = x' at *
      rw [hb.kind, hb.en]
      by_cases h0 : x.1.kind = 0
      · rw [if_pos h0, if_pos h0]
        exact ⟨rfl, rfl, rfl, rfl, hb.steps, hb.depth, hb.err⟩
      · rw [if_neg h0] at hx
        rw [if_neg h0, if_neg h0]
        by_cases h2' : x.1.kind = 2
        · rw [if_pos h2', if_pos h2']; exact hb
        · rw [if_neg h2'] at hx
          rw [if_neg h2', if_neg h2', hb.none, List.append_nil]
          exact lp_bare hl hh hr l f f' a x.1.en _ _ _ d d' x.2 x'.2 (by omega) (by omega) hd hb.steps hb.depth hb.err hx
    · rw [lp_err e l a q fo tr hz] at hx
      exact absurd hx hz
end
end Go.Ma
/- Places: an evaluation further on in a longer input; what an outcome's forest is. Plain. -/
namespace Go.Ma
/-- The names in a tree fit, and what it throws is named. -/
def Names (own : ByteArray → Prop) : T → Prop
  | .thr x => x ≠ ⟨#[]⟩
  | .seq a b => Names own a ∧ Names own b
  | .alt a b => Names own a ∧ Names own b
  | .star a => Names own a
  | .not a => Names own a
  | .cap nm a => own nm ∧ Names own a
  | _ => True
end Go.Ma
