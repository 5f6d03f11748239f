/- Texts joined and shortened (wip/tools/shrink.py): Ev, Lay, Sim, Shift. -/
/- Core grammars, evaluated step by step: what both evaluations compute, in plain Lean. -/
namespace Go.Ma

structure Cls where
  c0 : Int
  c1 : Int
  c2 : Int
  c3 : Int
structure Cap where
  nm : ByteArray
  fr : Int
  to : Int
  kids : Int
/-- A node with its parts. -/
inductive T where
  | emp | set (c : Cls) | rule (n : Nat) | thr (s : ByteArray) | seq (a b : T) | alt (a b : T) | star (a : T) | not (a : T) | cap (nm : ByteArray) (a : T)
structure St where
  steps : Nat
  depth : Nat
  err : Int
structure Res where
  kind : Int
  en : Nat
  label : ByteArray
  forest : List Cap
  trees : Nat
structure Lim where
  depth : Nat
  steps : Nat
def Res.zero : Res := ⟨0, 0, ⟨#[]⟩, [], 0⟩
def Res.mat (p : Nat) : Res := ⟨1, p, ⟨#[]⟩, [], 0⟩
/-- What the evaluation is of: the rules' trees, and which byte at which place is in which class. -/
structure Env where
  rules : Nat → T
  len : Nat
  has : Cls → Nat → Bool
/-- Is a limit passed? -/
def stop (l : Lim) (d : Nat) (s : St) : Bool := decide (s.err ≠ 0 ∨ l.depth < d ∨ l.steps ≤ s.steps)
/-- The state behind a limit that is passed. -/
def halt (l : Lim) (d : Nat) (s : St) : St := if s.err ≠ 0 then s else if l.depth < d then { s with err := 3 } else { s with err := 4 }
def tick (d : Nat) (s : St) : St := ⟨s.steps + 1, max s.depth d, s.err⟩
mutual
def ev (e : Env) (l : Lim) : Nat → T → Nat → Nat → St → Res × St
  | 0, _, _, _, s => (.zero, s)
  | f + 1, t, p, d, s =>
    if stop l d s = true then (.zero, halt l d s) else
    match t with
    | .emp => (.mat p, tick d s)
    | .set c => (if p < e.len ∧ e.has c p = true then .mat (p + 1) else .zero, tick d s)
    | .rule n => ev e l f (e.rules n) p (d + 1) (tick d s)
    | .thr x => (⟨2, p, x, [], 0⟩, tick d s)
    | .seq a b =>
      let x := ev e l f a p (d + 1) (tick d s)
      if x.1.kind ≠ 1 then x else
      let y := ev e l f b x.1.en (d + 1) x.2
      if y.1.kind = 1 then ({ y.1 with forest := x.1.forest ++ y.1.forest, trees := y.1.trees + x.1.trees }, y.2) else y
    | .alt a b =>
      let x := ev e l f a p (d + 1) (tick d s)
      if x.1.kind ≠ 0 then x else ev e l f b p (d + 1) x.2
    | .star a => lp e l f a p [] 0 d (tick d s)
    | .not a =>
      let x := ev e l f a p (d + 1) (tick d s)
      (if x.1.kind = 1 then .zero else .mat p, x.2)
    | .cap nm a =>
      let x := ev e l f a p (d + 1) (tick d s)
      if x.1.kind ≠ 1 then x else ({ x.1 with forest := ⟨nm, p, x.1.en, x.1.trees⟩ :: x.1.forest, trees := 1 }, x.2)
/-- A star's rounds: where it stands, its forest. -/
def lp (e : Env) (l : Lim) : Nat → T → Nat → List Cap → Nat → Nat → St → Res × St
  | 0, _, _, _, _, _, s => (.zero, s)
  | f + 1, a, q, fo, tr, d, s =>
    if s.err ≠ 0 then (.zero, s) else
    let x := ev e l f a q (d + 1) s
    if x.1.kind = 0 then (⟨1, q, ⟨#[]⟩, fo, tr⟩, x.2) else if x.1.kind = 2 then x else lp e l f a x.1.en (fo ++ x.1.forest) (tr + x.1.trees) d x.2
end
/-- Going through a forest: how many trees were counted, and how many nodes are still to come as kids. -/
def rt : List Cap → Int → Int → Int × Int
  | [], n, k => (n, k)
  | c :: r, n, k => if k = 0 then rt r (n + 1) (k + c.kids) else rt r n (k - 1 + c.kids)
theorem rt_append (F G : List Cap) (n k : Int) : rt (F ++ G) n k = rt G (rt F n k).1 (rt F n k).2 := by
  induction F generalizing n k with
  | nil => rfl
  | cons c r ih =>
    rw [List.cons_append, rt, rt]
    split
    · exact ih _ _
    · exact ih _ _
/-- A forest of t trees. -/
def WF (F : List Cap) (t : Nat) : Prop := ∀ n k : Int, 0 ≤ k → rt F n k = if (t : Int) ≤ k then (n, k - t) else (n + (t - k), 0)
theorem WF.nil : WF [] 0 := fun n k hk => by
  rw [rt, if_pos (by omega)]
  simp
theorem WF.append {F G : List Cap} {t u : Nat} (h : WF F t) (g : WF G u) : WF (F ++ G) (t + u) := fun n k hk => by
  rw [rt_append, h n k hk]
  by_cases h1 : (t : Int) ≤ k
  · rw [if_pos h1, g _ _ (by simp only; omega)]
    simp only
    by_cases h2 : (u : Int) ≤ k - t
    · rw [if_pos h2, if_pos (by omega)]
      congr 1
      omega
    · rw [if_neg h2, if_neg (by omega)]
      congr 1
      omega
  · rw [if_neg h1, g _ _ (by simp only; omega)]
    simp only
    by_cases h2 : (u : Int) ≤ 0
    · rw [if_pos h2]
      by_cases h3 : ((t + u : Nat) : Int) ≤ k
      · omega
      · rw [if_neg h3]
        congr 1
        · omega
        · omega
    · rw [if_neg h2, if_neg (by omega)]
      congr 1
      omega
theorem WF.cap {F : List Cap} {t : Nat} (h : WF F t) (nm : ByteArray) (a b : Int) : WF (⟨nm, a, b, (t : Int)⟩ :: F) 1 := fun n k hk => by
  rw [rt]
  simp only
  by_cases h0 : k = 0
  · subst h0
    rw [if_pos rfl, h _ _ (by omega), if_pos (by omega), if_neg (by omega)]
    congr 1
    omega
  · rw [if_neg h0, h _ _ (by omega), if_pos (by omega), if_pos (by omega)]
    congr 1
    omega
section
variable (e : Env) (l : Lim) {f : Nat} {p d : Nat} {s : St}
theorem ev_stop (t : T) (h : stop l d s = true) : ev e l (f + 1) t p d s = (.zero, halt l d s) := by
  rw [ev.eq_def]
  simp only [h, if_true]
theorem ev_emp (h : ¬ stop l d s = true) : ev e l (f + 1) .emp p d s = (.mat p, tick d s) := by
  rw [ev.eq_def]
  simp only [if_neg h]
theorem ev_set (c : Cls) (h : ¬ stop l d s = true) : ev e l (f + 1) (.set c) p d s = (if p < e.len ∧ e.has c p = true then .mat (p + 1) else .zero, tick d s) := by
  rw [ev.eq_def]
  simp only [if_neg h]
theorem ev_rule (n : Nat) (h : ¬ stop l d s = true) : ev e l (f + 1) (.rule n) p d s = ev e l f (e.rules n) p (d + 1) (tick d s) := by
  rw [ev.eq_def]
  simp only [if_neg h]
theorem ev_thr (x : ByteArray) (h : ¬ stop l d s = true) : ev e l (f + 1) (.thr x) p d s = (⟨2, p, x, [], 0⟩, tick d s) := by
  rw [ev.eq_def]
  simp only [if_neg h]
theorem ev_seq (a b : T) (h : ¬ stop l d s = true) : ev e l (f + 1) (.seq a b) p d s =
    if (ev e l f a p (d + 1) (tick d s)).1.kind ≠ 1 then ev e l f a p (d + 1) (tick d s) else
    if (ev e l f b (ev e l f a p (d + 1) (tick d s)).1.en (d + 1) (ev e l f a p (d + 1) (tick d s)).2).1.kind = 1 then
      ({ (ev e l f b (ev e l f a p (d + 1) (tick d s)).1.en (d + 1) (ev e l f a p (d + 1) (tick d s)).2).1 with
        forest := (ev e l f a p (d + 1) (tick d s)).1.forest ++ (ev e l f b (ev e l f a p (d + 1) (tick d s)).1.en (d + 1) (ev e l f a p (d + 1) (tick d s)).2).1.forest,
        trees := (ev e l f b (ev e l f a p (d + 1) (tick d s)).1.en (d + 1) (ev e l f a p (d + 1) (tick d s)).2).1.trees + (ev e l f a p (d + 1) (tick d s)).1.trees },
        (ev e l f b (ev e l f a p (d + 1) (tick d s)).1.en (d + 1) (ev e l f a p (d + 1) (tick d s)).2).2)
    else ev e l f b (ev e l f a p (d + 1) (tick d s)).1.en (d + 1) (ev e l f a p (d + 1) (tick d s)).2 := by
  rw [ev.eq_def]
  simp only [if_neg h]
theorem ev_alt (a b : T) (h : ¬ stop l d s = true) : ev e l (f + 1) (.alt a b) p d s =
    if (ev e l f a p (d + 1) (tick d s)).1.kind ≠ 0 then ev e l f a p (d + 1) (tick d s) else ev e l f b p (d + 1) (ev e l f a p (d + 1) (tick d s)).2 := by
  rw [ev.eq_def]
  simp only [if_neg h]
theorem ev_star (a : T) (h : ¬ stop l d s = true) : ev e l (f + 1) (.star a) p d s = lp e l f a p [] 0 d (tick d s) := by
  rw [ev.eq_def]
  simp only [if_neg h]
theorem ev_not (a : T) (h : ¬ stop l d s = true) : ev e l (f + 1) (.not a) p d s = (if (ev e l f a p (d + 1) (tick d s)).1.kind = 1 then .zero else .mat p, (ev e l f a p (d + 1) (tick d s)).2) := by
  rw [ev.eq_def]
  simp only [if_neg h]
theorem ev_cap (nm : ByteArray) (a : T) (h : ¬ stop l d s = true) : ev e l (f + 1) (.cap nm a) p d s =
    if (ev e l f a p (d + 1) (tick d s)).1.kind ≠ 1 then ev e l f a p (d + 1) (tick d s) else
      ({ (ev e l f a p (d + 1) (tick d s)).1 with forest := ⟨nm, p, (ev e l f a p (d + 1) (tick d s)).1.en, (ev e l f a p (d + 1) (tick d s)).1.trees⟩ :: (ev e l f a p (d + 1) (tick d s)).1.forest, trees := 1 }, (ev e l f a p (d + 1) (tick d s)).2) := by
  rw [ev.eq_def]
  simp only [if_neg h]
theorem lp_err (a : T) (q : Nat) (fo : List Cap) (tr : Nat) (h : s.err ≠ 0) : lp e l (f + 1) a q fo tr d s = (.zero, s) := by
  rw [lp]
  simp only [if_pos h]
theorem lp_go (a : T) (q : Nat) (fo : List Cap) (tr : Nat) (h : s.err = 0) : lp e l (f + 1) a q fo tr d s =
    if (ev e l f a q (d + 1) s).1.kind = 0 then (⟨1, q, ⟨#[]⟩, fo, tr⟩, (ev e l f a q (d + 1) s).2) else if (ev e l f a q (d + 1) s).1.kind = 2 then ev e l f a q (d + 1) s else
      lp e l f a (ev e l f a q (d + 1) s).1.en (fo ++ (ev e l f a q (d + 1) s).1.forest) (tr + (ev e l f a q (d + 1) s).1.trees) d (ev e l f a q (d + 1) s).2 := by
  rw [lp]
  simp only [if_neg (show ¬ s.err ≠ 0 by simp [h])]
end
/-- What holds of every outcome: bounds, and that its forest is as many trees as it says. -/
structure OK (e : Env) (l : Lim) (p : Nat) (s : St) (x : Res × St) : Prop where
  steps : s.steps ≤ x.2.steps
  max : s.steps ≤ l.steps → x.2.steps ≤ l.steps
  deep : s.depth ≤ l.depth → x.2.depth ≤ l.depth
  few : x.1.forest.length + s.steps ≤ x.2.steps
  tr : x.1.trees ≤ x.1.forest.length
  wf : WF x.1.forest x.1.trees
  en : p ≤ e.len → x.1.en ≤ e.len
  kind : x.1.kind = 0 ∨ x.1.kind = 1 ∨ x.1.kind = 2
  more : x.2.err = 0 → s.steps < x.2.steps ∧ s.steps < l.steps
theorem halt_same (l : Lim) (d : Nat) (s : St) : (halt l d s).steps = s.steps ∧ (halt l d s).depth = s.depth := by
  unfold halt
  split
  · exact ⟨rfl, rfl⟩
  · split <;> exact ⟨rfl, rfl⟩
theorem halt_err {l : Lim} {d : Nat} {s : St} : (halt l d s).err ≠ 0 := by
  unfold halt
  split
  · assumption
  · split <;> simp
theorem zero_ok (e : Env) (l : Lim) (d p : Nat) (s : St) : OK e l p s (.zero, halt l d s) := by
  have h1 := halt_same l d s
  refine ⟨by simp only; omega, by simp only; omega, by simp only; omega, ?_, Nat.le_refl _, WF.nil, fun _ => Nat.zero_le _, .inl rfl, fun h0 => absurd h0 halt_err⟩
  simp only [Res.zero, List.length_nil]; omega
theorem go_on {l : Lim} {d : Nat} {s : St} (h : ¬ stop l d s = true) : s.err = 0 ∧ d ≤ l.depth ∧ s.steps < l.steps := by
  rw [stop, decide_eq_true_iff] at h
  omega
/-- A step more, ahead of what comes. -/
theorem OK.tick {e : Env} {l : Lim} {d p : Nat} {s : St} {x : Res × St} (h : ¬ stop l d s = true) (hx : OK e l p (tick d s) x) : OK e l p s x := by
  obtain ⟨h1, h2, h3⟩ := go_on h
  obtain ⟨a1, a2, a3, a4, a5, a6, a7, a8, a9⟩ := hx
  simp only [Ma.tick] at a1 a2 a3 a4 a9
  exact ⟨by omega, fun _ => a2 (by omega), fun hd => a3 (by omega), by omega, a5, a6, a7, a8, fun _ => ⟨by omega, h3⟩⟩
theorem flat_ok (e : Env) (l : Lim) (d p : Nat) (s : St) (r : Res) (h : ¬ stop l d s = true) (hf : r.forest = []) (ht : r.trees = 0) (he : p ≤ e.len → r.en ≤ e.len) (hk : r.kind = 0 ∨ r.kind = 1 ∨ r.kind = 2) : OK e l p s (r, tick d s) := by
  obtain ⟨h1, h2, h3⟩ := go_on h
  refine ⟨by simp [Ma.tick], fun _ => by simp [Ma.tick]; omega, fun _ => by simp [Ma.tick]; omega, by simp [Ma.tick, hf], by simp [ht], ?_, he, hk, fun _ => ⟨by simp [Ma.tick], h3⟩⟩
  rw [hf, ht]
  exact WF.nil
/-- One outcome behind another. -/
theorem OK.trans {e : Env} {l : Lim} {p q : Nat} {s : St} {x y : Res × St} (hx : OK e l p s x) (hq : p ≤ e.len → q ≤ e.len) (hy : OK e l q x.2 y) : OK e l p s y :=
  ⟨Nat.le_trans hx.steps hy.steps, fun h => hy.max (hx.max h), fun h => hy.deep (hx.deep h), by have := hx.steps; have := hy.few; omega, hy.tr, hy.wf, fun h => hy.en (hq h), hy.kind, fun h => by have := hy.more h; have := hx.steps; omega⟩
mutual
theorem ev_ok (e : Env) (l : Lim) : ∀ (f : Nat) (t : T) (p d : Nat) (s : St), 2 * (l.steps - s.steps) + 1 ≤ f → OK e l p s (ev e l f t p d s)
  | 0, _, _, _, _, h => by omega
  | f + 1, t, p, d, s, h => by
    by_cases hs : stop l d s = true
    · rw [ev_stop e l t hs]
      exact zero_ok e l d p s
    · obtain ⟨g1, g2, g3⟩ := go_on hs
      have IH : ∀ a q, OK e l q (tick d s) (ev e l f a q (d + 1) (tick d s)) := fun a q => ev_ok e l f a q (d + 1) (tick d s) (by simp only [tick]; omega)
      have IH2 : ∀ a b q q', OK e l q' (ev e l f a q (d + 1) (tick d s)).2 (ev e l f b q' (d + 1) (ev e l f a q (d + 1) (tick d s)).2) := fun a b q q' => ev_ok e l f b q' (d + 1) _ (by
        have := (IH a q).steps
        simp only [tick] at this ⊢
        omega)
      match t with
      | .emp =>
        rw [ev_emp e l hs]
        exact flat_ok e l d p s _ hs rfl rfl (fun h => h) (.inr (.inl rfl))
      | .set c =>
        rw [ev_set e l c hs]
        split
        · rename_i hh
          exact flat_ok e l d p s _ hs rfl rfl (fun _ => hh.1) (.inr (.inl rfl))
        · exact flat_ok e l d p s _ hs rfl rfl (fun _ => Nat.zero_le _) (.inl rfl)
      | .rule n =>
        rw [ev_rule e l n hs]
        exact OK.tick hs (IH _ _)
      | .thr x =>
        rw [ev_thr e l x hs]
        exact flat_ok e l d p s _ hs rfl rfl (fun h => h) (.inr (.inr rfl))
      | .seq a b =>
        rw [ev_seq e l a b hs]
        have hx := IH a p
        have hy := IH2 a b p (ev e l f a p (d + 1) (tick d s)).1.en
        refine OK.tick hs ?_
        generalize ev e l f a p (d + 1) (tick d s) = x at *
        generalize ev e l f b x.1.en (d + 1) x.2 = y at *
        split
        · exact hx
        · split
          · have ht := hx.trans hx.en hy
            refine ⟨ht.steps, ht.max, ht.deep, ?_, ?_, ?_, ht.en, ht.kind, ht.more⟩
            · have := hx.few; have := hy.few; simp only [List.length_append]; omega
            · have := hx.tr; have := hy.tr; simp only [List.length_append]; omega
            · show WF (x.1.forest ++ y.1.forest) (y.1.trees + x.1.trees)
              rw [Nat.add_comm]
              exact hx.wf.append hy.wf
          · exact hx.trans hx.en hy
      | .alt a b =>
        rw [ev_alt e l a b hs]
        refine OK.tick hs ?_
        split
        · exact IH a p
        · exact (IH a p).trans (fun h => h) (IH2 a b p p)
      | .star a =>
        rw [ev_star e l a hs]
        exact lp_ok e l f a p [] 0 d (tick d s) s (by simp only [tick]; omega) (by simp [tick]) (by simp [tick]) (Nat.le_refl _) WF.nil (fun _ => by simp only [tick]; omega) (fun h => by simp only [tick]; omega)
      | .not a =>
        rw [ev_not e l a hs]
        have hx := OK.tick hs (IH a p)
        generalize ev e l f a p (d + 1) (tick d s) = x at *
        split
        · exact ⟨hx.steps, hx.max, hx.deep, by simp only [Res.zero, List.length_nil]; have := hx.steps; omega, Nat.le_refl _, WF.nil, fun _ => Nat.zero_le _, .inl rfl, hx.more⟩
        · exact ⟨hx.steps, hx.max, hx.deep, by simp only [Res.mat, List.length_nil]; have := hx.steps; omega, Nat.le_refl _, WF.nil, fun h => h, .inr (.inl rfl), hx.more⟩
      | .cap nm a =>
        rw [ev_cap e l nm a hs]
        have hx := IH a p
        have hs' := hx.few
        generalize ev e l f a p (d + 1) (tick d s) = x at *
        split
        · exact OK.tick hs hx
        · have ht := OK.tick hs hx
          refine ⟨ht.steps, ht.max, ht.deep, ?_, ?_, hx.wf.cap _ _ _, ht.en, ht.kind, ht.more⟩
          · simp only [tick, List.length_cons] at *; omega
          · simp
theorem lp_ok (e : Env) (l : Lim) : ∀ (f : Nat) (a : T) (q : Nat) (fo : List Cap) (tr : Nat) (d : Nat) (s s0 : St), 2 * (l.steps - s.steps) + 2 ≤ f → s0.steps ≤ s.steps → fo.length + s0.steps ≤ s.steps → tr ≤ fo.length → WF fo tr → (s0.steps ≤ l.steps → s.steps ≤ l.steps) → (s0.depth ≤ l.depth → s.depth ≤ l.depth) →
    OK e l q s0 (lp e l f a q fo tr d s)
  | 0, _, _, _, _, _, _, _, h, _, _, _, _, _, _ => by omega
  | f + 1, a, q, fo, tr, d, s, s0, h, h1, h2, h3, h4, h5, h6 => by
    by_cases he : s.err = 0
    · rw [lp_go e l a q fo tr he]
      have hx := ev_ok e l f a q (d + 1) s (by omega)
      split
      · exact ⟨Nat.le_trans h1 hx.steps, fun h => hx.max (h5 h), fun h => hx.deep (h6 h), by have := hx.steps; simp only; omega, h3, h4, fun h => h, .inr (.inl rfl), fun h => by have := hx.more h; simp only; omega⟩
      · split
        · exact ⟨Nat.le_trans h1 hx.steps, fun h => hx.max (h5 h), fun h => hx.deep (h6 h), by have := hx.few; omega, hx.tr, hx.wf, hx.en, hx.kind, fun h => by have := hx.more h; omega⟩
        · generalize ev e l f a q (d + 1) s = x at *
          by_cases hxe : x.2.err = 0
          · have hm := hx.more hxe
            have := lp_ok e l f a x.1.en (fo ++ x.1.forest) (tr + x.1.trees) d x.2 s0 (by omega) (by omega) (by have := hx.few; rw [List.length_append]; omega) (by have := hx.tr; rw [List.length_append]; omega) (h4.append hx.wf) (fun h => hx.max (h5 h)) (fun h => hx.deep (h6 h))
            exact ⟨this.steps, this.max, this.deep, this.few, this.tr, this.wf, fun h => this.en (hx.en h), this.kind, this.more⟩
          · obtain ⟨f', rfl⟩ : ∃ f', f = f' + 1 := ⟨f - 1, by omega⟩
            rw [lp_err e l a _ _ _ hxe]
            exact ⟨Nat.le_trans h1 hx.steps, fun h => hx.max (h5 h), fun h => hx.deep (h6 h), by have := hx.steps; simp only [Res.zero, List.length_nil]; omega, Nat.le_refl _, WF.nil, fun _ => Nat.zero_le _, .inl rfl, fun h => absurd h hxe⟩
    · rw [lp_err e l a q fo tr he]
      exact ⟨h1, h5, h6, by simp only [Res.zero, List.length_nil]; omega, Nat.le_refl _, WF.nil, fun _ => Nat.zero_le _, .inl rfl, fun h => absurd h he⟩
end
end Go.Ma
/- Bodies of core grammars: laid as trees by a stack, and their parts by places; in plain Lean. -/
namespace Go.Ma

structure CN where
  op : Int
  cls : Cls
  rule : Int
  nm : ByteArray
def zCN : CN := ⟨0, ⟨0, 0, 0, 0⟩, 0, ⟨#[]⟩⟩
/-- How many parts. -/
def ar (op : Int) : Nat := if op = 4 ∨ op = 5 then 2 else if op = 6 ∨ op = 7 ∨ op = 8 then 1 else 0
def mk (n : CN) (a b : T) : T :=
  if n.op = 0 then .emp else if n.op = 1 then .set n.cls else if n.op = 2 then .rule n.rule.toNat else if n.op = 3 then .thr n.nm else
  if n.op = 4 then .seq a b else if n.op = 5 then .alt a b else if n.op = 6 then .star a else if n.op = 7 then .not a else .cap n.nm a
def hd : List T → T
  | [] => .emp
  | x :: _ => x
/-- A node is laid upon the stack of trees (its top first). -/
def push (st : List T) (n : CN) : List T :=
  if ar n.op = 2 then mk n (hd (st.drop 1)) (hd st) :: st.drop 2 else if ar n.op = 1 then mk n (hd st) .emp :: st.drop 1 else mk n .emp .emp :: st
def cn (b : List CN) (i : Nat) : CN := b.getD i zCN
/-- The stack of trees behind i nodes. -/
def tstk (b : List CN) : Nat → List T
  | 0 => []
  | i + 1 => push (tstk b i) (cn b i)
/-- The stack of places behind i nodes. -/
def istk (b : List CN) : Nat → List Nat
  | 0 => []
  | i + 1 => i :: (istk b i).drop (ar (cn b i).op)
/-- The tree of the i-th node. -/
def tr (b : List CN) (i : Nat) : T := hd (tstk b (i + 1))
/-- No node has more parts than there are, up to the i-th. -/
def fits (b : List CN) (i : Nat) : Prop := ∀ j, j < i → ar (cn b j).op ≤ (istk b j).length
theorem fits.low {b : List CN} {i j : Nat} (h : fits b i) (hj : j ≤ i) : fits b j := fun k hk => h k (by omega)
theorem tstk_istk {b : List CN} : ∀ {i : Nat}, fits b i → tstk b i = (istk b i).map (tr b)
  | 0, _ => rfl
  | i + 1, h => by
    have ih := tstk_istk (h.low (Nat.le_succ i))
    have hk := h i (Nat.lt_succ_self i)
    have e : tr b i = hd (tstk b (i + 1)) := rfl
    rw [istk, List.map_cons, e, tstk, push, ih]
    split
    · rename_i h2
      rw [h2]
      simp only [hd, List.map_drop]
    · split
      · rename_i h2
        rw [h2]
        simp only [hd, List.map_drop]
      · have h0 : ar (cn b i).op = 0 := by
          rename_i h1 h2
          unfold ar at *
          split at h1 <;> simp_all
        rw [h0]
        simp only [hd, List.drop_zero]
end Go.Ma
/- Two evaluations of one tree, within other limits: the same comes, or the limit that is passed is less than what was used. -/
namespace Go.Ma

end Go.Ma
/- Places: an evaluation further on in a longer input; what an outcome's forest is. Plain. -/
namespace Go.Ma
def shC (k : Nat) (c : Cap) : Cap := ⟨c.nm, c.fr + k, c.to + k, c.kids⟩
/-- An outcome whose places are greater by k. -/
def shR (k : Nat) (r : Res) : Res := if r.kind = 0 then r else ⟨r.kind, r.en + k, r.label, r.forest.map (shC k), r.trees⟩
theorem shR_kind (k : Nat) (r : Res) : (shR k r).kind = r.kind := by
  unfold shR
  split <;> rfl
theorem shR_no {k : Nat} {r : Res} (h : r.kind = 0) : shR k r = r := if_pos h
theorem shR_yes {k : Nat} {r : Res} (h : r.kind ≠ 0) : shR k r = ⟨r.kind, r.en + k, r.label, r.forest.map (shC k), r.trees⟩ := if_neg h
/-- The environment of a longer input. -/
structure Later (k : Nat) (e e' : Env) : Prop where
  rules : e'.rules = e.rules
  len : e'.len = e.len + k
  has : ∀ c p, p < e.len → e'.has c (p + k) = e.has c p
mutual
theorem ev_shift {k : Nat} {e e' : Env} (h : Later k e e') (l : Lim) : ∀ (f : Nat) (t : T) (p d : Nat) (s : St), ev e' l f t (p + k) d s = (shR k (ev e l f t p d s).1, (ev e l f t p d s).2)
  | 0, _, _, _, _ => by rw [ev.eq_def, ev.eq_def]; rfl
  | f + 1, t, p, d, s => by
    by_cases hs : stop l d s = true
    · rw [ev_stop e l t hs, ev_stop e' l t hs]; rfl
    · match t with
      | .emp => rw [ev_emp e l hs, ev_emp e' l hs]; rfl
      | .set c =>
        rw [ev_set e l c hs, ev_set e' l c hs]
        have e1 : (p + k < e'.len ∧ e'.has c (p + k) = true) ↔ (p < e.len ∧ e.has c p = true) := by
          rw [h.len]
          constructor
          · rintro ⟨h1, h2⟩
            have : p < e.len := by omega
            exact ⟨this, by rw [← h.has c p this]; exact h2⟩
          · rintro ⟨h1, h2⟩
            exact ⟨by omega, by rw [h.has c p h1]; exact h2⟩
        by_cases h1 : p < e.len ∧ e.has c p = true
        · rw [if_pos h1, if_pos (e1.2 h1)]
          simp [Res.mat, shR, Nat.add_right_comm]
        · rw [if_neg h1, if_neg (fun h2 => h1 (e1.1 h2))]; rfl
      | .rule n => rw [ev_rule e l n hs, ev_rule e' l n hs, h.rules]; exact ev_shift h l f _ p (d + 1) _
      | .thr x => rw [ev_thr e l x hs, ev_thr e' l x hs]; rfl
      | .seq a b =>
        rw [ev_seq e l a b hs, ev_seq e' l a b hs, ev_shift h l f a p (d + 1) (tick d s)]
        generalize ev e l f a p (d + 1) (tick d s) = x
        obtain ⟨x, s1⟩ := x
        simp only [shR_kind]
        by_cases hx : x.kind ≠ 1
        · rw [if_pos hx, if_pos hx]
        · rw [if_neg hx, if_neg hx]
          have hx1 : x.kind = 1 := by simpa using hx
          have hen : (shR k x).en = x.en + k := by rw [shR_yes (by rw [hx1]; decide)]
          rw [hen, ev_shift h l f b x.en (d + 1) s1]
          generalize ev e l f b x.en (d + 1) s1 = y
          obtain ⟨y, s2⟩ := y
          simp only [shR_kind]
          by_cases hy : y.kind = 1
          · rw [if_pos hy, if_pos hy]
            simp [shR, hx1, hy]
          · rw [if_neg hy, if_neg hy]
      | .alt a b =>
        rw [ev_alt e l a b hs, ev_alt e' l a b hs, ev_shift h l f a p (d + 1) (tick d s)]
        generalize ev e l f a p (d + 1) (tick d s) = x
        obtain ⟨x, s1⟩ := x
        simp only [shR_kind]
        by_cases hx : x.kind ≠ 0
        · rw [if_pos hx, if_pos hx]
        · rw [if_neg hx, if_neg hx]; exact ev_shift h l f b p (d + 1) s1
      | .star a => rw [ev_star e l a hs, ev_star e' l a hs]; exact lp_shift h l f a p [] 0 d (tick d s)
      | .not a =>
        rw [ev_not e l a hs, ev_not e' l a hs, ev_shift h l f a p (d + 1) (tick d s)]
        simp only [shR_kind]
        split <;> rfl
      | .cap nm a =>
        rw [ev_cap e l nm a hs, ev_cap e' l nm a hs, ev_shift h l f a p (d + 1) (tick d s)]
        generalize ev e l f a p (d + 1) (tick d s) = x
        obtain ⟨x, s1⟩ := x
        simp only [shR_kind]
        by_cases hx : x.kind ≠ 1
        · rw [if_pos hx, if_pos hx]
        · rw [if_neg hx, if_neg hx]
          have hx1 : x.kind = 1 := by simpa using hx
          simp [shR, hx1, shC]
theorem lp_shift {k : Nat} {e e' : Env} (h : Later k e e') (l : Lim) : ∀ (f : Nat) (a : T) (q : Nat) (fo : List Cap) (tr d : Nat) (s : St), lp e' l f a (q + k) (fo.map (shC k)) tr d s = (shR k (lp e l f a q fo tr d s).1, (lp e l f a q fo tr d s).2)
  | 0, _, _, _, _, _, _ => by rw [lp.eq_def, lp.eq_def]; rfl
  | f + 1, a, q, fo, tr, d, s => by
    by_cases he : s.err = 0
    · rw [lp_go e l a q fo tr he, lp_go e' l a (q + k) (fo.map (shC k)) tr he, ev_shift h l f a q (d + 1) s]
      generalize ev e l f a q (d + 1) s = x
      obtain ⟨x, s1⟩ := x
      simp only [shR_kind]
      by_cases h0 : x.kind = 0
      · rw [if_pos h0, if_pos h0]; rfl
      · rw [if_neg h0, if_neg h0]
        by_cases h2 : x.kind = 2
        · rw [if_pos h2, if_pos h2]
        · rw [if_neg h2, if_neg h2]
          have e1 : (shR k x).en = x.en + k ∧ (shR k x).forest = x.forest.map (shC k) ∧ (shR k x).trees = x.trees := by rw [shR_yes h0]; exact ⟨rfl, rfl, rfl⟩
          rw [e1.1, e1.2.1, e1.2.2, ← List.map_append]
          exact lp_shift h l f a x.en (fo ++ x.forest) (tr + x.trees) d s1
    · rw [lp_err e l a q fo tr he, lp_err e' l a (q + k) (fo.map (shC k)) tr he]; rfl
end
/-- A forest of t trees within [lo, hi], its names fit. -/
inductive Fo (own : ByteArray → Prop) : List Cap → Nat → Int → Int → Prop
  | nil {lo hi : Int} : lo ≤ hi → Fo own [] 0 lo hi
  | cons {nm : ByteArray} {fr tz lo hi : Int} {k t : Nat} {K R : List Cap} : own nm → lo ≤ fr → Fo own K k fr tz → Fo own R t tz hi → Fo own (⟨nm, fr, tz, (k : Int)⟩ :: (K ++ R)) (t + 1) lo hi
theorem Fo.le {own : ByteArray → Prop} {F : List Cap} {t : Nat} {lo hi : Int} (h : Fo own F t lo hi) : lo ≤ hi := by
  induction h with
  | nil h => exact h
  | cons _ h1 _ _ h2 h3 => omega
theorem Fo.append {own : ByteArray → Prop} {F G : List Cap} {t u : Nat} {lo mid hi : Int} (h : Fo own F t lo mid) (g : Fo own G u mid hi) : Fo own (F ++ G) (t + u) lo hi := by
  suffices H : ∀ {F t lo m}, Fo own F t lo m → m = mid → Fo own (F ++ G) (t + u) lo hi from H h rfl
  intro F t lo m h
  induction h with
  | @nil lo m h =>
    intro e
    subst e
    rw [List.nil_append, Nat.zero_add]
    cases g with
    | nil g => exact .nil (by omega)
    | cons g1 g2 g3 g4 => exact .cons g1 (by omega) g3 g4
  | @cons nm fr tz lo hi2 k t K R h1 h2 h3 h4 _ ih =>
    intro e
    rw [List.cons_append, List.append_assoc, Nat.add_right_comm]
    exact .cons h1 h2 h3 (ih e)
/-- The names in a tree fit, and what it throws is named. -/
def Names (own : ByteArray → Prop) : T → Prop
  | .thr x => x ≠ ⟨#[]⟩
  | .seq a b => Names own a ∧ Names own b
  | .alt a b => Names own a ∧ Names own b
  | .star a => Names own a
  | .not a => Names own a
  | .cap nm a => own nm ∧ Names own a
  | _ => True
/-- What holds of an outcome from place p on. -/
structure Out (own : ByteArray → Prop) (p : Nat) (r : Res) : Prop where
  zero : r.kind = 0 → r = .zero
  one : r.kind = 1 → r.label = ⟨#[]⟩ ∧ Fo own r.forest r.trees p r.en
  two : r.kind = 2 → r.forest = [] ∧ r.label ≠ ⟨#[]⟩
  kd : r.kind = 0 ∨ r.kind = 1 ∨ r.kind = 2
theorem Out.none {own : ByteArray → Prop} {p : Nat} : Out own p .zero := ⟨fun _ => rfl, fun h => absurd (show (0 : Int) = 1 from h) (by decide), fun h => absurd (show (0 : Int) = 2 from h) (by decide), .inl rfl⟩
theorem Out.mat {own : ByteArray → Prop} {p q : Nat} (h : p ≤ q) : Out own p (.mat q) := ⟨fun h => absurd (show (1 : Int) = 0 from h) (by decide), fun _ => ⟨rfl, .nil (by simp only [Res.mat]; omega)⟩, fun h => absurd (show (1 : Int) = 2 from h) (by decide), .inr (.inl rfl)⟩
mutual
theorem ev_out {own : ByteArray → Prop} (e : Env) (l : Lim) (hn : ∀ n, Names own (e.rules n)) : ∀ (f : Nat) (t : T) (p d : Nat) (s : St), Names own t → Out own p (ev e l f t p d s).1
  | 0, _, _, _, _, _ => by rw [ev.eq_def]; exact Out.none
  | f + 1, t, p, d, s, ht => by
    by_cases hs : stop l d s = true
    · rw [ev_stop e l t hs]; exact Out.none
    · match t, ht with
      | .emp, _ => rw [ev_emp e l hs]; exact Out.mat (Nat.le_refl _)
      | .set c, _ =>
        rw [ev_set e l c hs]
        show Out own p (if _ then _ else _)
        split
        · exact Out.mat (Nat.le_succ _)
        · exact Out.none
      | .rule n, _ => rw [ev_rule e l n hs]; exact ev_out e l hn f _ p (d + 1) _ (hn n)
      | .thr x, ht => rw [ev_thr e l x hs]; exact ⟨fun h => absurd (show (2 : Int) = 0 from h) (by decide), fun h => absurd (show (2 : Int) = 1 from h) (by decide), fun _ => ⟨rfl, ht⟩, .inr (.inr rfl)⟩
      | .seq a b, ht =>
        rw [ev_seq e l a b hs]
        have hx := ev_out e l hn f a p (d + 1) (tick d s) ht.1
        generalize ev e l f a p (d + 1) (tick d s) = x at *
        have hy := ev_out e l hn f b x.1.en (d + 1) x.2 ht.2
        generalize ev e l f b x.1.en (d + 1) x.2 = y at *
        split
        · exact hx
        · rename_i hk
          have hk1 : x.1.kind = 1 := by simpa using hk
          obtain ⟨_, f1⟩ := hx.one hk1
          split
          · rename_i hy1
            obtain ⟨f2, f3⟩ := hy.one hy1
            refine ⟨fun h => absurd (h.symm.trans hy1) (by decide), fun _ => ⟨f2, ?_⟩, fun h => absurd (h.symm.trans hy1) (by decide), .inr (.inl hy1)⟩
            show Fo own (x.1.forest ++ y.1.forest) (y.1.trees + x.1.trees) p y.1.en
            rw [Nat.add_comm]
            exact f1.append f3
          · rename_i hy1
            exact ⟨hy.zero, fun h => absurd h hy1, hy.two, hy.kd⟩
      | .alt a b, ht =>
        rw [ev_alt e l a b hs]
        split
        · exact ev_out e l hn f a p (d + 1) _ ht.1
        · exact ev_out e l hn f b p (d + 1) _ ht.2
      | .star a, ht => rw [ev_star e l a hs]; exact lp_out e l hn f a p p [] 0 d _ ht (.nil (Int.le_refl _))
      | .not a, ht =>
        rw [ev_not e l a hs]
        show Out own p (if _ then _ else _)
        split
        · exact Out.none
        · exact Out.mat (Nat.le_refl _)
      | .cap nm a, ht =>
        rw [ev_cap e l nm a hs]
        have hx := ev_out e l hn f a p (d + 1) (tick d s) ht.2
        generalize ev e l f a p (d + 1) (tick d s) = x at *
        split
        · exact hx
        · rename_i hk
          have hk1 : x.1.kind = 1 := by simpa using hk
          obtain ⟨f1, f2⟩ := hx.one hk1
          refine ⟨fun h => absurd (h.symm.trans hk1) (by decide), fun _ => ⟨f1, ?_⟩, fun h => absurd (h.symm.trans hk1) (by decide), .inr (.inl hk1)⟩
          have := Fo.cons (lo := (p : Int)) (t := 0) (R := []) (hi := (x.1.en : Int)) ht.1 (Int.le_refl _) f2 (.nil (Int.le_refl _))
          simpa using this
theorem lp_out {own : ByteArray → Prop} (e : Env) (l : Lim) (hn : ∀ n, Names own (e.rules n)) : ∀ (f : Nat) (a : T) (p q : Nat) (fo : List Cap) (tr d : Nat) (s : St), Names own a → Fo own fo tr p q → Out own p (lp e l f a q fo tr d s).1
  | 0, _, _, _, _, _, _, _, _, _ => by rw [lp.eq_def]; exact Out.none
  | f + 1, a, p, q, fo, tr, d, s, ha, hf => by
    by_cases he : s.err = 0
    · rw [lp_go e l a q fo tr he]
      have hx := ev_out e l hn f a q (d + 1) s ha
      generalize ev e l f a q (d + 1) s = x at *
      split
      · exact ⟨fun h => absurd (show (1 : Int) = 0 from h) (by decide), fun _ => ⟨rfl, hf⟩, fun h => absurd (show (1 : Int) = 2 from h) (by decide), .inr (.inl rfl)⟩
      · rename_i h0
        split
        · rename_i h2
          exact ⟨fun h => absurd h h0, fun h => absurd (h.symm.trans h2) (by decide), hx.two, hx.kd⟩
        · rename_i h2
          have h1 : x.1.kind = 1 := by
            rcases hx.kd with h | h | h
            · exact absurd h h0
            · exact h
            · exact absurd h h2
          exact lp_out e l hn f a p x.1.en _ _ d x.2 ha (hf.append (hx.one h1).2)
    · rw [lp_err e l a q fo tr he]; exact Out.none
end
end Go.Ma
