/- Texts joined and shortened (wip/tools/shrink.py): RInv, RSlots. -/
import Derived.RegionTactic
import Derived.Deep.RegionHeld
import Derived.Laws.Tables
import Derived.Deep.MidRow
import Derived.Test.YtmpkkphohilkoaaDoorQw2
/- A region that draws its order, by an invariant over what has come up: one step for each operation, whatever the order. -/
namespace Go.X
open Go
section
variable {P : Program} {ops : Array Oper} {Q : Exit → Act → World → Prop} {md : Region.Mode}

theorem count_false_set (l : List Bool) (i : Nat) (h : l[i]? = some false) : (l.set i true).count false + 1 = l.count false := by
  induction l generalizing i with
  | nil => simp at h
  | cons x l ih =>
    cases i with
    | zero => simp at h; subst h; simp
    | succ i =>
      simp at h
      have := ih i h
      simp only [List.set_cons_succ, List.count_cons]
      omega
theorem ready_false {l : Array Bool} {i : Nat} (h : i ∈ Region.ready md ops l) : l[i]? = some false := by
  have h1 := (mem_ready.1 h).1
  rcases Nat.lt_or_ge i l.size with h' | h'
  · simp [h'] at h1 ⊢; exact h1
  · simp [Array.getElem?_eq_none h'] at h1
theorem wpAny_inv {I : Array Bool → Act → World → Prop}
    (hend : ∀ l a w, l.size = ops.size → Region.ready md ops l = [] → I l a w → Q .normal a w)
    (hstep : ∀ i l a w, l.size = ops.size → i ∈ Region.ready md ops l → I l a w → wpOp P ops Q i (I (l.setIfInBounds i true)) a w) :
    ∀ (fuel : Nat) (l : Array Bool) (a : Act) (w : World), l.size = ops.size → l.toList.count false ≤ fuel → I l a w → wpAny P md ops Q fuel l a w := by
  intro fuel
  induction fuel with
  | zero =>
    intro l a w hs hc hI
    have hr : Region.ready md ops l = [] := by
      cases h : Region.ready md ops l with
      | nil => rfl
      | cons i is =>
        have hi : i ∈ Region.ready md ops l := by rw [h]; simp
        have h1 := ready_false hi
        have h2 : l.toList[i]? = some false := by simpa using h1
        have := count_false_set _ _ h2
        omega
    exact ⟨hr, hend l a w hs hr hI⟩
  | succ fuel ih =>
    intro l a w hs hc hI
    refine ⟨fun hr => hend l a w hs hr hI, fun i hi => ?_⟩
    refine wpOp_mono (fun a' w' h => ih _ a' w' (by simpa using hs) ?_ h) (hstep i l a w hs hi hI)
    have h1 := ready_false hi
    have h2 : l.toList[i]? = some false := by simpa using h1
    have := count_false_set _ _ h2
    simp only [Array.toList_setIfInBounds]
    omega

/-- Which operations have come up. -/
abbrev Bits := Nat → Bool
def Bits.put (b : Bits) (i : Nat) : Bits := fun j => if j = i then true else b j
/-- What an operation waits for. -/
def waits (md : Region.Mode) (o : Oper) : List Nat := (o.after.toList.filter (Region.binds md)).map (·.on)
/-- Each operation waits for earlier ones alone. -/
def backward (md : Region.Mode) (ops : Array Oper) : Bool := (List.range ops.size).all fun i => (((ops[i]?).map fun o => (waits md o).all fun d => decide (d < i)).getD true)
theorem ready_nil_all {l : Array Bool} (hb : backward md ops = true) (hs : l.size = ops.size) (h : Region.ready md ops l = []) : ∀ i, i < ops.size → l[i]? = some true := by
  intro i
  induction i using Nat.strongRecOn with
  | ind i ih =>
    intro hi
    have hil : i < l.size := by omega
    cases hv : l[i] with
    | true => simp [hil, hv]
    | false =>
      exfalso
      have : i ∈ Region.ready md ops l := by
        refine mem_ready.2 ⟨by simp [hil, hv], ops[i], by simp [hi], fun e he hbd => ?_⟩
        have h1 := List.all_eq_true.1 hb i (by simpa using hi)
        simp only [Array.getElem?_eq_getElem hi, Option.map_some, Option.getD_some] at h1
        have h2 : e.on ∈ waits md ops[i] := by
          unfold waits
          exact List.mem_map.2 ⟨e, List.mem_filter.2 ⟨by simpa using he, hbd⟩, rfl⟩
        have h3 := of_decide_eq_true (List.all_eq_true.1 h1 _ h2)
        have := ih e.on h3 (by omega)
        simp [this]
      rw [h] at this
      cases this

/-- Nothing has come up ahead of what it waits for. -/
def Shutd (md : Region.Mode) (ops : Array Oper) (b : Bits) : Prop := ∀ j o, ops[j]? = some o → b j = true → ∀ d ∈ waits md o, b d = true
/-- Of each operation: all that stand ahead of it. -/
def ancs (md : Region.Mode) (ops : Array Oper) : List (List Nat) := ops.toList.foldl (fun acc o => acc ++ [((waits md o) ++ (waits md o).flatMap fun e => acc.getD e []).eraseDups]) []
def ancOk (md : Region.Mode) (ops : Array Oper) (anc : List (List Nat)) : Bool :=
  (List.range ops.size).all fun i => (anc.getD i []).all fun d => ((ops[i]?).map fun o => (waits md o).any fun e => e == d || (anc.getD e []).contains d).getD false
theorem anc_true {anc : List (List Nat)} (hb : backward md ops = true) (ha : ancOk md ops anc = true) {b : Bits} (hs : Shutd md ops b) : ∀ i, i < ops.size → b i = true → ∀ d ∈ anc.getD i [], b d = true := by
  intro i
  induction i using Nat.strongRecOn with
  | ind i ih =>
    intro hi hbi d hd
    have h1 := List.all_eq_true.1 (List.all_eq_true.1 ha i (by simpa using hi)) d hd
    simp only [Array.getElem?_eq_getElem hi, Option.map_some, Option.getD_some] at h1
    obtain ⟨e, he, hed⟩ := List.any_eq_true.1 h1
    have hbe := hs i _ (Array.getElem?_eq_getElem hi) hbi e he
    have h2 := List.all_eq_true.1 hb i (by simpa using hi)
    simp only [Array.getElem?_eq_getElem hi, Option.map_some, Option.getD_some] at h2
    have h3 := of_decide_eq_true (List.all_eq_true.1 h2 _ he)
    rcases Bool.or_eq_true _ _ ▸ hed with h | h
    · rw [← eq_of_beq h]; exact hbe
    · exact ih e h3 (by omega) hbe d (by simpa using h)

/-- One step for each operation: those ahead of it have come up, it and those behind it have not. -/
def RSteps (P : Program) (ops : Array Oper) (Q : Exit → Act → World → Prop) (I : Bits → Act → World → Prop) (is : List Nat) : Prop :=
  ∀ i ∈ is, ∀ (b : Bits) (a : Act) (w : World), b i = false → (∀ d ∈ (ancs .any ops).getD i [], b d = true) → (∀ j, i ∈ (ancs .any ops).getD j [] → j < ops.size → b j = false) → I b a w → wpOp P ops Q i (I (b.put i)) a w
theorem wp_region_inv {id : Nat} {a : Act} {w : World} (I : Act → Bits → Act → World → Prop) (n : Nat) (is : List Nat) (hm : P.follows .mixedOrders = true) (hn : ops.size = n) (his : List.range n = is) (hb : backward .any ops = true) (ha : ancOk .any ops (ancs .any ops) = true)
    (h0 : I a (fun _ => false) a w.drew) (hs : RSteps P ops Q (I a) is) (hend : ∀ b a' w, (∀ i, i < n → b i = true) → I a b a' w → Q .normal a' w) :
    (Code.region id ops true).wp P Q a w := by
  have hbits : ∀ l : Array Bool, ∀ i, l[i]? = some false → l.size = ops.size → (fun j => (l.setIfInBounds i true).getD j false) = Bits.put (fun j => l.getD j false) i := by
    intro l i h1 hsz
    have hil := (Array.getElem?_eq_some_iff.1 h1).1
    funext j
    unfold Bits.put
    by_cases hij : j = i
    · subst hij; simp [hil]
    · rw [if_neg hij]; simp [Ne.symm hij]
  refine wp_region_any hm ?_
  refine wpAny_inv (I := fun l a' w => Shutd .any ops (fun j => l.getD j false) ∧ I a (fun j => l.getD j false) a' w) ?_ ?_ _ _ _ _ (by simp) (by simp) ?_
  · intro l a' w hsz hr ⟨_, hI⟩
    refine hend _ a' w (fun i hi => ?_) hI
    have := ready_nil_all hb hsz hr i (by omega)
    simp only [Array.getD_eq_getD_getElem?, this, Option.getD_some]
  · intro i l a' w hsz hi ⟨hsh, hI⟩
    have h1 := ready_false hi
    have hlt : i < ops.size := by
      have := (Array.getElem?_eq_some_iff.1 h1).1
      omega
    obtain ⟨hun, oj, hoj, hall⟩ := mem_ready.1 hi
    have hw : ∀ d ∈ waits .any oj, (fun j => l.getD j false) d = true := fun d hd => by
      unfold waits at hd
      obtain ⟨e, he, rfl⟩ := List.mem_map.1 hd
      obtain ⟨he1, he2⟩ := List.mem_filter.1 he
      exact hall e (by simpa using he1) he2
    have hsh' : Shutd .any ops (Bits.put (fun j => l.getD j false) i) := fun j o hjo hbj d hd => by
      unfold Bits.put at hbj ⊢
      split
      · rfl
      · split at hbj
        · rename_i hji
          subst hji
          rw [hjo] at hoj
          cases hoj
          exact hw d hd
        · exact hsh j o hjo hbj d hd
    have h2 := hs i (by rw [← his]; simp; omega) (fun j => l.getD j false) a' w (by simp [h1])
      (fun d hd => by
        have := anc_true hb ha hsh' i hlt (by simp [Bits.put]) d hd
        unfold Bits.put at this
        split at this
        · rename_i hdi
          subst hdi
          exfalso
          have h3 := List.all_eq_true.1 (List.all_eq_true.1 ha d (by simpa using hlt)) d hd
          clear this
          have key : ∀ k, k < ops.size → ∀ d ∈ (ancs .any ops).getD k [], d < k := by
            intro k
            induction k using Nat.strongRecOn with
            | ind k ih =>
              intro hk d hd
              have h1 := List.all_eq_true.1 (List.all_eq_true.1 ha k (by simpa using hk)) d hd
              simp only [Array.getElem?_eq_getElem hk, Option.map_some, Option.getD_some] at h1
              obtain ⟨e, he, hed⟩ := List.any_eq_true.1 h1
              have h2 := List.all_eq_true.1 hb k (by simpa using hk)
              simp only [Array.getElem?_eq_getElem hk, Option.map_some, Option.getD_some] at h2
              have h3 := of_decide_eq_true (List.all_eq_true.1 h2 _ he)
              rcases Bool.or_eq_true _ _ ▸ hed with h | h
              · rw [← eq_of_beq h]; exact h3
              · have := ih e h3 (by omega) d (by simpa using h); omega
          have := key d hlt d hd
          omega
        · exact this)
      (fun j hj hjs => by
        cases hbj : (fun j => l.getD j false) j with
        | false => exact hbj
        | true =>
          have := anc_true hb ha hsh j hjs hbj i hj
          simp [h1] at this) hI
    refine wpOp_mono (fun a'' w' h => ?_) h2
    have he := hbits l i h1 hsz
    show Shutd .any ops (fun j => (l.setIfInBounds i true).getD j false) ∧ I a (fun j => (l.setIfInBounds i true).getD j false) a'' w'
    rw [he]; exact ⟨hsh', h⟩
  · have he : (fun j => (Array.replicate ops.size false).getD j false) = fun _ => false := by
      funext j
      by_cases hj : j < ops.size <;> simp [hj]
    show Shutd .any ops (fun j => (Array.replicate ops.size false).getD j false) ∧ I a (fun j => (Array.replicate ops.size false).getD j false) a w.drew
    rw [he]
    exact ⟨fun _ _ _ h => Bool.noConfusion h, h0⟩
end
end Go.X
/- A region that draws its order, walked once: each operation over slots (a function), an invariant over what has come up. -/
namespace Go.X
open Go Go.RowKit
/-- What the slots hold. -/
abbrev Slots := Nat → Value
def Slots.eval (f : Slots) : Operand → Value
  | .tmp t => f t
  | .const v => v
  | .global g => .pointer (some ⟨g, 0, none⟩)
  | .func f => .func (.func f) #[] #[]
def Slots.put (f : Slots) (d : Option Tmp) (v : Value) : Slots :=
  match d with
  | some d => fun t => if t = d then v else f t
  | none => f
def Slots.of (a : Act) : Slots := fun t => a.tmps.getD t undef
theorem Slots.eval_of (a : Act) : (Slots.of a).eval = a.eval := funext fun x => by cases x <;> rfl
theorem Slots.of_put (a : Act) (d : Option Tmp) (v : Value) (h : ∀ t, d = some t → t < a.tmps.size) : Slots.of (a.put d v) = (Slots.of a).put d v := by
  funext t
  cases d with
  | none => rfl
  | some d =>
    have hd := h d rfl
    show (a.tmps.setIfInBounds d v).getD t undef = if t = d then v else a.tmps.getD t undef
    by_cases e : t = d
    · subst e; simp [hd]
    · rw [if_neg e]; simp [Ne.symm e]
/-- What a guard's operation told. -/
def told (ops : Array Oper) (f : Slots) (j : Nat) : Option Bool :=
  match (ops[j]?).bind (·.dst) with
  | some t => match f t with
    | .bool b => some b
    | _ => none
  | none => none
theorem told_of (ops : Array Oper) (a : Act) (j : Nat) : told ops (Slots.of a) j = yielded ops a.tmps j := by
  unfold told yielded
  cases (ops[j]?).bind (·.dst) with
  | none => rfl
  | some t =>
    simp only [Option.bind_some, Slots.of]
    rcases Nat.lt_or_ge t a.tmps.size with h | h
    · simp only [Array.getD_eq_getD_getElem?, Array.getElem?_eq_getElem h, Option.getD_some]
      cases a.tmps[t] <;> rfl
    · simp only [Array.getD_eq_getD_getElem?, Array.getElem?_eq_none h, Option.getD_none]
      rfl
/-- The slots' new contents, laid into a frame. -/
def Act.puts (a : Act) (f : Slots) : List Tmp → Act
  | [] => a
  | t :: ts => Act.puts (a.put (some t) (f t)) f ts
theorem Act.puts_defers (f : Slots) : ∀ (ts : List Tmp) (a : Act), (Act.puts a f ts).defers = a.defers
  | [], _ => rfl
  | _ :: ts, _ => (Act.puts_defers f ts _).trans rfl
theorem Act.puts_size (f : Slots) : ∀ (ts : List Tmp) (a : Act), (Act.puts a f ts).tmps.size = a.tmps.size
  | [], _ => rfl
  | _ :: ts, _ => (Act.puts_size f ts _).trans (by simp [Act.put])
theorem Act.puts_get (f : Slots) : ∀ (ts : List Tmp) (a : Act) (t : Nat), t < a.tmps.size → (Act.puts a f ts).tmps[t]? = if t ∈ ts then some (f t) else a.tmps[t]?
  | [], _, _, _ => by simp [Act.puts]
  | s :: ts, a, t, h => by
    rw [Act.puts, Act.puts_get f ts _ t (by simpa [Act.put] using h)]
    by_cases h1 : t ∈ ts
    · rw [if_pos h1, if_pos (List.mem_cons_of_mem _ h1)]
    · rw [if_neg h1]
      by_cases h2 : t = s
      · subst h2; simp [Act.put, h]
      · rw [if_neg (by simp [h1, h2])]
        simp [Act.put, Ne.symm h2]
theorem Act.eq_puts {a a' : Act} (ts : List Tmp) (h1 : a'.defers = a.defers) (h2 : a'.tmps.size = a.tmps.size) (h3 : ∀ t, t ∉ ts → Slots.of a' t = Slots.of a t) : a' = Act.puts a (Slots.of a') ts := by
  have e : a'.tmps = (Act.puts a (Slots.of a') ts).tmps := by
    apply Array.ext_getElem?
    intro t
    rcases Nat.lt_or_ge t a.tmps.size with h | h
    · rw [Act.puts_get _ _ _ _ h]
      by_cases ht : t ∈ ts
      · rw [if_pos ht]; simp [Slots.of, h, h2]
      · rw [if_neg ht]
        have := h3 t ht
        simp only [Slots.of, Array.getD_eq_getD_getElem?, Array.getElem?_eq_getElem h, Array.getElem?_eq_getElem (h2.symm ▸ h : t < a'.tmps.size), Option.getD_some] at this
        rw [Array.getElem?_eq_getElem h, Array.getElem?_eq_getElem (h2.symm ▸ h : t < a'.tmps.size), this]
    · rw [Array.getElem?_eq_none (by omega), Array.getElem?_eq_none (by rw [Act.puts_size]; omega)]
  have d : a'.defers = (Act.puts a (Slots.of a') ts).defers := by rw [h1, Act.puts_defers]
  cases a' with
  | mk x y =>
    generalize hb : Act.puts a (Slots.of ⟨x, y⟩) ts = b at *
    cases b
    simp_all

section
variable {P : Program} {ops : Array Oper} {Q : Exit → Act → World → Prop}
/-- One operation over slots: what it leaves, and the world behind it. -/
def Does (P : Program) (op : Op) (ty : TypeId) (ρ : Operand → Value) (w : World) (K : Value → World → Prop) : Prop :=
  match (execOp ρ ⟨none, op, ty, "", #[], none⟩).run P w with
  | .ok (.value v) w' => K v w'
  | .ok .skip w' => K undef w'
  | .ok (.enter f args) w' => Calls P f args w' fun e w'' => ∃ v, e = .returned v ∧ K v w''
  | _ => False
theorem Does.wp {o : Oper} {a : Act} {w : World} {K : Value → World → Prop} (h : Does P o.op o.type (Slots.of a).eval w K) : Oper.wp P o a w (fun a' w' => ∃ v, a' = a.put o.dst v ∧ K v w') Q := by
  rw [Slots.eval_of] at h
  unfold Does at h
  unfold Oper.wp
  have e : execOp a.eval o = execOp a.eval ⟨none, o.op, o.type, "", #[], none⟩ := by
    cases o with
    | mk d op ty p af g => cases op <;> rfl
  rw [e]
  revert h
  generalize (execOp a.eval ⟨none, o.op, o.type, "", #[], none⟩).run P w = r
  intro h
  cases r with
  | ok n w' =>
    cases n <;> simp only [Oper.upon] at h ⊢
    case value v => exact ⟨v, rfl, h⟩
    case skip => exact ⟨_, rfl, h⟩
    case enter f args =>
      refine Calls.mono h fun e w'' he => ?_
      obtain ⟨v, rfl, hk⟩ := he
      exact ⟨v, rfl, hk⟩
  | halt x w' => cases x <;> exact h.elim

/-- One step for each operation: those ahead of it have come up, it and those behind it have not. -/
def SSteps (P : Program) (ops : Array Oper) (I : Bits → Slots → World → Prop) (is : List Nat) : Prop :=
  ∀ i ∈ is, ∀ (o : Oper), ops[i]? = some o → ∀ (b : Bits) (f : Slots) (w : World), b i = false → (∀ d ∈ (ancs .any ops).getD i [], b d = true) → (∀ j, i ∈ (ancs .any ops).getD j [] → j < ops.size → b j = false) → I b f w →
    if Region.wanted o (told ops f) = true then Does P o.op o.type f.eval w (fun v w' => I (b.put i) (f.put o.dst v) w') else I (b.put i) (f.put o.dst undef) w
theorem SSteps.nil {I : Bits → Slots → World → Prop} : SSteps P ops I [] := fun _ h => by cases h
/-- An operation without a guard. -/
theorem SSteps.cons {I : Bits → Slots → World → Prop} {i : Nat} {op : Op} {ty : TypeId} {dst : Option Tmp} {pos : String} {af : Array Edge} {ds js is : List Nat} (ho : ops[i]? = some ⟨dst, op, ty, pos, af, none⟩) (hd : (ancs .any ops).getD i [] = ds)
    (hj : ((List.range ops.size).filter fun j => ((ancs .any ops).getD j []).contains i) = js)
    (h : ∀ (b : Bits) (f : Slots) (w : World), b i = false → (∀ d ∈ ds, b d = true) → (∀ j ∈ js, b j = false) → I b f w → Does P op ty f.eval w (fun v w' => I (b.put i) (f.put dst v) w'))
    (hs : SSteps P ops I is) : SSteps P ops I (i :: is) := fun j hj' o ho' b f w h1 h2 h3 h4 => by
  rcases List.mem_cons.1 hj' with rfl | hj'
  · rw [ho] at ho'
    cases ho'
    have hw : Region.wanted (⟨dst, op, ty, pos, af, none⟩ : Oper) (told ops f) = true := rfl
    rw [if_pos hw]
    exact h b f w h1 (fun d hd' => h2 d (by rw [hd]; exact hd')) (fun k hk => by
      rw [← hj] at hk
      obtain ⟨k1, k2⟩ := List.mem_filter.1 hk
      exact h3 k (by simpa using k2) (by simpa using k1)) h4
  · exact hs j hj' o ho' b f w h1 h2 h3 h4
def dstsIn (ops : Array Oper) (n : Nat) : Bool := ops.all fun o => match o.dst with | some t => decide (t < n) | none => true
def dsts (ops : Array Oper) : List Tmp := ops.toList.filterMap (·.dst)
theorem wp_region_slots {id : Nat} {a : Act} {w : World} (I : Bits → Slots → World → Prop) (n : Nat) (is : List Nat) (ts : List Tmp) (m : Nat) (hm : P.follows .mixedOrders = true) (hn : ops.size = n) (his : List.range n = is) (hts : dsts ops = ts)
    (hb : backward .any ops = true) (ha : ancOk .any ops (ancs .any ops) = true) (hz : a.tmps.size = m) (hdst : dstsIn ops m = true)
    (h0 : I (fun _ => false) (Slots.of a) w.drew) (hs : SSteps P ops I is)
    (hend : ∀ b f w', (∀ i, i < n → b i = true) → I b f w' → (∀ t, t ∉ ts → f t = Slots.of a t) → Q .normal (Act.puts a f ts) w') :
    (Code.region id ops true).wp P Q a w := by
  subst hz
  have hd : ∀ (i : Nat) (o : Oper), ops[i]? = some o → ∀ t, o.dst = some t → t < a.tmps.size ∧ t ∈ ts := fun i o hi t ht => by
    obtain ⟨hlt, rfl⟩ := Array.getElem?_eq_some_iff.1 hi
    have h1 := Array.all_eq_true.1 hdst i hlt
    rw [ht] at h1
    refine ⟨of_decide_eq_true h1, ?_⟩
    rw [← hts]
    exact List.mem_filterMap.2 ⟨ops[i], by simp, ht⟩
  refine wp_region_inv (I := fun a b a' w => I b (Slots.of a') w ∧ a'.defers = a.defers ∧ a'.tmps.size = a.tmps.size ∧ ∀ t, t ∉ ts → Slots.of a' t = Slots.of a t) n is hm hn his hb ha ⟨h0, rfl, rfl, fun _ _ => rfl⟩ ?_ ?_
  · intro i hi b a' w1 h1 h2 h3 ⟨h4, h5, h6, h7⟩
    have hlt : i < ops.size := by rw [← his] at hi; rw [hn]; simpa using hi
    have ho : ops[i]? = some ops[i] := Array.getElem?_eq_getElem hlt
    have hst := hs i hi _ ho b (Slots.of a') w1 h1 h2 h3 h4
    have hput : ∀ v w2, I (b.put i) ((Slots.of a').put ops[i].dst v) w2 → I (b.put i) (Slots.of (a'.put ops[i].dst v)) w2 ∧ (a'.put ops[i].dst v).defers = a.defers ∧ (a'.put ops[i].dst v).tmps.size = a.tmps.size ∧ ∀ t, t ∉ ts → Slots.of (a'.put ops[i].dst v) t = Slots.of a t := by
      intro v w2 hI
      have e := Slots.of_put a' ops[i].dst v (fun t ht => h6 ▸ (hd i _ ho t ht).1)
      refine ⟨by rw [e]; exact hI, ?_, ?_, fun t ht => ?_⟩
      · cases ops[i].dst <;> exact h5
      · cases hq : ops[i].dst <;> simp [Act.put, h6]
      · rw [e]
        cases hq : ops[i].dst with
        | none => exact h7 t ht
        | some d =>
          have : t ≠ d := fun e => ht (e ▸ (hd i _ ho d hq).2)
          simp only [Slots.put, if_neg this]
          exact h7 t ht
    refine wpOp_step ho fun K' hK => ?_
    have hw : Region.wanted ops[i] (yielded ops a'.tmps) = Region.wanted ops[i] (told ops (Slots.of a')) := by
      congr 1
      exact funext fun j => (told_of ops a' j).symm
    rw [hw]
    split
    · rename_i hwt
      rw [if_pos hwt] at hst
      refine Oper.wp_mono ?_ hst.wp
      rintro a2 w2 ⟨v, rfl, hI⟩
      exact hK _ _ (hput v w2 hI)
    · rename_i hwt
      rw [if_neg hwt] at hst
      exact hK _ _ (hput _ _ hst)
  · intro b a' w' hall ⟨h4, h5, h6, h7⟩
    have := hend b (Slots.of a') w' hall h4 h7
    rwa [← Act.eq_puts ts h5 h6 h7] at this

variable {ty : TypeId} {ρ : Operand → Value} {w : World} {K : Value → World → Prop}
theorem Does.move {x : Operand} (h : K (ρ x) w) : Does P (.move x) ty ρ w K := h
theorem Does.assign {x : Operand} (h : K (ρ x) w) : Does P (.assign x) ty ρ w K := h
theorem Does.extract {x : Operand} {i : Nat} {vs : Array Value} {v : Value} (hx : ρ x = .tuple vs) (hv : vs[i]? = some v) (h : K v w) : Does P (.extract x i) ty ρ w K := by
  simp only [Does, execOp, hx, Instr.extract, hv, Sem.run_bind, Sem.run_pure, Result.andThen_ok]
  exact h
theorem Does.build {t : TypeId} {ps : Array (Nat × Operand)} {cells : Array Value} (hb : P.built t (ps.toList.map fun p => (p.1, ρ p.2)) = some cells) (h : K (.agg cells) w) : Does P (.build t ps) ty ρ w K := by
  have := run_build (P := P) w t (ps.map fun (i, x) => (i, ρ x)) cells (by simpa using hb)
  simp only [Does, execOp, this, Sem.run_bind, Sem.run_pure, Result.andThen_ok]
  exact h
/-- any operation whose run is known -/
theorem Does.run {op : Op} {v : Value} {w' : World} (hr : (execOp ρ ⟨none, op, ty, "", #[], none⟩).run P w = .ok (.value v) w') (h : K v w') : Does P op ty ρ w K := by
  simp only [Does, hr]; exact h
theorem Does.load {t : TypeId} {x : Operand} {v : Value} (hr : (Instr.loadAt t (ρ x)).run P w = .ok v w) (h : K v w) : Does P (.load t x) ty ρ w K := by
  simp only [Does, execOp, hr, Sem.run_bind, Sem.run_pure, Result.andThen_ok]; exact h
theorem Does.binOp {op : BinOp} {t t' : TypeId} {x y : Operand} {v : Value} (hg : (eqGuard op t x y (ρ x) (ρ y)).run P w = .ok () w) (hr : (binOp op t (ρ x) (ρ y)).run P w = .ok v w) (h : K v w) : Does P (.binOp op t x y t') ty ρ w K := by
  simp only [Does, execOp, hg, hr, Sem.run_bind, Sem.run_pure, Result.andThen_ok]; exact h
theorem Does.fieldAddr {s : TypeId} {x : Operand} {i : Nat} {v : Value} (hr : (Instr.fieldAt s (ρ x) i).run P w = .ok v w) (h : K v w) : Does P (.fieldAddr s x i) ty ρ w K := by
  simp only [Does, execOp, hr, Sem.run_bind, Sem.run_pure, Result.andThen_ok]; exact h
theorem Does.alloc {e : TypeId} {z : Value} (hz : (P.info? e).map (·.zero) = some (some z)) (h : ∀ w', Blk w' w.heap.size e z.cells.toList → Below w.heap.size w w' → K (.pointer (some ⟨w.heap.size, 0, none⟩)) w') : Does P (.alloc e) ty ρ w K := by
  have hr : (Instr.alloc e true (.tuple #[])).run P w = .ok (.pointer (some ⟨w.heap.size, 0, none⟩)) (w.alloc (.cells z.cells e)) := by
    have hz' : (zeroValue e).run P w = .ok z w := by
      cases hq : P.info? e with
      | none => simp [hq] at hz
      | some i => simp [hq] at hz; simp [zeroValue, typeInfo, hq, hz]
    simp [Instr.alloc, hz', newVar, newRow]
  simp only [Does, execOp, hr, Sem.run_bind, Sem.run_pure, Result.andThen_ok]
  exact h _ (Blk.alloc w _ _) ((Below.refl _ _).alloc (Nat.le_refl _) _)
theorem Does.call {f : FuncId} {xs : Array Operand} {ts : Array TypeId} {args : Array Value} (hx : xs.map ρ = args) (hf : ρ (.func f) = .func (.func f) #[] #[]) (hc : (callFunc f args).run P w = .ok (.enter f args) w)
    (h : Calls P f args w fun e w' => ∃ v, e = .returned v ∧ K v w') : Does P (.call { callee := .value (.func f), args := xs, argTypes := ts }) ty ρ w K := by
  simp only [Does, execOp, resolve, hf, hx, Deferred.ofValue, Sem.run_bind, Sem.run_pure, Result.andThen_ok, invoke]
  simp [hc]
  exact h
theorem Does.store {t : TypeId} {x y : Operand} {b off : Nat} {v : Value} {cur : List Value} {e : TypeId} (hx : ρ x = .pointer (some ⟨b, off, none⟩)) (hy : ρ y = v)
    (hg : Blk w b e cur) (hi : (P.info? t).map (·.size) = some v.cells.size) (hfit : off + v.cells.size ≤ cur.length) (h1 : ∀ u ∈ v.cells.toList, u.oneCell' = true)
    (h : ∀ w', Blk w' b e (splice cur off v.cells.toList) → w.grownBy w' (some b) → K undef w') : Does P (.store t x y) ty ρ w K := by
  have hst := run_storeCells_at P b off e v.cells.toList 0 cur.toArray w hg (by simpa using hfit) h1
  have hsp : (splice cur off v.cells.toList).toArray = (cur.take off ++ v.cells.toList ++ cur.drop (off + v.cells.toList.length)).toArray := by simp [splice]
  have hrun : (Instr.storeAt t (.pointer (some ⟨b, off, none⟩)) v).run P w = .ok () (w.setRow b (splice cur off v.cells.toList).toArray) := by
    cases hq : P.info? t with
    | none => simp [hq] at hi
    | some i =>
      have hs : i.size = v.cells.size := by simpa [hq] using hi
      simp only [Nat.add_zero] at hst
      rw [hsp]
      simp only [Instr.storeAt, Instr.sureAddr, Sem.run_bind, Sem.run_pure, Result.andThen_ok]
      simp [storeVar, sizeOf, typeInfo, hq, hs, hst]
  simp only [Does, execOp, hx, hy, hrun, Sem.run_bind, Sem.run_pure, Result.andThen_ok]
  exact h _ (setRow_heap w b _ _ e _ hg) (grown_setRow b _)
/-- 'append(v, x...)' of a row of the call's own; x: a block that is known. -/
theorem Does.append {s x : Operand} {t e : TypeId} (base : Nat) (z : Value) (size bytes : Nat) (ht : P.underlying t = some (.slice e)) (hinfo : (P.info? e).map (fun i => (i.zero, i.size, i.bytes)) = some (some z, size, bytes)) (hzs : z.cells.size = size)
    {v : Value} {n : Nat} {xs : List Value} (hs : ρ s = v) (hown : w.ownsRow base e size v n xs)
    {q m c : Nat} {news : List Value} (hx : ρ x = .slice (some ⟨q, 0, none⟩) m c) (hq : Blk w q e news) (hl : news.length = m * size) (h1 : ∀ u ∈ news, u.oneCell' = true)
    (h63 : n + m ≤ maxLen) (hbytes : (n + m) * bytes ≤ 140737488355328) (hbase : base ≤ w.heap.size)
    (h : ∀ v' w', w'.ownsRow base e size v' (n + m) (xs ++ news) → Appended w w' e size v v' n → K v' w') : Does P (.call { callee := .builtin .append, args := #[s, x], argTypes := #[t, t] }) ty ρ w K := by
  obtain ⟨i, hi, hzz⟩ := Option.map_eq_some_iff.1 hinfo
  simp only [Prod.mk.injEq] at hzz
  obtain ⟨hz0, hz1, hz2⟩ := hzz
  obtain ⟨v', w', hr, h2, h3⟩ := run_append_x (P := P) w base t ty e i z size bytes ht hi hz0 hz1 hz2 hzs v n xs hown ⟨q, 0, none⟩ m c news hl (fun j u hj => by rw [Addr.add_mid, Nat.zero_add, hq.cell]; exact hj) h1 h63 hbytes hbase
  simp only [Does, execOp, resolve, invoke, builtin, Sem.run_bind, Sem.run_pure, Result.andThen_ok, List.map_toArray, List.map_cons, List.map_nil, hs, hx, hr]
  exact h v' w' h2 h3
/-- '[]T{x}' -/
theorem Does.buildSlice1 {t e : TypeId} {x : Operand} {v : Value} {cs : Array Value} (hx : ρ x = v) (hr : (Instr.buildSlice t 1 #[(0, v)]).run P w = .ok (.slice (some ⟨w.heap.size, 0, none⟩) 1 1) (w.alloc (.cells cs e)))
    (h : ∀ w', Blk w' w.heap.size e cs.toList → Below w.heap.size w w' → K (.slice (some ⟨w.heap.size, 0, none⟩) 1 1) w') : Does P (.buildSlice t 1 #[(0, x)]) ty ρ w K := by
  simp only [Does, execOp, List.map_toArray, List.map_cons, List.map_nil, hx, hr, Sem.run_bind, Sem.run_pure, Result.andThen_ok]
  exact h _ (Blk.alloc w _ _) ((Below.refl _ _).alloc (Nat.le_refl _) _)
theorem Does.indexAddr {t : TypeId} {x i : Operand} {v : Value} (hr : (Instr.indexAt t (ρ x) (ρ i)).run P w = .ok v w) (h : K v w) : Does P (.indexAddr t x i) ty ρ w K := by
  simp only [Does, execOp, hr, Sem.run_bind, Sem.run_pure, Result.andThen_ok]; exact h
theorem Does.loadBlk {t e : TypeId} {x : Operand} {b : Nat} {cs : List Value} {d : TypeDesc} (hx : ρ x = .pointer (some ⟨b, 0, none⟩)) (hb : Blk w b e cs) (hu : P.underlying t = some d) (hd : d.isRow = true)
    (hi : (P.info? t).map (·.size) = some cs.length) (h : K (.agg cs.toArray) w) : Does P (.load t x) ty ρ w K := by
  refine Does.load ?_ h
  rw [hx]
  exact run_loadAt_mid w b 0 t cs d (fun j v hj => by rw [Nat.zero_add, hb.cell]; exact hj) hu hd hi
theorem below_grown {B : Nat} {a w w' : World} {r : Option Nat} (h : Below B a w) (g : w.grownBy w' r) (hr : ∀ k, r = some k → B ≤ k) (ha : B ≤ a.heap.size) : Below B a w' :=
  ⟨g.os.trans h.os, g.tape.trans h.tape, g.output.trans h.output, Nat.le_trans h.size g.size, fun k hk => (g.block k (Nat.lt_of_lt_of_le hk (Nat.le_trans ha h.size)) (fun e => by have := hr k e.symm; omega)).trans (h.block k hk)⟩
theorem no {x : Bool} {p : Prop} (h : x = false) (h' : x = true) : p := by rw [h] at h'; cases h'
/-- The i-th part of a tuple. -/
def tup (v : Value) (i : Nat) : Value := match v with
  | .tuple vs => vs.getD i undef
  | _ => undef
theorem Does.ext {x : Operand} {i : Nat} {vs : Array Value} (hx : ρ x = .tuple vs) (hi : i < vs.size) (h : K (tup (.tuple vs) i) w) : Does P (.extract x i) ty ρ w K := by
  refine Does.extract hx (Array.getElem?_eq_getElem hi) ?_
  have : tup (.tuple vs) i = vs[i] := by simp [tup, hi]
  rwa [this] at h
theorem splice_all {α : Type} (L cs : List α) (h : L.length = cs.length) : splice L 0 cs = cs := by simp [splice, ← h]
theorem Does.lenString {x : Operand} {t : TypeId} {s : ByteArray} (ht : P.underlying t = some .string) (hx : ρ x = .string s) (h : K (.int .i64 (s.size : Int)) w) : Does P (.call { callee := .builtin .len, args := #[x], argTypes := #[t] }) ty ρ w K := by
  simp only [Does, execOp, resolve, invoke, builtin, Sem.run_bind, Sem.run_pure, Result.andThen_ok, List.map_toArray, List.map_cons, List.map_nil, hx]
  simp [Builtin.len_, run_underlying ht, goInt]
  exact h
theorem tf {p : Prop} (h : true = false) : p := by cases h
theorem below_at {w w' : World} (h : Below w.heap.size w w') {p : Addr} {v : Value} (hc : w.cell? p = some v) : w'.cell? p = some v := by
  rw [h.cell (p := p) (World.block_lt_of_cell? w p hc)]; exact hc
end
end Go.X
