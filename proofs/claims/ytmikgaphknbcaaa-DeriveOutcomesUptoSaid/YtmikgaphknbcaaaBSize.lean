/- The laws' grammars, opened: their parts, and that none is larger than what memory can hold. -/
import Derived.Test.YtmikgaphknbcaaaXSize
import Derived.Test.YtmikgaphknbcaaaBOpen
namespace Go.Proofs.Ytmikgaphknbcaaa.B
open Go Go.RowKit Go.X Go.Proofs.YtmikgaphknbcaaaW.PrintWords Go.Proofs.Ytmikgaphknbcaaa.F Go.ChangeShapes Go.WideShapes
variable {w : World} {base : Nat}

/-- No list of a grammar is larger than what memory can hold. -/
def GramFit (us : List S69) (rs : List S34) : Prop := us.length < 2 ^ 47 ∧ rs.length < 2 ^ 47 ∧ ∀ x ∈ rs, x.f1.length < 2 ^ 47 ∧ x.f2.length < 2 ^ 47
def Bu (x : S69) : Prop := x.f0.size ≤ reachBytes ∧ x.f1.size ≤ reachBytes
def Bn (x : S47) : Prop := x.f2.size ≤ reachBytes
def Bx (xs : List S47) : Prop := xs.length * 88 ≤ reachBytes ∧ ∀ x ∈ xs, Bn x
def Br (x : S34) : Prop := x.f0.size ≤ reachBytes ∧ (x.f1.length * 16 ≤ reachBytes ∧ ∀ s ∈ x.f1, s.size ≤ reachBytes) ∧ Bx x.f2
def Bg (y : List S69 × List S34) : Prop := (y.1.length * 32 ≤ reachBytes ∧ ∀ x ∈ y.1, Bu x) ∧ (y.2.length * 64 ≤ reachBytes ∧ ∀ x ∈ y.2, Br x)
theorem opensB69 : OpensB Try.prog w base 69 k69 Bu :=
  .iso (fun p => ⟨p.1, p.2⟩) (fun _ => rfl) (.struct Try.underlying69 (.step _ 1 rfl rfl (by kernel_rfl) (.string (by kernel_rfl)) (.last _ rfl rfl (by kernel_rfl) (.string (by kernel_rfl)))))
theorem by69 : Try.prog.bytesOf 69 = 32 := by kernel_rfl
theorem by9 : Try.prog.bytesOf 9 = 16 := by kernel_rfl
theorem by47 : Try.prog.bytesOf 47 = 88 := by kernel_rfl
theorem by34 : Try.prog.bytesOf 34 = 64 := by kernel_rfl
theorem opensB23 : OpensB Try.prog w base 23 (Kd.slice 69 k69) (fun xs => xs.length * 32 ≤ reachBytes ∧ ∀ x ∈ xs, Bu x) :=
  (OpensB.slice Try.underlying23 (by kernel_rfl) opensB69).mono (fun v h => by rw [by69] at h; exact h)
theorem opensB30 : OpensB Try.prog w base 30 (Kd.slice 9 Kd.string) (fun xs => xs.length * 16 ≤ reachBytes ∧ ∀ s ∈ xs, s.size ≤ reachBytes) :=
  (OpensB.slice Try.underlying30 (by kernel_rfl) (.string (by kernel_rfl))).mono (fun v h => by rw [by9] at h; exact h)
theorem opensB47 : OpensB Try.prog w base 47 k47 Bn :=
  (OpensB.iso (fun p => ⟨p.1, p.2.1, p.2.2.1, p.2.2.2.1, p.2.2.2.2.1, p.2.2.2.2.2.1, p.2.2.2.2.2.2⟩) (fun _ => rfl) (OpensB.struct Try.underlying47
    (.step _ 1 rfl rfl (by kernel_rfl) (.of (.int (by kernel_rfl))) (.step _ 2 rfl rfl (by kernel_rfl) (.of (.int (by kernel_rfl))) (.step _ 3 rfl rfl (by kernel_rfl) (.string (by kernel_rfl)) (.step _ 4 rfl rfl (by kernel_rfl) (.of (.bool (by kernel_rfl)))
      (.step _ 8 rfl rfl (by kernel_rfl) (.of opens45) (.step _ 9 rfl rfl (by kernel_rfl) (.of (.int (by kernel_rfl))) (.last _ rfl rfl (by kernel_rfl) (.of (.int (by kernel_rfl))))))))))) ).mono (fun _ h => h.2.2.1)
theorem opensB32 : OpensB Try.prog w base 32 (Kd.slice 47 k47) Bx :=
  (OpensB.slice Try.underlying32 (by kernel_rfl) opensB47).mono (fun v h => by rw [by47] at h; exact h)
theorem opensB34 : OpensB Try.prog w base 34 k34 Br :=
  .iso (fun p => ⟨p.1, p.2.1, p.2.2⟩) (fun _ => rfl) (.struct Try.underlying34 (.step _ 1 rfl rfl (by kernel_rfl) (.string (by kernel_rfl)) (.step _ 2 rfl rfl (by kernel_rfl) opensB30 (.last _ rfl rfl (by kernel_rfl) opensB32))))
theorem opensB24 : OpensB Try.prog w base 24 (Kd.slice 34 k34) (fun xs => xs.length * 64 ≤ reachBytes ∧ ∀ x ∈ xs, Br x) :=
  (OpensB.slice Try.underlying24 (by kernel_rfl) opensB34).mono (fun v h => by rw [by34] at h; exact h)
theorem opensB26 : OpensB Try.prog w base 26 (Kd.pair (Kd.slice 69 k69) (Kd.slice 34 k34)) Bg :=
  (OpensB.struct Try.underlying26 (.step _ 1 rfl rfl (by kernel_rfl) opensB23 (.last _ rfl rfl (by kernel_rfl) opensB24))).mono (fun _ h => h)
theorem Bg.fit {us : List S69} {rs : List S34} (h : Bg (us, rs)) : GramFit us rs := by
  obtain ⟨⟨h1, _⟩, h2, h3⟩ := h
  have r := reachBytes_lt
  simp only at h1 h2 h3
  refine ⟨by omega, by omega, fun x hx => ?_⟩
  obtain ⟨_, ⟨a, _⟩, b, _⟩ := h3 x hx
  exact ⟨by omega, by omega⟩
set_option maxRecDepth 100000 in
/-- A grammar that is an argument. -/
theorem openGrammar {H : Type} {enc : TypeId × Value → H} {spare : Nat → Bool} {held : Bool} {r : Reach} {b0 : Nat} {v : Value} {x : DataW H} {p : List MemPlace}
    (hv : Value.okWide Try.prog w r b0 26 v) (h : DataW.Trod enc Try.prog w base spare held 26 v x p) (hf : Fits Try.prog 26 x) :
    ∃ (Au : Option Addr) (cu : Nat) (us : List S69) (Ar : Option Addr) (cr : Nat) (rs : List S34), v = .agg #[.slice Au us.length cu, .slice Ar rs.length cr] ∧ us.length ≤ cu ∧ rs.length ≤ cr ∧ Kd.C k69 w Au us.length us ∧ Kd.C k34 w Ar rs.length rs ∧ Bg (us, rs) := by
  obtain ⟨⟨us, rs⟩, cs, rfl, ⟨c1, c2, e, ⟨Au, cu, e1, lu, hu⟩, ⟨Ar, cr, e2, lr, hr⟩⟩, hB⟩ := OpensB.argStruct Try.underlying26 opensB26 hv h hf
  subst e
  simp only at e1 e2
  subst e1
  subst e2
  exact ⟨Au, cu, us, Ar, cr, rs, rfl, lu, lr, hu, hr, hB⟩
end Go.Proofs.Ytmikgaphknbcaaa.B
