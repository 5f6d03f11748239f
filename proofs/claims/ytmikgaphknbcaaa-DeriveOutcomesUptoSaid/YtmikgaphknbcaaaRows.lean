/-
  No cell of these rows narrows 'for every input' (looked for: loops, veiled, ifaces, maps, wideKeys, modest, calm, conditions, laid).
  DERIVED. THE GIVEN ROWS OF THIS SEAT. 12 by the template 'for every input the law returns true; each argument reads behind the call as it read before'; 0 by the template 'total and deterministic' (their statements: YtmikgaphknbcaaaTotals.lean).
  GIVEN WITH THE SEED: the statements are not yours to turn. If you find one false, say at which input.
  Laid BY PROGRAM, IN A SANDBOX (cutbox-rows.mjs): the forced cells as the released guide's own fill.sh prints them over the translation a2816968815b56f8… (all of the seat's roots in one cut). By AI agents, Wed Nov 11 2026. No macro, syntax, notation, axiom, sorry.
-/
import Derived.Test.YtmikgaphknbcaaaChecked
import GoSem.Claim
import GoSem.ClaimJoined
import GoSem.ClaimMapViews
import Derived.JoinedTies
import Derived.KernelRfl
namespace Go.Proofs.Ytmikgaphknbcaaa
/- THE CELL 'sum', in the pinned program and in every row, IS THE sha256 OF THE DUMP (.gsa) THAT YtmikgaphknbcaaaProg.lean LOADS. Nothing in Lean hashes anything: it is a label: what it is worth is what the hold of that sum in a sandbox is worth. -/
noncomputable def Try.pinned : Pinned := { name := "ytmikgaphknbcaaa", sum := "a2816968815b56f87b1c1a5d672a86b488dc0cb72302682da1b219c804d1e58f", checked := Try.checked }
namespace Rows
def none {H : Type} : Left H := { results := [], args := [] }

/-- 'dowellaw01.ShelfNames': WHATEVER THE INPUT: true; the input reads as it did. -/
def shelfNamesSpec : ChangeSpec := { name := "shelfNames", fn := fun _ => fun
  | [] => { results := [.lit (.bool true)], args := [] }
  | _ => none }
def shelfNamesRow : OpenClaim := { program := "ytmikgaphknbcaaa", sum := "a2816968815b56f87b1c1a5d672a86b488dc0cb72302682da1b219c804d1e58f", func := "dowel/dowellaw01.ShelfNames", spec := "shelfNames", apart := false }
def ShelfNamesSaid : Prop := shelfNamesRow.holds Try.pinned (OpenSpec.ofChange shelfNamesSpec)

/-- ITS FALSE NEIGHBOUR: 'it returns false'. Refute it at one input. -/
def shelfNamesWrong : ChangeSpec := { name := "shelfNames", fn := fun _ => fun
  | [] => { results := [.lit (.bool false)], args := [] }
  | _ => none }
def ShelfNamesWrongFalsely : Prop := shelfNamesRow.holds Try.pinned (OpenSpec.ofChange shelfNamesWrong)

/-- 'dowellaw05.GrammarNames': WHATEVER THE INPUT: true; the input reads as it did. -/
def grammarNamesSpec : ChangeSpec := { name := "grammarNames", fn := fun _ => fun
  | [] => { results := [.lit (.bool true)], args := [] }
  | _ => none }
def grammarNamesRow : OpenClaim := { program := "ytmikgaphknbcaaa", sum := "a2816968815b56f87b1c1a5d672a86b488dc0cb72302682da1b219c804d1e58f", func := "dowel/dowellaw05.GrammarNames", spec := "grammarNames", apart := false }
def GrammarNamesSaid : Prop := grammarNamesRow.holds Try.pinned (OpenSpec.ofChange grammarNamesSpec)

/-- ITS FALSE NEIGHBOUR: 'it returns false'. Refute it at one input. -/
def grammarNamesWrong : ChangeSpec := { name := "grammarNames", fn := fun _ => fun
  | [] => { results := [.lit (.bool false)], args := [] }
  | _ => none }
def GrammarNamesWrongFalsely : Prop := grammarNamesRow.holds Try.pinned (OpenSpec.ofChange grammarNamesWrong)

/-- 'dowellaw07.ModuleNames': WHATEVER THE INPUT: true; the input reads as it did. -/
def moduleNamesSpec : ChangeSpec := { name := "moduleNames", fn := fun _ => fun
  | [] => { results := [.lit (.bool true)], args := [] }
  | _ => none }
def moduleNamesRow : OpenClaim := { program := "ytmikgaphknbcaaa", sum := "a2816968815b56f87b1c1a5d672a86b488dc0cb72302682da1b219c804d1e58f", func := "dowel/dowellaw07.ModuleNames", spec := "moduleNames", apart := false }
def ModuleNamesSaid : Prop := moduleNamesRow.holds Try.pinned (OpenSpec.ofChange moduleNamesSpec)

/-- ITS FALSE NEIGHBOUR: 'it returns false'. Refute it at one input. -/
def moduleNamesWrong : ChangeSpec := { name := "moduleNames", fn := fun _ => fun
  | [] => { results := [.lit (.bool false)], args := [] }
  | _ => none }
def ModuleNamesWrongFalsely : Prop := moduleNamesRow.holds Try.pinned (OpenSpec.ofChange moduleNamesWrong)

/-- 'dowellaw14.MatchNames': WHATEVER THE INPUT: true; the input reads as it did. -/
def matchNamesSpec : ChangeSpec := { name := "matchNames", fn := fun _ => fun
  | [] => { results := [.lit (.bool true)], args := [] }
  | _ => none }
def matchNamesRow : OpenClaim := { program := "ytmikgaphknbcaaa", sum := "a2816968815b56f87b1c1a5d672a86b488dc0cb72302682da1b219c804d1e58f", func := "dowel/dowellaw14.MatchNames", spec := "matchNames", apart := false }
def MatchNamesSaid : Prop := matchNamesRow.holds Try.pinned (OpenSpec.ofChange matchNamesSpec)

/-- ITS FALSE NEIGHBOUR: 'it returns false'. Refute it at one input. -/
def matchNamesWrong : ChangeSpec := { name := "matchNames", fn := fun _ => fun
  | [] => { results := [.lit (.bool false)], args := [] }
  | _ => none }
def MatchNamesWrongFalsely : Prop := matchNamesRow.holds Try.pinned (OpenSpec.ofChange matchNamesWrong)

/-- 'dowellaw29.ShellNames': WHATEVER THE INPUT: true; the input reads as it did. -/
def shellNamesSpec : ChangeSpec := { name := "shellNames", fn := fun _ => fun
  | [] => { results := [.lit (.bool true)], args := [] }
  | _ => none }
def shellNamesRow : OpenClaim := { program := "ytmikgaphknbcaaa", sum := "a2816968815b56f87b1c1a5d672a86b488dc0cb72302682da1b219c804d1e58f", func := "dowel/dowellaw29.ShellNames", spec := "shellNames", apart := false }
def ShellNamesSaid : Prop := shellNamesRow.holds Try.pinned (OpenSpec.ofChange shellNamesSpec)

/-- ITS FALSE NEIGHBOUR: 'it returns false'. Refute it at one input. -/
def shellNamesWrong : ChangeSpec := { name := "shellNames", fn := fun _ => fun
  | [] => { results := [.lit (.bool false)], args := [] }
  | _ => none }
def ShellNamesWrongFalsely : Prop := shellNamesRow.holds Try.pinned (OpenSpec.ofChange shellNamesWrong)

/-- 'dowellaw06.ScriptNames': WHATEVER THE INPUT: true; the input reads as it did. -/
def scriptNamesSpec : ChangeSpec := { name := "scriptNames", fn := fun _ => fun
  | [] => { results := [.lit (.bool true)], args := [] }
  | _ => none }
def scriptNamesRow : OpenClaim := { program := "ytmikgaphknbcaaa", sum := "a2816968815b56f87b1c1a5d672a86b488dc0cb72302682da1b219c804d1e58f", func := "dowel/dowellaw06.ScriptNames", spec := "scriptNames", apart := false }
def ScriptNamesSaid : Prop := scriptNamesRow.holds Try.pinned (OpenSpec.ofChange scriptNamesSpec)

/-- ITS FALSE NEIGHBOUR: 'it returns false'. Refute it at one input. -/
def scriptNamesWrong : ChangeSpec := { name := "scriptNames", fn := fun _ => fun
  | [] => { results := [.lit (.bool false)], args := [] }
  | _ => none }
def ScriptNamesWrongFalsely : Prop := scriptNamesRow.holds Try.pinned (OpenSpec.ofChange scriptNamesWrong)

/-- 'dowellaw08.MacroNames': WHATEVER THE INPUT: true; the input reads as it did. -/
def macroNamesSpec : ChangeSpec := { name := "macroNames", fn := fun _ => fun
  | [] => { results := [.lit (.bool true)], args := [] }
  | _ => none }
def macroNamesRow : OpenClaim := { program := "ytmikgaphknbcaaa", sum := "a2816968815b56f87b1c1a5d672a86b488dc0cb72302682da1b219c804d1e58f", func := "dowel/dowellaw08.MacroNames", spec := "macroNames", apart := false }
def MacroNamesSaid : Prop := macroNamesRow.holds Try.pinned (OpenSpec.ofChange macroNamesSpec)

/-- ITS FALSE NEIGHBOUR: 'it returns false'. Refute it at one input. -/
def macroNamesWrong : ChangeSpec := { name := "macroNames", fn := fun _ => fun
  | [] => { results := [.lit (.bool false)], args := [] }
  | _ => none }
def MacroNamesWrongFalsely : Prop := macroNamesRow.holds Try.pinned (OpenSpec.ofChange macroNamesWrong)

/-- 'dowellaw13.DeriveNames': WHATEVER THE INPUT: true; the input reads as it did. -/
def deriveNamesSpec : ChangeSpec := { name := "deriveNames", fn := fun _ => fun
  | [] => { results := [.lit (.bool true)], args := [] }
  | _ => none }
def deriveNamesRow : OpenClaim := { program := "ytmikgaphknbcaaa", sum := "a2816968815b56f87b1c1a5d672a86b488dc0cb72302682da1b219c804d1e58f", func := "dowel/dowellaw13.DeriveNames", spec := "deriveNames", apart := false }
def DeriveNamesSaid : Prop := deriveNamesRow.holds Try.pinned (OpenSpec.ofChange deriveNamesSpec)

/-- ITS FALSE NEIGHBOUR: 'it returns false'. Refute it at one input. -/
def deriveNamesWrong : ChangeSpec := { name := "deriveNames", fn := fun _ => fun
  | [] => { results := [.lit (.bool false)], args := [] }
  | _ => none }
def DeriveNamesWrongFalsely : Prop := deriveNamesRow.holds Try.pinned (OpenSpec.ofChange deriveNamesWrong)

/-- 'dowellaw08.MacroFlats': WHATEVER THE INPUT: true; the input reads as it did. -/
def macroFlatsSpec : ChangeSpec := { name := "macroFlats", fn := fun _ => fun
  | [d] => { results := [.lit (.bool true)], args := [d] }
  | _ => none }
def macroFlatsRow : OpenClaim := { program := "ytmikgaphknbcaaa", sum := "a2816968815b56f87b1c1a5d672a86b488dc0cb72302682da1b219c804d1e58f", func := "dowel/dowellaw08.MacroFlats", spec := "macroFlats", apart := false }
def MacroFlatsSaid : Prop := macroFlatsRow.holds Try.pinned (OpenSpec.ofChange macroFlatsSpec)

/-- ITS FALSE NEIGHBOUR: 'it returns false'. Refute it at one input. -/
def macroFlatsWrong : ChangeSpec := { name := "macroFlats", fn := fun _ => fun
  | [d] => { results := [.lit (.bool false)], args := [d] }
  | _ => none }
def MacroFlatsWrongFalsely : Prop := macroFlatsRow.holds Try.pinned (OpenSpec.ofChange macroFlatsWrong)

/-- 'dowellaw06.ScriptParts': WHATEVER THE INPUT: true; the input reads as it did. -/
def scriptPartsSpec : ChangeSpec := { name := "scriptParts", fn := fun _ => fun
  | [d1, d2, d3] => { results := [.lit (.bool true)], args := [d1, d2, d3] }
  | _ => none }
def scriptPartsRow : OpenClaim := { program := "ytmikgaphknbcaaa", sum := "a2816968815b56f87b1c1a5d672a86b488dc0cb72302682da1b219c804d1e58f", func := "dowel/dowellaw06.ScriptParts", spec := "scriptParts", apart := false }
def ScriptPartsSaid : Prop := scriptPartsRow.holds Try.pinned (OpenSpec.ofChange scriptPartsSpec)

/-- ITS FALSE NEIGHBOUR: 'it returns false'. Refute it at one input. -/
def scriptPartsWrong : ChangeSpec := { name := "scriptParts", fn := fun _ => fun
  | [d1, d2, d3] => { results := [.lit (.bool false)], args := [d1, d2, d3] }
  | _ => none }
def ScriptPartsWrongFalsely : Prop := scriptPartsRow.holds Try.pinned (OpenSpec.ofChange scriptPartsWrong)

/-- 'dowellaw06.ScriptChecks': WHATEVER THE INPUT: true; the input reads as it did. -/
def scriptChecksSpec : ChangeSpec := { name := "scriptChecks", fn := fun _ => fun
  | [d1, d2] => { results := [.lit (.bool true)], args := [d1, d2] }
  | _ => none }
def scriptChecksRow : OpenClaim := { program := "ytmikgaphknbcaaa", sum := "a2816968815b56f87b1c1a5d672a86b488dc0cb72302682da1b219c804d1e58f", func := "dowel/dowellaw06.ScriptChecks", spec := "scriptChecks", apart := false }
def ScriptChecksSaid : Prop := scriptChecksRow.holds Try.pinned (OpenSpec.ofChange scriptChecksSpec)

/-- ITS FALSE NEIGHBOUR: 'it returns false'. Refute it at one input. -/
def scriptChecksWrong : ChangeSpec := { name := "scriptChecks", fn := fun _ => fun
  | [d1, d2] => { results := [.lit (.bool false)], args := [d1, d2] }
  | _ => none }
def ScriptChecksWrongFalsely : Prop := scriptChecksRow.holds Try.pinned (OpenSpec.ofChange scriptChecksWrong)

/-- 'dowellaw13.DeriveOutcomes': WHATEVER THE INPUT: true; the input reads as it did. -/
def deriveOutcomesSpec : ChangeSpec := { name := "deriveOutcomes", fn := fun _ => fun
  | [d1, d2] => { results := [.lit (.bool true)], args := [d1, d2] }
  | _ => none }
def deriveOutcomesRow : OpenClaim := { program := "ytmikgaphknbcaaa", sum := "a2816968815b56f87b1c1a5d672a86b488dc0cb72302682da1b219c804d1e58f", func := "dowel/dowellaw13.DeriveOutcomes", spec := "deriveOutcomes", recurses := true, apart := false }
def DeriveOutcomesSaid : Prop := deriveOutcomesRow.holds Try.pinned (OpenSpec.ofChange deriveOutcomesSpec)

/-- ITS FALSE NEIGHBOUR: 'it returns false'. Refute it at one input. -/
def deriveOutcomesWrong : ChangeSpec := { name := "deriveOutcomes", fn := fun _ => fun
  | [d1, d2] => { results := [.lit (.bool false)], args := [d1, d2] }
  | _ => none }
def DeriveOutcomesWrongFalsely : Prop := deriveOutcomesRow.holds Try.pinned (OpenSpec.ofChange deriveOutcomesWrong)

/- THE SECOND FORM. 'bulk': how many values and letters a reading holds, each counted each time it is reached (what is shared counts as often as it is met; a slice's spare places count too). A statement '..UptoSaid' is the law's where the arguments, and the package variables that the reading takes, are together of bulk at most 1048576: NARROWER than '..Said'. Prove '..Said' where nothing that the law and all that it calls make is longer than what came in: it says more and counts as full. Else prove '..UptoSaid'. A law counts once. -/
mutual
def uptoBulk {H : Type} : DataW H → Nat
  | .lit (.string bytes) => bytes.length + 1
  | .lit _ => 1
  | .nil => 1
  | .ptr d => uptoBulk d + 1
  | .slice elems spare => uptoBulkAll elems + uptoBulkAll spare + 1
  | .agg parts => uptoBulkAll parts + 1
  | .iface _ d => uptoBulk d + 1
  | .map entries => uptoBulkEntries entries + 1
  | .held _ => 1
def uptoBulkAll {H : Type} : List (DataW H) → Nat
  | [] => 0
  | d :: r => uptoBulk d + uptoBulkAll r
def uptoBulkEntries {H : Type} : List (Lit × DataW H) → Nat
  | [] => 0
  | x :: r => uptoBulkEntry x + uptoBulkEntries r
def uptoBulkEntry {H : Type} : Lit × DataW H → Nat
  | (.string bytes, d) => bytes.length + uptoBulk d + 1
  | (_, d) => uptoBulk d + 1
 end
def uptoSmall : (H : Type) → List (DataW H) → Bool := fun _ ds => decide (uptoBulkAll ds ≤ 1048576)
def OpenSpec.upto (s : _root_.Go.ChangeSpec) : _root_.Go.OpenSpec := { _root_.Go.OpenSpec.ofChange s with cond := some uptoSmall }

/-- 'dowellaw01.ShelfNames', WHERE WHAT IT READS IS OF BULK AT MOST 1048576: true; the input reads as it did. -/
def shelfNamesUptoRow : OpenClaim := { program := "ytmikgaphknbcaaa", sum := "a2816968815b56f87b1c1a5d672a86b488dc0cb72302682da1b219c804d1e58f", func := "dowel/dowellaw01.ShelfNames", spec := "shelfNames", apart := false, narrowed := true }
def ShelfNamesUptoSaid : Prop := shelfNamesUptoRow.holds Try.pinned (OpenSpec.upto shelfNamesSpec)

/-- 'dowellaw05.GrammarNames', WHERE WHAT IT READS IS OF BULK AT MOST 1048576: true; the input reads as it did. -/
def grammarNamesUptoRow : OpenClaim := { program := "ytmikgaphknbcaaa", sum := "a2816968815b56f87b1c1a5d672a86b488dc0cb72302682da1b219c804d1e58f", func := "dowel/dowellaw05.GrammarNames", spec := "grammarNames", apart := false, narrowed := true }
def GrammarNamesUptoSaid : Prop := grammarNamesUptoRow.holds Try.pinned (OpenSpec.upto grammarNamesSpec)

/-- 'dowellaw07.ModuleNames', WHERE WHAT IT READS IS OF BULK AT MOST 1048576: true; the input reads as it did. -/
def moduleNamesUptoRow : OpenClaim := { program := "ytmikgaphknbcaaa", sum := "a2816968815b56f87b1c1a5d672a86b488dc0cb72302682da1b219c804d1e58f", func := "dowel/dowellaw07.ModuleNames", spec := "moduleNames", apart := false, narrowed := true }
def ModuleNamesUptoSaid : Prop := moduleNamesUptoRow.holds Try.pinned (OpenSpec.upto moduleNamesSpec)

/-- 'dowellaw14.MatchNames', WHERE WHAT IT READS IS OF BULK AT MOST 1048576: true; the input reads as it did. -/
def matchNamesUptoRow : OpenClaim := { program := "ytmikgaphknbcaaa", sum := "a2816968815b56f87b1c1a5d672a86b488dc0cb72302682da1b219c804d1e58f", func := "dowel/dowellaw14.MatchNames", spec := "matchNames", apart := false, narrowed := true }
def MatchNamesUptoSaid : Prop := matchNamesUptoRow.holds Try.pinned (OpenSpec.upto matchNamesSpec)

/-- 'dowellaw29.ShellNames', WHERE WHAT IT READS IS OF BULK AT MOST 1048576: true; the input reads as it did. -/
def shellNamesUptoRow : OpenClaim := { program := "ytmikgaphknbcaaa", sum := "a2816968815b56f87b1c1a5d672a86b488dc0cb72302682da1b219c804d1e58f", func := "dowel/dowellaw29.ShellNames", spec := "shellNames", apart := false, narrowed := true }
def ShellNamesUptoSaid : Prop := shellNamesUptoRow.holds Try.pinned (OpenSpec.upto shellNamesSpec)

/-- 'dowellaw06.ScriptNames', WHERE WHAT IT READS IS OF BULK AT MOST 1048576: true; the input reads as it did. -/
def scriptNamesUptoRow : OpenClaim := { program := "ytmikgaphknbcaaa", sum := "a2816968815b56f87b1c1a5d672a86b488dc0cb72302682da1b219c804d1e58f", func := "dowel/dowellaw06.ScriptNames", spec := "scriptNames", apart := false, narrowed := true }
def ScriptNamesUptoSaid : Prop := scriptNamesUptoRow.holds Try.pinned (OpenSpec.upto scriptNamesSpec)

/-- 'dowellaw08.MacroNames', WHERE WHAT IT READS IS OF BULK AT MOST 1048576: true; the input reads as it did. -/
def macroNamesUptoRow : OpenClaim := { program := "ytmikgaphknbcaaa", sum := "a2816968815b56f87b1c1a5d672a86b488dc0cb72302682da1b219c804d1e58f", func := "dowel/dowellaw08.MacroNames", spec := "macroNames", apart := false, narrowed := true }
def MacroNamesUptoSaid : Prop := macroNamesUptoRow.holds Try.pinned (OpenSpec.upto macroNamesSpec)

/-- 'dowellaw13.DeriveNames', WHERE WHAT IT READS IS OF BULK AT MOST 1048576: true; the input reads as it did. -/
def deriveNamesUptoRow : OpenClaim := { program := "ytmikgaphknbcaaa", sum := "a2816968815b56f87b1c1a5d672a86b488dc0cb72302682da1b219c804d1e58f", func := "dowel/dowellaw13.DeriveNames", spec := "deriveNames", apart := false, narrowed := true }
def DeriveNamesUptoSaid : Prop := deriveNamesUptoRow.holds Try.pinned (OpenSpec.upto deriveNamesSpec)

/-- 'dowellaw08.MacroFlats', WHERE WHAT IT READS IS OF BULK AT MOST 1048576: true; the input reads as it did. -/
def macroFlatsUptoRow : OpenClaim := { program := "ytmikgaphknbcaaa", sum := "a2816968815b56f87b1c1a5d672a86b488dc0cb72302682da1b219c804d1e58f", func := "dowel/dowellaw08.MacroFlats", spec := "macroFlats", apart := false, narrowed := true }
def MacroFlatsUptoSaid : Prop := macroFlatsUptoRow.holds Try.pinned (OpenSpec.upto macroFlatsSpec)

/-- 'dowellaw06.ScriptParts', WHERE WHAT IT READS IS OF BULK AT MOST 1048576: true; the input reads as it did. -/
def scriptPartsUptoRow : OpenClaim := { program := "ytmikgaphknbcaaa", sum := "a2816968815b56f87b1c1a5d672a86b488dc0cb72302682da1b219c804d1e58f", func := "dowel/dowellaw06.ScriptParts", spec := "scriptParts", apart := false, narrowed := true }
def ScriptPartsUptoSaid : Prop := scriptPartsUptoRow.holds Try.pinned (OpenSpec.upto scriptPartsSpec)

/-- 'dowellaw06.ScriptChecks', WHERE WHAT IT READS IS OF BULK AT MOST 1048576: true; the input reads as it did. -/
def scriptChecksUptoRow : OpenClaim := { program := "ytmikgaphknbcaaa", sum := "a2816968815b56f87b1c1a5d672a86b488dc0cb72302682da1b219c804d1e58f", func := "dowel/dowellaw06.ScriptChecks", spec := "scriptChecks", apart := false, narrowed := true }
def ScriptChecksUptoSaid : Prop := scriptChecksUptoRow.holds Try.pinned (OpenSpec.upto scriptChecksSpec)

/-- 'dowellaw13.DeriveOutcomes', WHERE WHAT IT READS IS OF BULK AT MOST 1048576: true; the input reads as it did. -/
def deriveOutcomesUptoRow : OpenClaim := { program := "ytmikgaphknbcaaa", sum := "a2816968815b56f87b1c1a5d672a86b488dc0cb72302682da1b219c804d1e58f", func := "dowel/dowellaw13.DeriveOutcomes", spec := "deriveOutcomes", recurses := true, apart := false, narrowed := true }
def DeriveOutcomesUptoSaid : Prop := deriveOutcomesUptoRow.holds Try.pinned (OpenSpec.upto deriveOutcomesSpec)

end Rows
end Go.Proofs.Ytmikgaphknbcaaa
