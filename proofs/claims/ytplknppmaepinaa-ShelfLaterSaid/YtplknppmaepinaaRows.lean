/-
  No cell of these rows narrows 'for every input' (looked for: loops, veiled, ifaces, maps, wideKeys, modest, calm, conditions, laid).
  DERIVED. THE GIVEN ROWS OF THIS SEAT. 5 by the template 'for every input the law returns true; each argument reads behind the call as it read before'; 0 by the template 'total and deterministic' (their statements: YtplknppmaepinaaTotals.lean).
  GIVEN WITH THE SEED: the statements are not yours to turn. If you find one false, say at which input.
  Laid BY PROGRAM, IN A SANDBOX (cutbox-rows.mjs): the forced cells as the released guide's own fill.sh prints them over the translation 904719fba3e15a64… (all of the seat's roots in one cut). By AI agents, Wed Nov 11 2026. No macro, syntax, notation, axiom, sorry.
-/
import Derived.Test.YtplknppmaepinaaChecked
import GoSem.Claim
import GoSem.ClaimJoined
import GoSem.ClaimMapViews
import Derived.JoinedTies
import Derived.KernelRfl
namespace Go.Proofs.Ytplknppmaepinaa
/- THE CELL 'sum', in the pinned program and in every row, IS THE sha256 OF THE DUMP (.gsa) THAT YtplknppmaepinaaProg.lean LOADS. Nothing in Lean hashes anything: it is a label: what it is worth is what the hold of that sum in a sandbox is worth. -/
noncomputable def Try.pinned : Pinned := { name := "ytplknppmaepinaa", sum := "904719fba3e15a64f47e5564f514222ecef832a450af0950dbe79490dedfd0ae", checked := Try.checked }
namespace Rows
def none {H : Type} : Left H := { results := [], args := [] }

/-- 'dowellaw01.ShelfMakes': WHATEVER THE INPUT: true; the input reads as it did. -/
def shelfMakesSpec : ChangeSpec := { name := "shelfMakes", fn := fun _ => fun
  | [d] => { results := [.lit (.bool true)], args := [d] }
  | _ => none }
def shelfMakesRow : OpenClaim := { program := "ytplknppmaepinaa", sum := "904719fba3e15a64f47e5564f514222ecef832a450af0950dbe79490dedfd0ae", func := "dowel/dowellaw01.ShelfMakes", spec := "shelfMakes", recurses := true, plainKeys := false, apart := false }
def ShelfMakesSaid : Prop := shelfMakesRow.holds Try.pinned (OpenSpec.ofChange shelfMakesSpec)

/-- ITS FALSE NEIGHBOUR: 'it returns false'. Refute it at one input. -/
def shelfMakesWrong : ChangeSpec := { name := "shelfMakes", fn := fun _ => fun
  | [d] => { results := [.lit (.bool false)], args := [d] }
  | _ => none }
def ShelfMakesWrongFalsely : Prop := shelfMakesRow.holds Try.pinned (OpenSpec.ofChange shelfMakesWrong)

/-- 'dowellaw01.ShelfLast': WHATEVER THE INPUT: true; the input reads as it did. -/
def shelfLastSpec : ChangeSpec := { name := "shelfLast", fn := fun _ => fun
  | [d] => { results := [.lit (.bool true)], args := [d] }
  | _ => none }
def shelfLastRow : OpenClaim := { program := "ytplknppmaepinaa", sum := "904719fba3e15a64f47e5564f514222ecef832a450af0950dbe79490dedfd0ae", func := "dowel/dowellaw01.ShelfLast", spec := "shelfLast", inPlace := ["internal/reflectlite.TypeOf"], unfollowed := true, recurses := true, plainKeys := false, apart := false }
def ShelfLastSaid : Prop := shelfLastRow.holds Try.pinned (OpenSpec.ofChange shelfLastSpec)

/-- ITS FALSE NEIGHBOUR: 'it returns false'. Refute it at one input. -/
def shelfLastWrong : ChangeSpec := { name := "shelfLast", fn := fun _ => fun
  | [d] => { results := [.lit (.bool false)], args := [d] }
  | _ => none }
def ShelfLastWrongFalsely : Prop := shelfLastRow.holds Try.pinned (OpenSpec.ofChange shelfLastWrong)

/-- 'dowellaw01.ShelfRoom': WHATEVER THE INPUT: true; the input reads as it did. -/
def shelfRoomSpec : ChangeSpec := { name := "shelfRoom", fn := fun _ => fun
  | [d1, d2] => { results := [.lit (.bool true)], args := [d1, d2] }
  | _ => none }
def shelfRoomRow : OpenClaim := { program := "ytplknppmaepinaa", sum := "904719fba3e15a64f47e5564f514222ecef832a450af0950dbe79490dedfd0ae", func := "dowel/dowellaw01.ShelfRoom", spec := "shelfRoom", inPlace := ["internal/reflectlite.TypeOf"], unfollowed := true, recurses := true, plainKeys := false, apart := false }
def ShelfRoomSaid : Prop := shelfRoomRow.holds Try.pinned (OpenSpec.ofChange shelfRoomSpec)

/-- ITS FALSE NEIGHBOUR: 'it returns false'. Refute it at one input. -/
def shelfRoomWrong : ChangeSpec := { name := "shelfRoom", fn := fun _ => fun
  | [d1, d2] => { results := [.lit (.bool false)], args := [d1, d2] }
  | _ => none }
def ShelfRoomWrongFalsely : Prop := shelfRoomRow.holds Try.pinned (OpenSpec.ofChange shelfRoomWrong)

/-- 'dowellaw01.ShelfPlays': WHATEVER THE INPUT: true; the input reads as it did. -/
def shelfPlaysSpec : ChangeSpec := { name := "shelfPlays", fn := fun _ => fun
  | [d1, d2, d3] => { results := [.lit (.bool true)], args := [d1, d2, d3] }
  | _ => none }
def shelfPlaysRow : OpenClaim := { program := "ytplknppmaepinaa", sum := "904719fba3e15a64f47e5564f514222ecef832a450af0950dbe79490dedfd0ae", func := "dowel/dowellaw01.ShelfPlays", spec := "shelfPlays", inPlace := ["internal/reflectlite.TypeOf", "maps.clone"], unfollowed := true, recurses := true, plainKeys := false, apart := false }
def ShelfPlaysSaid : Prop := shelfPlaysRow.holds Try.pinned (OpenSpec.ofChange shelfPlaysSpec)

/-- ITS FALSE NEIGHBOUR: 'it returns false'. Refute it at one input. -/
def shelfPlaysWrong : ChangeSpec := { name := "shelfPlays", fn := fun _ => fun
  | [d1, d2, d3] => { results := [.lit (.bool false)], args := [d1, d2, d3] }
  | _ => none }
def ShelfPlaysWrongFalsely : Prop := shelfPlaysRow.holds Try.pinned (OpenSpec.ofChange shelfPlaysWrong)

/-- 'dowellaw01.ShelfLater': WHATEVER THE INPUT: true; the input reads as it did. -/
def shelfLaterSpec : ChangeSpec := { name := "shelfLater", fn := fun _ => fun
  | [d1, d2, d3] => { results := [.lit (.bool true)], args := [d1, d2, d3] }
  | _ => none }
def shelfLaterRow : OpenClaim := { program := "ytplknppmaepinaa", sum := "904719fba3e15a64f47e5564f514222ecef832a450af0950dbe79490dedfd0ae", func := "dowel/dowellaw01.ShelfLater", spec := "shelfLater", inPlace := ["internal/reflectlite.TypeOf", "maps.clone"], unfollowed := true, recurses := true, plainKeys := false, apart := false }
def ShelfLaterSaid : Prop := shelfLaterRow.holds Try.pinned (OpenSpec.ofChange shelfLaterSpec)

/-- ITS FALSE NEIGHBOUR: 'it returns false'. Refute it at one input. -/
def shelfLaterWrong : ChangeSpec := { name := "shelfLater", fn := fun _ => fun
  | [d1, d2, d3] => { results := [.lit (.bool false)], args := [d1, d2, d3] }
  | _ => none }
def ShelfLaterWrongFalsely : Prop := shelfLaterRow.holds Try.pinned (OpenSpec.ofChange shelfLaterWrong)

/- THE SECOND FORM. 'bulk': how many values and letters a reading holds, each counted each time it is reached (what is shared counts as often as it is met; a slice's spare places count too). A statement '..UptoSaid' is the law's where the arguments, and the package variables that the reading takes, are together of bulk at most 1048576: NARROWER than '..Said'. Prove '..Said' where nothing that the law and all that it calls make is longer than what came in: it says more and counts as full. Else prove '..UptoSaid'. A law counts once. -/
mutual
def uptoBulk {H : Type} : DataW H → Nat
  | .lit (.string bytes) => bytes.length + 1
  | .lit _ => 1
  | .nil => 1
  | .ptr d => uptoBulk d + 1
  | .slice elems spare => uptoBulkAll elems + uptoBulkAll spare + 1
  | .agg parts => uptoBulkAll parts + 1
  | .iface _ d => uptoBulk d + 1
  | .map entries => uptoBulkEntries entries + 1
  | .held _ => 1
def uptoBulkAll {H : Type} : List (DataW H) → Nat
  | [] => 0
  | d :: r => uptoBulk d + uptoBulkAll r
def uptoBulkEntries {H : Type} : List (Lit × DataW H) → Nat
  | [] => 0
  | x :: r => uptoBulkEntry x + uptoBulkEntries r
def uptoBulkEntry {H : Type} : Lit × DataW H → Nat
  | (.string bytes, d) => bytes.length + uptoBulk d + 1
  | (_, d) => uptoBulk d + 1
 end
def uptoSmall : (H : Type) → List (DataW H) → Bool := fun _ ds => decide (uptoBulkAll ds ≤ 1048576)
def OpenSpec.upto (s : _root_.Go.ChangeSpec) : _root_.Go.OpenSpec := { _root_.Go.OpenSpec.ofChange s with cond := some uptoSmall }

/-- 'dowellaw01.ShelfMakes', WHERE WHAT IT READS IS OF BULK AT MOST 1048576: true; the input reads as it did. -/
def shelfMakesUptoRow : OpenClaim := { program := "ytplknppmaepinaa", sum := "904719fba3e15a64f47e5564f514222ecef832a450af0950dbe79490dedfd0ae", func := "dowel/dowellaw01.ShelfMakes", spec := "shelfMakes", recurses := true, plainKeys := false, apart := false, narrowed := true }
def ShelfMakesUptoSaid : Prop := shelfMakesUptoRow.holds Try.pinned (OpenSpec.upto shelfMakesSpec)

/-- 'dowellaw01.ShelfLast', WHERE WHAT IT READS IS OF BULK AT MOST 1048576: true; the input reads as it did. -/
def shelfLastUptoRow : OpenClaim := { program := "ytplknppmaepinaa", sum := "904719fba3e15a64f47e5564f514222ecef832a450af0950dbe79490dedfd0ae", func := "dowel/dowellaw01.ShelfLast", spec := "shelfLast", inPlace := ["internal/reflectlite.TypeOf"], unfollowed := true, recurses := true, plainKeys := false, apart := false, narrowed := true }
def ShelfLastUptoSaid : Prop := shelfLastUptoRow.holds Try.pinned (OpenSpec.upto shelfLastSpec)

/-- 'dowellaw01.ShelfRoom', WHERE WHAT IT READS IS OF BULK AT MOST 1048576: true; the input reads as it did. -/
def shelfRoomUptoRow : OpenClaim := { program := "ytplknppmaepinaa", sum := "904719fba3e15a64f47e5564f514222ecef832a450af0950dbe79490dedfd0ae", func := "dowel/dowellaw01.ShelfRoom", spec := "shelfRoom", inPlace := ["internal/reflectlite.TypeOf"], unfollowed := true, recurses := true, plainKeys := false, apart := false, narrowed := true }
def ShelfRoomUptoSaid : Prop := shelfRoomUptoRow.holds Try.pinned (OpenSpec.upto shelfRoomSpec)

/-- 'dowellaw01.ShelfPlays', WHERE WHAT IT READS IS OF BULK AT MOST 1048576: true; the input reads as it did. -/
def shelfPlaysUptoRow : OpenClaim := { program := "ytplknppmaepinaa", sum := "904719fba3e15a64f47e5564f514222ecef832a450af0950dbe79490dedfd0ae", func := "dowel/dowellaw01.ShelfPlays", spec := "shelfPlays", inPlace := ["internal/reflectlite.TypeOf", "maps.clone"], unfollowed := true, recurses := true, plainKeys := false, apart := false, narrowed := true }
def ShelfPlaysUptoSaid : Prop := shelfPlaysUptoRow.holds Try.pinned (OpenSpec.upto shelfPlaysSpec)

/-- 'dowellaw01.ShelfLater', WHERE WHAT IT READS IS OF BULK AT MOST 1048576: true; the input reads as it did. -/
def shelfLaterUptoRow : OpenClaim := { program := "ytplknppmaepinaa", sum := "904719fba3e15a64f47e5564f514222ecef832a450af0950dbe79490dedfd0ae", func := "dowel/dowellaw01.ShelfLater", spec := "shelfLater", inPlace := ["internal/reflectlite.TypeOf", "maps.clone"], unfollowed := true, recurses := true, plainKeys := false, apart := false, narrowed := true }
def ShelfLaterUptoSaid : Prop := shelfLaterUptoRow.holds Try.pinned (OpenSpec.upto shelfLaterSpec)

end Rows
end Go.Proofs.Ytplknppmaepinaa
