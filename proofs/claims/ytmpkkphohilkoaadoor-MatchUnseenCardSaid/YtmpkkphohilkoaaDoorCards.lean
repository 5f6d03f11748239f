/-
  DERIVED. GIVEN WITH THE SEED: THE CARDS: each row of YtmpkkphohilkoaaDoorRows.lean that lists a variable, with what it lists TIED to the program's text (the seventh form; the later family's looks); each row that meets fmt, with fmt's text TOLD by the authors' own Lean function (tested against real Go, not proved from fmt's source: count such statements apart). THE CARD IS WHAT COUNTS. Prove the row's statement (the work); the ties are given (YtmpkkphohilkoaaDoorTie.lean); close each card by the builder's one call (the guide's Derived/Test/ToyasCard.lean, 'card_holds'). Laid BY PROGRAM, IN A SANDBOX (cutbox-door.mjs). By AI agents, Wed Nov 11 2026. No macro, syntax, notation, axiom, sorry.
-/
import Derived.Test.YtmpkkphohilkoaaDoorRows
import GoSem.ClaimSeven
namespace Go.Proofs.YtmpkkphohilkoaaDoor
namespace Rows

/-- THE TIED CARD OF 'dowellaw14.MatchLimits'. -/
def matchLimitsCard : Claim7 := { stood := { row := matchLimitsRow, standIns := [], harness := (true, "46f44d3f4b1185adc155938e741827d7c45b9063ee4f70e2ef8792a233d6cf4d"), looks := false }, kinds := [], alts := [], laidByText := true, laidKinds := [.data], laidTests := true, laidLooks := .later }
def MatchLimitsCardSaid : Prop := Claim7.holds Tryd.pinned (.plain (OpenSpec.ofChange matchLimitsSpec)) matchLimitsCard

/-- THE TIED CARD OF 'dowellaw14.MatchUnseen'. -/
def matchUnseenCard : Claim7 := { stood := { row := matchUnseenRow, standIns := [], harness := (true, "46f44d3f4b1185adc155938e741827d7c45b9063ee4f70e2ef8792a233d6cf4d"), looks := false }, kinds := [], alts := [], laidByText := true, laidKinds := [.data], laidTests := true, laidLooks := .later }
def MatchUnseenCardSaid : Prop := Claim7.holds Tryd.pinned (.plain (OpenSpec.ofChange matchUnseenSpec)) matchUnseenCard

/-- THE TIED CARD OF 'dowellaw14.MatchWithin'. -/
def matchWithinCard : Claim7 := { stood := { row := matchWithinRow, standIns := [], harness := (true, "46f44d3f4b1185adc155938e741827d7c45b9063ee4f70e2ef8792a233d6cf4d"), looks := false }, kinds := [], alts := [], laidByText := true, laidKinds := [.data], laidTests := true, laidLooks := .later }
def MatchWithinCardSaid : Prop := Claim7.holds Tryd.pinned (.plain (OpenSpec.ofChange matchWithinSpec)) matchWithinCard

/-- THE SECOND FORM's CARD OF 'dowellaw14.MatchLimits'. -/
def matchLimitsUptoCard : Claim7 := { stood := { row := matchLimitsUptoRow, standIns := [], harness := (true, "46f44d3f4b1185adc155938e741827d7c45b9063ee4f70e2ef8792a233d6cf4d"), looks := false }, kinds := [], alts := [], laidByText := true, laidKinds := [.data], laidTests := true, laidLooks := .later }
def MatchLimitsUptoCardSaid : Prop := Claim7.holds Tryd.pinned (.plain (OpenSpec.upto matchLimitsSpec)) matchLimitsUptoCard

/-- THE SECOND FORM's CARD OF 'dowellaw14.MatchUnseen'. -/
def matchUnseenUptoCard : Claim7 := { stood := { row := matchUnseenUptoRow, standIns := [], harness := (true, "46f44d3f4b1185adc155938e741827d7c45b9063ee4f70e2ef8792a233d6cf4d"), looks := false }, kinds := [], alts := [], laidByText := true, laidKinds := [.data], laidTests := true, laidLooks := .later }
def MatchUnseenUptoCardSaid : Prop := Claim7.holds Tryd.pinned (.plain (OpenSpec.upto matchUnseenSpec)) matchUnseenUptoCard

/-- THE SECOND FORM's CARD OF 'dowellaw14.MatchWithin'. -/
def matchWithinUptoCard : Claim7 := { stood := { row := matchWithinUptoRow, standIns := [], harness := (true, "46f44d3f4b1185adc155938e741827d7c45b9063ee4f70e2ef8792a233d6cf4d"), looks := false }, kinds := [], alts := [], laidByText := true, laidKinds := [.data], laidTests := true, laidLooks := .later }
def MatchWithinUptoCardSaid : Prop := Claim7.holds Tryd.pinned (.plain (OpenSpec.upto matchWithinSpec)) matchWithinUptoCard
end Rows
end Go.Proofs.YtmpkkphohilkoaaDoor
