/-
  NARROWER THAN 'FOR EVERY INPUT', by the rows' own cells (each row's printed sentence says how): MatchLimits: laid · MatchUnseen: laid · MatchWithin: laid.
  DERIVED. THE GIVEN ROWS OF THIS SEAT. 3 by the template 'for every input the law returns true; each argument reads behind the call as it read before'; 0 by the template 'total and deterministic' (their statements: YtmpkkphohilkoaaDoorTotals.lean).
  GIVEN WITH THE SEED: the statements are not yours to turn. If you find one false, say at which input.
  Laid BY PROGRAM, IN A SANDBOX (cutbox-rows.mjs): the forced cells as the released guide's own fill.sh prints them over the translation bef64db54981f61d… (all of the seat's roots in one cut). By AI agents, Wed Nov 11 2026. No macro, syntax, notation, axiom, sorry.
-/
import Derived.Test.YtmpkkphohilkoaaDoorChecked
import GoSem.Claim
import GoSem.ClaimJoined
import GoSem.ClaimMapViews
import Derived.JoinedTies
import Derived.KernelRfl
namespace Go.Proofs.YtmpkkphohilkoaaDoor
/- THE CELL 'sum', in the pinned program and in every row, IS THE sha256 OF THE DUMP (.gsa) THAT YtmpkkphohilkoaaDoorProg.lean LOADS. Nothing in Lean hashes anything: it is a label: what it is worth is what the hold of that sum in a sandbox is worth. -/
noncomputable def Tryd.pinned : Pinned := { name := "ytmpkkphohilkoaadoor", sum := "bef64db54981f61d525304e62eaa544f3d58ca4f2ee66be3d185cef0220de7da", checked := Tryd.checked }
namespace Rows
def none {H : Type} : Left H := { results := [], args := [] }

/- WHAT THE LISTED PACKAGE-LEVEL VARIABLES READ AS WHEN THE CALL BEGINS. Each datum BY PROGRAM (the guide's laid-datum.mjs) off the statement by which the dump's own 'gosem.cut.vars' lays the variable. In a bare row this is a premise. The card (YtmpkkphohilkoaaDoorCards.lean) ties it to the program's text. -/
def laid_dowel_dowellaw14_a {H : Type} : DataW H := .agg [.lit (.int .u64 0), .lit (.int .u64 8589934592), .lit (.int .u64 0), .lit (.int .u64 0)]

/-- 'dowellaw14.MatchLimits': WHATEVER THE INPUT: true; the input reads as it did. -/
def matchLimitsSpec : ChangeSpec := { name := "matchLimits", fn := fun _ => fun
  | [d1, d2, d3] => { results := [.lit (.bool true)], args := [d1, d2, d3] }
  | _ => none }
def matchLimitsRow : OpenClaim := { program := "ytmpkkphohilkoaadoor", sum := "bef64db54981f61d525304e62eaa544f3d58ca4f2ee66be3d185cef0220de7da", func := "dowel/dowellaw14.MatchLimits", spec := "matchLimits", inPlace := ["internal/bytealg.IndexByteString", "internal/bytealg.IndexString"], unfollowed := true, recurses := true, named := ["dowel/dowellaw14.a", "internal/bytealg.MaxLen"], apart := false, laid := [("dowel/dowellaw14.a", laid_dowel_dowellaw14_a)] }
def MatchLimitsSaid : Prop := matchLimitsRow.holds Tryd.pinned (OpenSpec.ofChange matchLimitsSpec)

/-- ITS FALSE NEIGHBOUR: 'it returns false'. Refute it at one input. -/
def matchLimitsWrong : ChangeSpec := { name := "matchLimits", fn := fun _ => fun
  | [d1, d2, d3] => { results := [.lit (.bool false)], args := [d1, d2, d3] }
  | _ => none }
def MatchLimitsWrongFalsely : Prop := matchLimitsRow.holds Tryd.pinned (OpenSpec.ofChange matchLimitsWrong)

/-- 'dowellaw14.MatchUnseen': WHATEVER THE INPUT: true; the input reads as it did. -/
def matchUnseenSpec : ChangeSpec := { name := "matchUnseen", fn := fun _ => fun
  | [d1, d2] => { results := [.lit (.bool true)], args := [d1, d2] }
  | _ => none }
def matchUnseenRow : OpenClaim := { program := "ytmpkkphohilkoaadoor", sum := "bef64db54981f61d525304e62eaa544f3d58ca4f2ee66be3d185cef0220de7da", func := "dowel/dowellaw14.MatchUnseen", spec := "matchUnseen", inPlace := ["internal/bytealg.IndexByteString", "internal/bytealg.IndexString"], unfollowed := true, recurses := true, named := ["dowel/dowellaw14.a", "internal/bytealg.MaxLen"], apart := false, laid := [("dowel/dowellaw14.a", laid_dowel_dowellaw14_a)] }
def MatchUnseenSaid : Prop := matchUnseenRow.holds Tryd.pinned (OpenSpec.ofChange matchUnseenSpec)

/-- ITS FALSE NEIGHBOUR: 'it returns false'. Refute it at one input. -/
def matchUnseenWrong : ChangeSpec := { name := "matchUnseen", fn := fun _ => fun
  | [d1, d2] => { results := [.lit (.bool false)], args := [d1, d2] }
  | _ => none }
def MatchUnseenWrongFalsely : Prop := matchUnseenRow.holds Tryd.pinned (OpenSpec.ofChange matchUnseenWrong)

/-- 'dowellaw14.MatchWithin': WHATEVER THE INPUT: true; the input reads as it did. -/
def matchWithinSpec : ChangeSpec := { name := "matchWithin", fn := fun _ => fun
  | [d1, d2, d3, d4] => { results := [.lit (.bool true)], args := [d1, d2, d3, d4] }
  | _ => none }
def matchWithinRow : OpenClaim := { program := "ytmpkkphohilkoaadoor", sum := "bef64db54981f61d525304e62eaa544f3d58ca4f2ee66be3d185cef0220de7da", func := "dowel/dowellaw14.MatchWithin", spec := "matchWithin", inPlace := ["internal/bytealg.IndexByteString", "internal/bytealg.IndexString"], unfollowed := true, recurses := true, named := ["dowel/dowellaw14.a", "internal/bytealg.MaxLen"], apart := false, laid := [("dowel/dowellaw14.a", laid_dowel_dowellaw14_a)] }
def MatchWithinSaid : Prop := matchWithinRow.holds Tryd.pinned (OpenSpec.ofChange matchWithinSpec)

/-- ITS FALSE NEIGHBOUR: 'it returns false'. Refute it at one input. -/
def matchWithinWrong : ChangeSpec := { name := "matchWithin", fn := fun _ => fun
  | [d1, d2, d3, d4] => { results := [.lit (.bool false)], args := [d1, d2, d3, d4] }
  | _ => none }
def MatchWithinWrongFalsely : Prop := matchWithinRow.holds Tryd.pinned (OpenSpec.ofChange matchWithinWrong)

/- THE SECOND FORM. 'bulk': how many values and letters a reading holds, each counted each time it is reached (what is shared counts as often as it is met; a slice's spare places count too). A statement '..UptoSaid' is the law's where the arguments, and the package variables that the reading takes, are together of bulk at most 1048576: NARROWER than '..Said'. Prove '..Said' where nothing that the law and all that it calls make is longer than what came in: it says more and counts as full. Else prove '..UptoSaid'. A law counts once. -/
mutual
def uptoBulk {H : Type} : DataW H → Nat
  | .lit (.string bytes) => bytes.length + 1
  | .lit _ => 1
  | .nil => 1
  | .ptr d => uptoBulk d + 1
  | .slice elems spare => uptoBulkAll elems + uptoBulkAll spare + 1
  | .agg parts => uptoBulkAll parts + 1
  | .iface _ d => uptoBulk d + 1
  | .map entries => uptoBulkEntries entries + 1
  | .held _ => 1
def uptoBulkAll {H : Type} : List (DataW H) → Nat
  | [] => 0
  | d :: r => uptoBulk d + uptoBulkAll r
def uptoBulkEntries {H : Type} : List (Lit × DataW H) → Nat
  | [] => 0
  | x :: r => uptoBulkEntry x + uptoBulkEntries r
def uptoBulkEntry {H : Type} : Lit × DataW H → Nat
  | (.string bytes, d) => bytes.length + uptoBulk d + 1
  | (_, d) => uptoBulk d + 1
 end
def uptoSmall : (H : Type) → List (DataW H) → Bool := fun _ ds => decide (uptoBulkAll ds ≤ 1048576)
def OpenSpec.upto (s : _root_.Go.ChangeSpec) : _root_.Go.OpenSpec := { _root_.Go.OpenSpec.ofChange s with cond := some uptoSmall }

/-- 'dowellaw14.MatchLimits', WHERE WHAT IT READS IS OF BULK AT MOST 1048576: true; the input reads as it did. -/
def matchLimitsUptoRow : OpenClaim := { program := "ytmpkkphohilkoaadoor", sum := "bef64db54981f61d525304e62eaa544f3d58ca4f2ee66be3d185cef0220de7da", func := "dowel/dowellaw14.MatchLimits", spec := "matchLimits", inPlace := ["internal/bytealg.IndexByteString", "internal/bytealg.IndexString"], unfollowed := true, recurses := true, named := ["dowel/dowellaw14.a", "internal/bytealg.MaxLen"], apart := false, laid := [("dowel/dowellaw14.a", laid_dowel_dowellaw14_a)], narrowed := true }
def MatchLimitsUptoSaid : Prop := matchLimitsUptoRow.holds Tryd.pinned (OpenSpec.upto matchLimitsSpec)

/-- 'dowellaw14.MatchUnseen', WHERE WHAT IT READS IS OF BULK AT MOST 1048576: true; the input reads as it did. -/
def matchUnseenUptoRow : OpenClaim := { program := "ytmpkkphohilkoaadoor", sum := "bef64db54981f61d525304e62eaa544f3d58ca4f2ee66be3d185cef0220de7da", func := "dowel/dowellaw14.MatchUnseen", spec := "matchUnseen", inPlace := ["internal/bytealg.IndexByteString", "internal/bytealg.IndexString"], unfollowed := true, recurses := true, named := ["dowel/dowellaw14.a", "internal/bytealg.MaxLen"], apart := false, laid := [("dowel/dowellaw14.a", laid_dowel_dowellaw14_a)], narrowed := true }
def MatchUnseenUptoSaid : Prop := matchUnseenUptoRow.holds Tryd.pinned (OpenSpec.upto matchUnseenSpec)

/-- 'dowellaw14.MatchWithin', WHERE WHAT IT READS IS OF BULK AT MOST 1048576: true; the input reads as it did. -/
def matchWithinUptoRow : OpenClaim := { program := "ytmpkkphohilkoaadoor", sum := "bef64db54981f61d525304e62eaa544f3d58ca4f2ee66be3d185cef0220de7da", func := "dowel/dowellaw14.MatchWithin", spec := "matchWithin", inPlace := ["internal/bytealg.IndexByteString", "internal/bytealg.IndexString"], unfollowed := true, recurses := true, named := ["dowel/dowellaw14.a", "internal/bytealg.MaxLen"], apart := false, laid := [("dowel/dowellaw14.a", laid_dowel_dowellaw14_a)], narrowed := true }
def MatchWithinUptoSaid : Prop := matchWithinUptoRow.holds Tryd.pinned (OpenSpec.upto matchWithinSpec)

end Rows
end Go.Proofs.YtmpkkphohilkoaaDoor
