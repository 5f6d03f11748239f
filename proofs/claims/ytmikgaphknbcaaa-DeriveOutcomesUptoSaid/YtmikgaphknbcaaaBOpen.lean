/- The arguments of the laws, opened: nodes, expressions, rules, uses, grammars. -/
import Derived.Test.YtmikgaphknbcaaaXOpen
import Derived.Test.YtmikgaphknbcaaaFx0
namespace Go.Proofs.Ytmikgaphknbcaaa.B
open Go Go.RowKit Go.X Go.Proofs.YtmikgaphknbcaaaW.PrintWords Go.Proofs.Ytmikgaphknbcaaa.F
variable {w : World} {base : Nat}
theorem opens45 : Opens Try.prog w base 45 k45 :=
  .iso (fun p => ⟨p.1, p.2.1, p.2.2.1, p.2.2.2⟩) (fun _ => rfl) (.array Try.underlying45 (by kernel_rfl) (.step (by decide) (.int (by kernel_rfl)) (.step (by decide) (.int (by kernel_rfl)) (.step (by decide) (.int (by kernel_rfl)) (.last rfl (.int (by kernel_rfl)))))))
theorem opens47 : Opens Try.prog w base 47 k47 :=
  .iso (fun p => ⟨p.1, p.2.1, p.2.2.1, p.2.2.2.1, p.2.2.2.2.1, p.2.2.2.2.2.1, p.2.2.2.2.2.2⟩) (fun _ => rfl) (.struct Try.underlying47
    (.step _ 1 rfl rfl (by kernel_rfl) (.int (by kernel_rfl)) (.step _ 2 rfl rfl (by kernel_rfl) (.int (by kernel_rfl)) (.step _ 3 rfl rfl (by kernel_rfl) (.string (by kernel_rfl)) (.step _ 4 rfl rfl (by kernel_rfl) (.bool (by kernel_rfl))
      (.step _ 8 rfl rfl (by kernel_rfl) opens45 (.step _ 9 rfl rfl (by kernel_rfl) (.int (by kernel_rfl)) (.last _ rfl rfl (by kernel_rfl) (.int (by kernel_rfl))))))))))
theorem opens32 : Opens Try.prog w base 32 (Kd.slice 47 k47) := .slice Try.underlying32 (by kernel_rfl) opens47
end Go.Proofs.Ytmikgaphknbcaaa.B
