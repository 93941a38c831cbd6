/- A list of texts as it comes, opened. -/
import Derived.Test.YtllhpkpckjacfaaGreatDoorOpens
import Derived.Test.YtllhpkpckjacfaaGreatDoorPTemplateFiltersx0
import Derived.Test.YtllhpkpckjacfaaGreatDoorProg
namespace Go.Proofs.YtllhpkpckjacfaaGreatDoor
open Go.RowKit Go.Proofs.YtllhpkpckjacfaaGreatDoorW.PrintWords PTemplateFilters Go.Proofs.YtllhpkpckjacfaaGreatDoorOp
set_option linter.unusedVariables false
set_option maxRecDepth 100000 in
theorem opens_texts : Opens Tryz.prog 22 (Kd.slice 9 Kd.string) (fun xs => (∀ x ∈ xs, x.size ≤ maxLen) ∧ xs.length ≤ maxLen) := opens_slice Tryz.underlying22 (by kernel_rfl) (opens_string Tryz.underlying9)
end Go.Proofs.YtllhpkpckjacfaaGreatDoor
