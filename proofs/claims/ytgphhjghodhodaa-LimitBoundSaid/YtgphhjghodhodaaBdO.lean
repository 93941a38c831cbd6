/- LimitBound: how its arguments are opened. -/
import Derived.Test.YtgphhjghodhodaaOpens
import Derived.Test.YtgphhjghodhodaaBdW
namespace Go.Proofs.Ytgphhjghodhodaa
open Go.RowKit Go.Proofs.YtgphhjghodhodaaW.PrintWords Go.Proofs.YtgphhjghodhodaaOp
set_option linter.unusedVariables false
theorem opens_byte : Opens Try.prog 5 (Kd.int .u8) (fun x => 0 ≤ x ∧ x ≤ 255) :=
  (opens_int Try.underlying5).imp (fun a h => by simpa [Lit.wf, IntKind.min, IntKind.max, IntKind.signed, IntKind.bits] using h)
theorem opens_times : Opens Try.prog 36 (Kd.slice 5 (Kd.int .u8)) (fun xs => (∀ x ∈ xs, 0 ≤ x ∧ x ≤ 255) ∧ xs.length ≤ maxLen) := opens_slice Try.underlying36 (by kernel_rfl) opens_byte
end Go.Proofs.Ytgphhjghodhodaa
