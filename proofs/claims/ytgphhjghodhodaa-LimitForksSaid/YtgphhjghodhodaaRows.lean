/-
  No cell of these rows narrows 'for every input' (looked for: loops, veiled, ifaces, maps, wideKeys, modest, calm, conditions, laid).
  DERIVED. THE GIVEN ROWS OF THIS SEAT. 5 by the template 'for every input the law returns true; each argument reads behind the call as it read before'; 0 by the template 'total and deterministic' (their statements: YtgphhjghodhodaaTotals.lean).
  GIVEN WITH THE SEED: the statements are not yours to turn. If you find one false, say at which input.
  Laid BY PROGRAM, IN A SANDBOX (cutbox-rows.mjs): the forced cells as the released guide's own fill.sh prints them over the translation 7bb618e73eaa5fe6… (all of the seat's roots in one cut). By AI agents, Wed Nov 11 2026. No macro, syntax, notation, axiom, sorry.
-/
import Derived.Test.YtgphhjghodhodaaChecked
import GoSem.Claim
import GoSem.ClaimJoined
import GoSem.ClaimMapViews
import Derived.JoinedTies
import Derived.KernelRfl
namespace Go.Proofs.Ytgphhjghodhodaa
/- THE CELL 'sum', in the pinned program and in every row, IS THE sha256 OF THE DUMP (.gsa) THAT YtgphhjghodhodaaProg.lean LOADS. Nothing in Lean hashes anything: it is a label: what it is worth is what the hold of that sum in a sandbox is worth. -/
noncomputable def Try.pinned : Pinned := { name := "ytgphhjghodhodaa", sum := "7bb618e73eaa5fe68ccb170c3a5f792b49b71458f3f567adc78830aab47bd1ea", checked := Try.checked }
namespace Rows
def none {H : Type} : Left H := { results := [], args := [] }

/-- 'watchfirelaw30.LimitApart': WHATEVER THE INPUT: true; the input reads as it did. -/
def limitApartSpec : ChangeSpec := { name := "limitApart", fn := fun _ => fun
  | [d1, d2] => { results := [.lit (.bool true)], args := [d1, d2] }
  | _ => none }
def limitApartRow : OpenClaim := { program := "ytgphhjghodhodaa", sum := "7bb618e73eaa5fe68ccb170c3a5f792b49b71458f3f567adc78830aab47bd1ea", func := "watchfire/watchfirelaw30.LimitApart", spec := "limitApart", apart := false }
def LimitApartSaid : Prop := limitApartRow.holds Try.pinned (OpenSpec.ofChange limitApartSpec)

/-- ITS FALSE NEIGHBOUR: 'it returns false'. Refute it at one input. -/
def limitApartWrong : ChangeSpec := { name := "limitApart", fn := fun _ => fun
  | [d1, d2] => { results := [.lit (.bool false)], args := [d1, d2] }
  | _ => none }
def LimitApartWrongFalsely : Prop := limitApartRow.holds Try.pinned (OpenSpec.ofChange limitApartWrong)

/-- 'watchfirelaw30.LimitBound': WHATEVER THE INPUT: true; the input reads as it did. -/
def limitBoundSpec : ChangeSpec := { name := "limitBound", fn := fun _ => fun
  | [d1, d2, d3] => { results := [.lit (.bool true)], args := [d1, d2, d3] }
  | _ => none }
def limitBoundRow : OpenClaim := { program := "ytgphhjghodhodaa", sum := "7bb618e73eaa5fe68ccb170c3a5f792b49b71458f3f567adc78830aab47bd1ea", func := "watchfire/watchfirelaw30.LimitBound", spec := "limitBound", apart := false }
def LimitBoundSaid : Prop := limitBoundRow.holds Try.pinned (OpenSpec.ofChange limitBoundSpec)

/-- ITS FALSE NEIGHBOUR: 'it returns false'. Refute it at one input. -/
def limitBoundWrong : ChangeSpec := { name := "limitBound", fn := fun _ => fun
  | [d1, d2, d3] => { results := [.lit (.bool false)], args := [d1, d2, d3] }
  | _ => none }
def LimitBoundWrongFalsely : Prop := limitBoundRow.holds Try.pinned (OpenSpec.ofChange limitBoundWrong)

/-- 'watchfirelaw30.LimitPlays': WHATEVER THE INPUT: true; the input reads as it did. -/
def limitPlaysSpec : ChangeSpec := { name := "limitPlays", fn := fun _ => fun
  | [d1, d2, d3] => { results := [.lit (.bool true)], args := [d1, d2, d3] }
  | _ => none }
def limitPlaysRow : OpenClaim := { program := "ytgphhjghodhodaa", sum := "7bb618e73eaa5fe68ccb170c3a5f792b49b71458f3f567adc78830aab47bd1ea", func := "watchfire/watchfirelaw30.LimitPlays", spec := "limitPlays", apart := false }
def LimitPlaysSaid : Prop := limitPlaysRow.holds Try.pinned (OpenSpec.ofChange limitPlaysSpec)

/-- ITS FALSE NEIGHBOUR: 'it returns false'. Refute it at one input. -/
def limitPlaysWrong : ChangeSpec := { name := "limitPlays", fn := fun _ => fun
  | [d1, d2, d3] => { results := [.lit (.bool false)], args := [d1, d2, d3] }
  | _ => none }
def LimitPlaysWrongFalsely : Prop := limitPlaysRow.holds Try.pinned (OpenSpec.ofChange limitPlaysWrong)

/-- 'watchfirelaw30.LimitNext': WHATEVER THE INPUT: true; the input reads as it did. -/
def limitNextSpec : ChangeSpec := { name := "limitNext", fn := fun _ => fun
  | [d1, d2, d3] => { results := [.lit (.bool true)], args := [d1, d2, d3] }
  | _ => none }
def limitNextRow : OpenClaim := { program := "ytgphhjghodhodaa", sum := "7bb618e73eaa5fe68ccb170c3a5f792b49b71458f3f567adc78830aab47bd1ea", func := "watchfire/watchfirelaw30.LimitNext", spec := "limitNext", inPlace := ["maps.clone"], apart := false }
def LimitNextSaid : Prop := limitNextRow.holds Try.pinned (OpenSpec.ofChange limitNextSpec)

/-- ITS FALSE NEIGHBOUR: 'it returns false'. Refute it at one input. -/
def limitNextWrong : ChangeSpec := { name := "limitNext", fn := fun _ => fun
  | [d1, d2, d3] => { results := [.lit (.bool false)], args := [d1, d2, d3] }
  | _ => none }
def LimitNextWrongFalsely : Prop := limitNextRow.holds Try.pinned (OpenSpec.ofChange limitNextWrong)

/-- 'watchfirelaw30.LimitForks': WHATEVER THE INPUT: true; the input reads as it did. -/
def limitForksSpec : ChangeSpec := { name := "limitForks", fn := fun _ => fun
  | [d1, d2, d3] => { results := [.lit (.bool true)], args := [d1, d2, d3] }
  | _ => none }
def limitForksRow : OpenClaim := { program := "ytgphhjghodhodaa", sum := "7bb618e73eaa5fe68ccb170c3a5f792b49b71458f3f567adc78830aab47bd1ea", func := "watchfire/watchfirelaw30.LimitForks", spec := "limitForks", inPlace := ["maps.clone"], apart := false }
def LimitForksSaid : Prop := limitForksRow.holds Try.pinned (OpenSpec.ofChange limitForksSpec)

/-- ITS FALSE NEIGHBOUR: 'it returns false'. Refute it at one input. -/
def limitForksWrong : ChangeSpec := { name := "limitForks", fn := fun _ => fun
  | [d1, d2, d3] => { results := [.lit (.bool false)], args := [d1, d2, d3] }
  | _ => none }
def LimitForksWrongFalsely : Prop := limitForksRow.holds Try.pinned (OpenSpec.ofChange limitForksWrong)

/- THE SECOND FORM. 'bulk': how many values and letters a reading holds, each counted each time it is reached (what is shared counts as often as it is met; a slice's spare places count too). A statement '..UptoSaid' is the law's where the arguments, and the package variables that the reading takes, are together of bulk at most 1048576: NARROWER than '..Said'. Prove '..Said' where nothing that the law and all that it calls make is longer than what came in: it says more and counts as full. Else prove '..UptoSaid'. A law counts once. -/
mutual
def uptoBulk {H : Type} : DataW H → Nat
  | .lit (.string bytes) => bytes.length + 1
  | .lit _ => 1
  | .nil => 1
  | .ptr d => uptoBulk d + 1
  | .slice elems spare => uptoBulkAll elems + uptoBulkAll spare + 1
  | .agg parts => uptoBulkAll parts + 1
  | .iface _ d => uptoBulk d + 1
  | .map entries => uptoBulkEntries entries + 1
  | .held _ => 1
def uptoBulkAll {H : Type} : List (DataW H) → Nat
  | [] => 0
  | d :: r => uptoBulk d + uptoBulkAll r
def uptoBulkEntries {H : Type} : List (Lit × DataW H) → Nat
  | [] => 0
  | x :: r => uptoBulkEntry x + uptoBulkEntries r
def uptoBulkEntry {H : Type} : Lit × DataW H → Nat
  | (.string bytes, d) => bytes.length + uptoBulk d + 1
  | (_, d) => uptoBulk d + 1
 end
def uptoSmall : (H : Type) → List (DataW H) → Bool := fun _ ds => decide (uptoBulkAll ds ≤ 1048576)
def OpenSpec.upto (s : _root_.Go.ChangeSpec) : _root_.Go.OpenSpec := { _root_.Go.OpenSpec.ofChange s with cond := some uptoSmall }

/-- 'watchfirelaw30.LimitApart', WHERE WHAT IT READS IS OF BULK AT MOST 1048576: true; the input reads as it did. -/
def limitApartUptoRow : OpenClaim := { program := "ytgphhjghodhodaa", sum := "7bb618e73eaa5fe68ccb170c3a5f792b49b71458f3f567adc78830aab47bd1ea", func := "watchfire/watchfirelaw30.LimitApart", spec := "limitApart", apart := false, narrowed := true }
def LimitApartUptoSaid : Prop := limitApartUptoRow.holds Try.pinned (OpenSpec.upto limitApartSpec)

/-- 'watchfirelaw30.LimitBound', WHERE WHAT IT READS IS OF BULK AT MOST 1048576: true; the input reads as it did. -/
def limitBoundUptoRow : OpenClaim := { program := "ytgphhjghodhodaa", sum := "7bb618e73eaa5fe68ccb170c3a5f792b49b71458f3f567adc78830aab47bd1ea", func := "watchfire/watchfirelaw30.LimitBound", spec := "limitBound", apart := false, narrowed := true }
def LimitBoundUptoSaid : Prop := limitBoundUptoRow.holds Try.pinned (OpenSpec.upto limitBoundSpec)

/-- 'watchfirelaw30.LimitPlays', WHERE WHAT IT READS IS OF BULK AT MOST 1048576: true; the input reads as it did. -/
def limitPlaysUptoRow : OpenClaim := { program := "ytgphhjghodhodaa", sum := "7bb618e73eaa5fe68ccb170c3a5f792b49b71458f3f567adc78830aab47bd1ea", func := "watchfire/watchfirelaw30.LimitPlays", spec := "limitPlays", apart := false, narrowed := true }
def LimitPlaysUptoSaid : Prop := limitPlaysUptoRow.holds Try.pinned (OpenSpec.upto limitPlaysSpec)

/-- 'watchfirelaw30.LimitNext', WHERE WHAT IT READS IS OF BULK AT MOST 1048576: true; the input reads as it did. -/
def limitNextUptoRow : OpenClaim := { program := "ytgphhjghodhodaa", sum := "7bb618e73eaa5fe68ccb170c3a5f792b49b71458f3f567adc78830aab47bd1ea", func := "watchfire/watchfirelaw30.LimitNext", spec := "limitNext", inPlace := ["maps.clone"], apart := false, narrowed := true }
def LimitNextUptoSaid : Prop := limitNextUptoRow.holds Try.pinned (OpenSpec.upto limitNextSpec)

/-- 'watchfirelaw30.LimitForks', WHERE WHAT IT READS IS OF BULK AT MOST 1048576: true; the input reads as it did. -/
def limitForksUptoRow : OpenClaim := { program := "ytgphhjghodhodaa", sum := "7bb618e73eaa5fe68ccb170c3a5f792b49b71458f3f567adc78830aab47bd1ea", func := "watchfire/watchfirelaw30.LimitForks", spec := "limitForks", inPlace := ["maps.clone"], apart := false, narrowed := true }
def LimitForksUptoSaid : Prop := limitForksUptoRow.holds Try.pinned (OpenSpec.upto limitForksSpec)

end Rows
end Go.Proofs.Ytgphhjghodhodaa
