/- RequestSelects: the law's walk, as its card asks for it. -/
import Derived.Test.YtcdeikhfmllkdaaGreatDoorSe2
import Derived.Test.YtcdeikhfmllkdaaGreatDoorSeO
namespace Go.Proofs.YtcdeikhfmllkdaaGreatDoor
open Go.RowKit
theorem requestSelects_holds0 {w : World} (hT : Tabs w) (hI : TabI w) {A B : Option Addr} {ca cb : Nat} {l : List AlM} {ms : List MtM} (L : AlsC w (.slice A l.length ca) l) (hl : l.length ≤ maxLen) (hll : ∀ a ∈ l, OkAl maxLen a) (M : MtsC w (.slice B ms.length cb) ms) (hm : ms.length ≤ maxLen) (hok : ∀ m ∈ ms, MtOk m) :
    Calls Tryz.prog 9 #[.slice A l.length ca, .slice B ms.length cb] w fun e w' => e = .returned (.bool true) ∧ Below w.heap.size w w' :=
  selects_walk hT hI L M hl hm (fun a ha => (hll a ha).len) hok
#print axioms requestSelects_holds0
end Go.Proofs.YtcdeikhfmllkdaaGreatDoor
