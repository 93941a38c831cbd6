/- RequestPuts, walked. -/
import Derived.Test.YtcdeikhfmllkdaaGreatDoorRpJ
import Derived.Test.YtcdeikhfmllkdaaGreatDoorRpY
namespace Go.Proofs.YtcdeikhfmllkdaaGreatDoor
open Go.RowKit
theorem requestPuts_holds0 {w : World} (hT : Tabs w) (hI : TabI w) {A : Option Addr} {cap : Nat} {l : List AlM} (L : AlsC w (.slice A l.length cap) l) (ok : ∀ a ∈ l, OkAl 1048576 a) (hm : l.length ≤ maxLen) :
    Calls Tryz.prog 8 #[.slice A l.length cap] w fun e w' => e = .returned (.bool true) ∧ Below w.heap.size w w' :=
  puts_walk hT hI L ok hm (fun K w1 => alert_ok w1 K) (fun _ hb => itoa_ok (hI.below hb))
#print axioms requestPuts_holds0
end Go.Proofs.YtcdeikhfmllkdaaGreatDoor
