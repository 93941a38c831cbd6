/- request: Answer of one null. -/
import Derived.Test.YtcdeikhfmllkdaaGreatDoorRwC
import Derived.Test.YtcdeikhfmllkdaaGreatDoorJh
import Derived.Test.YtcdeikhfmllkdaaGreatDoorShI
import Derived.Lib.SmallJoins
namespace Go.Proofs.YtcdeikhfmllkdaaGreatDoor
open Go.RowKit Go.Sort
set_option linter.unusedVariables false
set_option linter.unusedSimpArgs false
def TabI (w : World) : Prop := Lib.TabIs Tryz.prog w "internal/strconv.uint64pow10" .u64 Lib.pow10Tab
theorem TabI.below {w w' : World} (h : TabI w) (hb : Below w.heap.size w w') : TabI w' := Go.Joins.tab_stays (g := 3) (by kernel_rfl) h hb (Nat.le_refl _)
theorem below_grow (w : World) (k : Nat) (os : Array Obj) : Below w.heap.size w (grow (w.drewN k) os) := by
  have h := below_drewN (Below.refl w.heap.size w) k
  refine ⟨h.os, h.tape, h.output, ?_, fun i hi => ?_⟩
  · show w.heap.size ≤ (w.heap ++ os).size
    rw [Array.size_append]; omega
  · show (w.heap ++ os)[i]? = w.heap[i]?
    exact Array.getElem?_append_left hi
theorem itoa_200 {w : World} (hI : TabI w) : Calls Tryz.prog 88 #[.int .i64 200] w fun e w' => e = .returned (.string ⟨#[50, 48, 48]⟩) ∧ Below w.heap.size w w' := by
  refine (Any.strconv_Itoa Tryz.laysItoa 200 (by decide) (by decide) w hI).mono ?_
  rintro e w' ⟨rfl, k, os, rfl⟩
  refine ⟨?_, below_grow _ _ _⟩
  rw [show (Lib.itoa 200) = [50, 48, 48] by decide +kernel]
def nullV : Val := ⟨-1, 0, [], []⟩
theorem put_null {w : World} (hT : Tabs w) (g : Nat) (hg : w.heap[g]? = some (.cells #[.int .i64 (-1), .int .u8 0, .string ⟨#[]⟩, .string ⟨#[]⟩] 78)) :
    Calls Tryz.prog 27 #[.slice (some ⟨g, 0, none⟩) 1 1] w fun e w' => e = .returned (.tuple #[.string ⟨#[110, 117, 108, 108]⟩, .int .i64 0]) ∧ Below w.heap.size w w' := by
  have L : Lst w (.slice (some ⟨g, 0, none⟩) 1 1) [nullV] := ⟨⟨_, 1, rfl⟩, fun _ => ⟨_, _, _, rfl, World.news_of_block hg⟩⟩
  have h := put_any hT L (by decide) (fun v hv => by
    obtain rfl := List.mem_singleton.1 hv
    exact ⟨⟨by decide, by decide, by decide⟩, by decide⟩) (by decide)
  rw [show putM [nullV] = ([110, 117, 108, 108], 0) by decide +kernel] at h
  exact h
def ansB : ByteArray := ⟨#[50, 48, 48, 10, 110, 117, 108, 108]⟩
set_option maxHeartbeats 4000000 in
set_option maxRecDepth 100000 in
theorem Answer_n {w : World} (hT : Tabs w) (hI : TabI w) (g : Nat) (hg : w.heap[g]? = some (.cells #[.int .i64 (-1), .int .u8 0, .string ⟨#[]⟩, .string ⟨#[]⟩] 78)) :
    Calls Tryz.prog 40 #[.int .i64 200, .slice (some ⟨g, 0, none⟩) 1 1] w fun e w' => e = .returned (.string ansB) ∧ Below w.heap.size w w' := by
  have HPt := Lib.hid (put_null hT g hg)
  have HI := Lib.hid hI
  have hcat : ((⟨#[50, 48, 48]⟩ : ByteArray) ++ ⟨#[10]⟩) ++ ⟨#[110, 117, 108, 108]⟩ = ansB := by decide +kernel
  clear hT hg hI
  go_enter Tryz.func40, Tryz.ntmps40
  go_wp2_with (first
    | (go_at_call 27; refine HPt.out.mono ?_; rintro e w2 ⟨rfl, hb2⟩; have HB2 := Lib.hid hb2; clear hb2)
    | (go_at_call 88; refine (itoa_200 (HI.out.below HB2.out)).mono ?_; rintro e w3 ⟨rfl, hb3⟩; have HB3 := Lib.hid hb3; clear hb3))
  go_ret
  exact ⟨rfl, HB2.out.trans (HB3.out.mono HB2.out.size)⟩
end Go.Proofs.YtcdeikhfmllkdaaGreatDoor
