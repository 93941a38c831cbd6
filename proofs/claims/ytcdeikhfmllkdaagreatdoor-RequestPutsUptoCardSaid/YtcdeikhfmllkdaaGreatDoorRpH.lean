/- request: the line POST /alerts; Parse of a text that is too long. -/
import Derived.Test.YtcdeikhfmllkdaaGreatDoorRwA
import Derived.Test.YtcdeikhfmllkdaaGreatDoorRpP
namespace Go.Proofs.YtcdeikhfmllkdaaGreatDoor
open Go.RowKit
set_option linter.unusedVariables false
set_option linter.unusedSimpArgs false
def rqPost : Array Value := #[.int .u8 1, .slice none 0 0, .string ⟨#[]⟩, .slice none 0 0, .int .i64 0, .int .i64 0, .string ⟨#[]⟩, .slice none 0 0]
set_option maxHeartbeats 4000000 in
set_option maxRecDepth 100000 in
theorem line_post (w : World) : Calls Tryz.prog 43 #[.string (str postB)] w fun e w' => e = .returned (.tuple #[.agg #[.int .u8 1, .slice none 0 0, .string ⟨#[]⟩, .slice none 0 0, .int .i64 0, .int .i64 0, .string ⟨#[]⟩, .slice none 0 0], .int .i64 0]) ∧ Below w.heap.size w w' := by
  obtain ⟨S, hS⟩ : ∃ S, str postB = S := ⟨_, rfl⟩
  have hP1 : plainB 1 = S := by rw [← hS]; rfl
  rw [hS]
  clear hS
  have e1 : (S.toList == S.toList) = true := beq_self_eq_true _
  go_enter Tryz.func43, Tryz.ntmps43
  go_upto_region 2 with (fail)
  go_loopw [4] (fun v wr => v = .int .u8 1 ∧ LnRel w wr w.heap.size) (fun _ _ => 0)
  case atStart => exact ⟨rfl, heap_alloc_new _ _, (Below.refl _ _).alloc (Nat.le_refl _) _⟩
  case round =>
    obtain ⟨rfl, hR⟩ := hrel
    have HR := Lib.hid hR
    have HP := Lib.hid (plain_any wr 1 (by omega))
    rw [hP1] at HP
    clear hR hP1
    simp only [show ((1 : Nat) : Int) = 1 from rfl] at HP
    go_wp2_with (first
      | (go_at_call 55; refine HP.out.mono ?_; rintro e w2 ⟨rfl, hb2⟩; have H2 := Lib.hid (And.intro ((hb2.block _ (Array.getElem?_eq_some_iff.1 HR.out.row).1).trans HR.out.row) (HR.out.bel.trans (hb2.mono HR.out.bel.size))); clear hb2)
      | (refine wpList_store_row rfl 29 (.tmp 2) (.tmp 23) rfl w.heap.size #[.int .u8 1, .slice none 0 0, .string ⟨#[]⟩, .slice none 0 0, .int .i64 0, .int .i64 0, .string ⟨#[]⟩, .slice none 0 0] ?hx ?hy 29 rq0 H2.out.1 ?hi ?hold ?h1 ?h))
    case hx => rfl
    case hy => rfl
    case hi => exact Tryz.size29
    case hold => rfl
    case h1 => decide +kernel
    refine bodyPost_ret (results_rq rfl _ _ w.heap.size _ rfl rfl (setRow_heap _ _ _ _ _ _ H2.out.1)) rfl ⟨rfl, ?_⟩
    exact below_setRow H2.out.2 (Nat.le_refl _) _
set_option maxHeartbeats 4000000 in
set_option maxRecDepth 100000 in
theorem Parse_long (w : World) (S : ByteArray) (h : 65536 < S.size) (hm : S.size ≤ maxLen) : Calls Tryz.prog 12 #[.string S] w fun e w' => e = .returned (.tuple #[.agg rq0, .int .i64 5]) ∧ Below w.heap.size w w' := by
  unfold maxLen at hm
  have hd : decide ((65536 : Int) < (S.size : Int)) = true := decide_eq_true (by omega)
  go_enter Tryz.func12, Tryz.ntmps12
  go_upto_region 2 with fail
  generalize hW1 : w.alloc _ = w1
  have H1 : Hid (w1.heap[w.heap.size]? = some (.cells rq0 29) ∧ Below w.heap.size w w1) := by subst hW1; exact Lib.hid ⟨heap_alloc_new _ _, (Below.refl _ _).alloc (Nat.le_refl _) _⟩
  clear hW1
  go_wp2_with (refine wpList_store_row rfl 29 (.tmp 2) (.tmp 16) rfl w.heap.size rq0 ?hx ?hy 29 rq0 H1.out.1 ?hi ?hold ?h1 ?h)
  case hx => rfl
  case hy => rfl
  case hi => exact Tryz.size29
  case hold => rfl
  case h1 => decide +kernel
  refine bodyPost_ret (results_rq rfl _ _ w.heap.size rq0 rfl rfl (setRow_heap _ _ _ _ _ _ H1.out.1)) rfl ⟨rfl, ?_⟩
  exact below_setRow H1.out.2 (Nat.le_refl _) _
end Go.Proofs.YtcdeikhfmllkdaaGreatDoor
