/- request: awake. -/
import Derived.Test.YtcdeikhfmllkdaaGreatDoorRwE
import Derived.Test.YtcdeikhfmllkdaaGreatDoorRwF
import Derived.Test.YtcdeikhfmllkdaaGreatDoorRwG
namespace Go.Proofs.YtcdeikhfmllkdaaGreatDoor
open Go.RowKit Go.Sort
set_option linter.unusedVariables false
set_option linter.unusedSimpArgs false
structure AwR (w wr : World) (b g cap : Nat) : Prop where
  row : wr.heap[b]? = some (.cells #[.int .u8 4, .slice none 0 0, .string ⟨#[]⟩, .slice none 0 0, .int .i64 0, .int .i64 0, .string ⟨#[]⟩, .slice (some ⟨g, 0, none⟩) 1 cap] 29)
  one : wr.cell? ⟨g, 2, none⟩ = some (.string ⟨#[49]⟩)
  bel : Below w.heap.size w wr
theorem AwR.below {w wr w' : World} {b g cap : Nat} (h : AwR w wr b g cap) (hb : Below wr.heap.size wr w') : AwR w w' b g cap :=
  ⟨(hb.block _ (Array.getElem?_eq_some_iff.1 h.row).1).trans h.row, (hb.cell (World.block_lt_of_cell? wr _ h.one)).trans h.one, h.bel.trans (hb.mono h.bel.size)⟩
theorem AwR.new {w w2 : World} {g cap : Nat} (hb : Below w.heap.size w w2) (hc : w2.cell? ⟨g, 2, none⟩ = some (.string ⟨#[49]⟩)) : AwR w (w2.alloc (.cells #[.int .u8 4, .slice none 0 0, .string ⟨#[]⟩, .slice none 0 0, .int .i64 0, .int .i64 0, .string ⟨#[]⟩, .slice (some ⟨g, 0, none⟩) 1 cap] 29)) w2.heap.size g cap :=
  ⟨heap_alloc_new _ _, (((Below.refl w2.heap.size w2).alloc (Nat.le_refl _) (.cells #[.int .u8 4, .slice none 0 0, .string ⟨#[]⟩, .slice none 0 0, .int .i64 0, .int .i64 0, .string ⟨#[]⟩, .slice (some ⟨g, 0, none⟩) 1 cap] 29)).cell (World.block_lt_of_cell? w2 _ hc)).trans hc, hb.alloc hb.size _⟩
set_option maxHeartbeats 4000000 in
set_option maxRecDepth 100000 in
theorem awake_any {w : World} (hT : Tabs w) (hI : TabI w) : Calls Tryz.prog 11 #[] w fun e w' => e = .returned (.bool true) ∧ Below w.heap.size w w' := by
  have HG : Hid (Calls Tryz.prog 12 #[.string ⟨#[71, 69, 84, 32, 47, 97, 108, 101, 114, 116, 115, 63, 109, 97, 116, 99, 104, 61, 97, 37, 51, 68, 49, 10]⟩] w fun e w' => ∃ g cap, e = .returned (.tuple #[.agg #[.int .u8 4, .slice none 0 0, .string ⟨#[]⟩, .slice none 0 0, .int .i64 0, .int .i64 0, .string ⟨#[]⟩, .slice (some ⟨g, 0, none⟩) 1 cap], .int .i64 0]) ∧ Below w.heap.size w w' ∧ w'.cell? ⟨g, 2, none⟩ = some (.string ⟨#[49]⟩)) := Lib.hid (Parse_g hT)
  have HX : Hid (∀ w1, Below w.heap.size w w1 → Calls Tryz.prog 12 #[.string ⟨#[71, 69, 84, 32, 47, 120, 10]⟩] w1 fun e w' => e = .returned (.tuple #[.agg #[.int .u8 0, .slice none 0 0, .string ⟨#[]⟩, .slice none 0 0, .int .i64 0, .int .i64 0, .string ⟨#[]⟩, .slice none 0 0], .int .i64 8]) ∧ Below w1.heap.size w1 w') := Lib.hid (fun w1 hb => Parse_x (tabs_bel hT hb))
  have HE : Hid (∀ w1, Below w.heap.size w w1 → Calls Tryz.prog 17 #[.agg #[.int .u8 3, .slice none 0 0, .string ⟨#[]⟩, .slice none 0 0, .int .i64 0, .int .i64 0, .string ⟨#[120]⟩, .slice none 0 0]] w1 fun e w' => e = .returned (.tuple #[.string ⟨#[68, 69, 76, 69, 84, 69, 32, 47, 115, 105, 108, 101, 110, 99, 101, 47, 120, 10]⟩, .int .i64 0]) ∧ Below w1.heap.size w1 w') := Lib.hid (fun w1 hb => Print_e w1 (fun w2 hb2 => Parse_e (tabs_bel hT (hb.trans (hb2.mono hb.size)))))
  have HA : Hid (∀ w1 g, Below w.heap.size w w1 → w1.heap[g]? = some (.cells #[.int .i64 (-1), .int .u8 0, .string ⟨#[]⟩, .string ⟨#[]⟩] 78) → Calls Tryz.prog 40 #[.int .i64 200, .slice (some ⟨g, 0, none⟩) 1 1] w1 fun e w' => e = .returned (.string ⟨#[50, 48, 48, 10, 110, 117, 108, 108]⟩) ∧ Below w1.heap.size w1 w') := Lib.hid (fun w1 g hb hg => Answer_n (tabs_bel hT hb) (hI.below hb) g hg)
  have q1 : ((⟨#[49]⟩ : ByteArray).toList == (⟨#[49]⟩ : ByteArray).toList) = true := beq_self_eq_true _
  have q2 : ((⟨#[68, 69, 76, 69, 84, 69, 32, 47, 115, 105, 108, 101, 110, 99, 101, 47, 120, 10]⟩ : ByteArray).toList == (⟨#[68, 69, 76, 69, 84, 69, 32, 47, 115, 105, 108, 101, 110, 99, 101, 47, 120, 10]⟩ : ByteArray).toList) = true := beq_self_eq_true _
  have q3 : ((⟨#[50, 48, 48, 10, 110, 117, 108, 108]⟩ : ByteArray).toList == (⟨#[50, 48, 48, 10, 110, 117, 108, 108]⟩ : ByteArray).toList) = true := beq_self_eq_true _
  clear hT hI
  go_enter Tryz.func11, Tryz.ntmps11
  go_upto_region 2 with (first
    | (go_at_call 12; refine HG.out.mono ?_; rintro e w2 ⟨g, cap, rfl, hb2, hc2⟩; have H2 := Lib.hid (AwR.new (cap := cap) hb2 hc2); clear hb2 hc2))
  generalize w2.heap.size = b1 at H2 ⊢
  generalize w2.alloc _ = w3 at H2 ⊢
  go_upto_region 3 with (first
    | (go_at_call 12; refine (HX.out _ H2.out.bel).mono ?_; rintro e w4 ⟨rfl, hb4⟩; have H4 := Lib.hid ((H2.out.below hb4).below ((Below.refl w4.heap.size w4).alloc (Nat.le_refl _) (.cells #[.int .u8 0, .slice none 0 0, .string ⟨#[]⟩, .slice none 0 0, .int .i64 0, .int .i64 0, .string ⟨#[]⟩, .slice none 0 0] 29))); clear hb4))
  generalize w4.heap.size = b3 at H4 ⊢
  generalize w4.alloc _ = w5 at H4 ⊢
  go_upto_region 4 with (first
    | (go_at_call 17; refine (HE.out _ H4.out.bel).mono ?_; rintro e w6 ⟨rfl, hb6⟩; have H6 := Lib.hid (H4.out.below hb6); clear hb6))
  have k0 : w6.cell? ⟨b1, 0, none⟩ = some (.int .u8 4) := (cells_of H6.out.row 0).1
  have k7 : w6.cell? ⟨b1, 7, none⟩ = some (.slice (some ⟨g, 0, none⟩) 1 cap) := (cells_of H6.out.row 7).1
  have kg := H6.out.one
  have h6 := H6.out.bel.size
  go_wp2_with (first
    | (go_at_call 40; refine (HA.out _ _ (H6.out.bel.alloc h6 _) (heap_alloc_new _ _)).mono ?_; rintro e w8 ⟨rfl, hb8⟩; have HB8 := Lib.hid (((H6.out.bel.alloc h6 (.cells #[.int .i64 (-1), .int .u8 0, .string ⟨#[]⟩, .string ⟨#[]⟩] 78))).trans (hb8.mono (by simp; omega))); clear hb8))
  go_ret
  exact ⟨rfl, HB8.out⟩
end Go.Proofs.YtcdeikhfmllkdaaGreatDoor
