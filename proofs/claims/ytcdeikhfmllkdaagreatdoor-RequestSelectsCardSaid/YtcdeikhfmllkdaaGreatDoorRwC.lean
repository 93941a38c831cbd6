/- request: find of match=a%3D1. -/
import Derived.Test.YtcdeikhfmllkdaaGreatDoorRwB
import Derived.Test.YtcdeikhfmllkdaaGreatDoorRqC
namespace Go.Proofs.YtcdeikhfmllkdaaGreatDoor
open Go.RowKit
set_option linter.unusedVariables false
set_option linter.unusedSimpArgs false
theorem info9 : (Tryz.prog.info? 9).map (fun i => (i.zero, i.size, i.bytes)) = some (some (.string ⟨#[]⟩), 1, 16) := by kernel_rfl
theorem info75 : (Tryz.prog.info? 75).map (fun i => (i.zero, i.size, i.bytes)) = some (some (.agg #[.string ⟨#[]⟩, .int .u8 0, .string ⟨#[]⟩]), 3, 40) := by kernel_rfl
def fdS : ByteArray := ⟨#[109, 97, 116, 99, 104, 61, 97, 37, 51, 68, 49]⟩
theorem split_fd {w : World} (hT : Tabs w) : Calls Tryz.prog 137 #[.string fdS, .string ⟨#[38]⟩] w fun e w' => e = .returned (.slice (some ⟨w.heap.size, 0, none⟩) 1 1) ∧ w' = w.alloc (.cells #[.string fdS] 9) := by
  obtain ⟨mx, hmx⟩ := hT.2
  have h0 := Any.strings_Split Tryz.laysSplit info9 fdS ⟨#[38]⟩ mx w (by decide) hmx (by decide)
  have e1 : Lib.countB fdS ⟨#[38]⟩ = 0 := by decide +kernel
  rw [e1] at h0
  exact h0
theorem unp_fd (w : World) : Calls Tryz.prog 21 #[.string ⟨#[97, 37, 51, 68, 49]⟩] w fun e w' => e = .returned (.tuple #[.string ⟨#[97, 61, 49]⟩, .int .i64 0]) ∧ Below w.heap.size w w' := by
  have h := Unpercent_any w [97, 37, 51, 68, 49] (by decide)
  have e1 : unpR [97, 37, 51, 68, 49] = ([97, 61, 49], 0) := by decide +kernel
  rw [e1] at h
  exact h
theorem cut_fd (w : World) : Calls Tryz.prog 91 #[.string fdS, .string ⟨#[109, 97, 116, 99, 104, 61]⟩] w fun e w' => e = .returned (.tuple #[.string ⟨#[97, 37, 51, 68, 49]⟩, .bool true]) ∧ w' = w :=
  Any.strings_CutPrefix Tryz.laysCutPrefix fdS ⟨#[109, 97, 116, 99, 104, 61]⟩ w
theorem cell_newd (W : World) (cs : Array Value) (t : TypeId) (i : Nat) {n : Nat} (hn : W.heap.size = n) : ((W.alloc (.cells cs t)).drew).cell? ⟨n, i, none⟩ = cs[i]? := by
  subst hn
  exact (cells_of (heap_alloc_new W (.cells cs t)) i).1
set_option maxHeartbeats 1600000 in
set_option maxRecDepth 100000 in
theorem find_fd {w : World} (hT : Tabs w) : Calls Tryz.prog 93 #[.string fdS] w fun e w' => ∃ g cap, e = .returned (.tuple #[.slice (some ⟨g, 0, none⟩) 1 cap, .bool true]) ∧ Below w.heap.size w w' ∧ w'.cell? ⟨g, 2, none⟩ = some (.string ⟨#[49]⟩) := by
  have HS := Lib.hid (split_fd hT)
  have HU := Lib.hid unp_fd
  have HC := Lib.hid cut_fd
  have HRd : Hid (∀ w, Calls Tryz.prog 97 #[.string ⟨#[97, 61, 49]⟩] w fun e w' => e = .returned (.tuple #[.agg #[.string ⟨#[97]⟩, .int .u8 0, .string ⟨#[49]⟩], .int .i64 0]) ∧ Below w.heap.size w w') := Lib.hid Read_a
  obtain ⟨i0, hi, hz0, hz1, hz2⟩ := info_parts info75
  generalize fdS = S at HS HC ⊢
  go_enter Tryz.func93, Tryz.ntmps93
  go_wp2_with (first | (go_at_call 137; refine HS.out.mono ?_; rintro e w2 ⟨rfl, hw2⟩))
  have c0 : w2.cell? ⟨w.heap.size, 0, none⟩ = some (.string S) := by subst hw2; exact (cells_of (heap_alloc_new w _) 0).1
  have hb2 : Below w.heap.size w w2 := by subst hw2; exact (Below.refl _ _).alloc (Nat.le_refl _) _
  have HW2 := Lib.hid hw2
  clear hw2
  have H2 := Lib.hid (And.intro c0 hb2)
  clear c0 hb2
  go_loopw [4, 16] (fun v4 v16 wr => (v16 = .int .i64 0 ∧ v4 = .slice none 0 0 ∧ wr = w2) ∨ (v16 = .int .i64 1 ∧ ∃ g cap, v4 = .slice (some ⟨g, 0, none⟩) 1 cap ∧ Below w.heap.size w wr ∧ wr.cell? ⟨g, 2, none⟩ = some (.string ⟨#[49]⟩))) (fun _ v16 _ => 1 - (intOf v16).toNat)
  case atStart => exact .inl ⟨rfl, rfl, HW2.out.symm⟩
  case round =>
    rcases hrel with ⟨rfl, rfl, rfl⟩ | ⟨rfl, g, cap, rfl, hb, hc⟩
    · have c0 := H2.out.1
      have hsz2 := H2.out.2.size
      go_wp2_with (first
        | (go_at_call 91; refine (HC.out _).mono ?_; rintro e w3 ⟨rfl, rfl⟩)
        | (go_at_call 21; refine (HU.out _).mono ?_; rintro e w4 ⟨rfl, hb4⟩; have H4 := Lib.hid hb4; have hsz4 := hb4.size; clear hb4)
        | (go_at_call 97; refine (HRd.out _).mono ?_; rintro e w5 ⟨rfl, hb5⟩; have H5 := Lib.hid hb5; have hsz5 := hb5.size; clear hb5))
      refine ⟨.inr ⟨rfl, _, _, rfl, ?_, ?_⟩, by simp [intOf]⟩
      · exact Below.drew (((((H2.out.2.trans (H4.out.mono hsz2)).trans (H5.out.mono (by omega))).alloc (by omega) _).alloc (by simp; omega) _).alloc (by simp; omega) _)
      · rw [cell_newd _ _ _ _ (by simp)]
        rw [Array.getElem?_append_left (by simp)]
        rfl
    · go_wp2
      go_ret2
      exact ⟨g, cap, rfl, hb, hc⟩
end Go.Proofs.YtcdeikhfmllkdaaGreatDoor
