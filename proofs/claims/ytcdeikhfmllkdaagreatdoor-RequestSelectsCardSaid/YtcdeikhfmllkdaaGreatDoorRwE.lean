/- request: Parse of three texts. -/
import Derived.Test.YtcdeikhfmllkdaaGreatDoorRwD
namespace Go.Proofs.YtcdeikhfmllkdaaGreatDoor
open Go.RowKit
set_option linter.unusedVariables false
set_option linter.unusedSimpArgs false
theorem cut_nl {w : World} (hT : Tabs w) (S : ByteArray) (hs : S.size < 100) (A : Bytes) (h : Lib.cut S.data.toList [10] = (A, [], true)) : Calls Tryz.prog 42 #[.string S, .string ⟨#[10]⟩] w fun e w' => e = .returned (.tuple #[.string (str A), .string ⟨#[]⟩, .bool true]) ∧ ∃ n, w' = w.drewN n := by
  obtain ⟨mx, hmx⟩ := hT.2
  have := Any.strings_Cut Tryz.laysCut S ⟨#[10]⟩ mx w (by omega) hmx
  rw [show (⟨#[10]⟩ : ByteArray).data.toList = [10] from rfl, h] at this
  exact this
theorem tabs_bel {w w' : World} (hT : Tabs w) (hb : Below w.heap.size w w') : Tabs w' := hT.turn (S := fun _ => False) (Turn.of_below hb) (by simp) (by simp) (by simp)
def txtX : ByteArray := ⟨#[71, 69, 84, 32, 47, 120, 10]⟩
def txtE : ByteArray := ⟨#[68, 69, 76, 69, 84, 69, 32, 47, 115, 105, 108, 101, 110, 99, 101, 47, 120, 10]⟩
def txtG : ByteArray := ⟨#[71, 69, 84, 32, 47, 97, 108, 101, 114, 116, 115, 63, 109, 97, 116, 99, 104, 61, 97, 37, 51, 68, 49, 10]⟩
theorem plain_ne (S : ByteArray) (h : ((List.range 7).all fun i => !(S.toList == (plainB i).toList)) = true) : ∀ i, 1 ≤ i → i ≤ 6 → i ≠ 3 → (S.toList == (plainB i).toList) = false := by
  intro i _ h6 _
  have := List.all_eq_true.1 h i (by simp; omega)
  simpa using this
theorem has_x {w w1 : World} (hT : Tabs w) (hb : Below w.heap.size w w1) : Calls Tryz.prog 92 #[.string ⟨#[120]⟩, .string ⟨#[47]⟩] w1 fun e w' => e = .returned (.bool false) ∧ w' = w1 := by
  obtain ⟨mx, hmx⟩ := (tabs_bel hT hb).2
  exact Any.strings_Contains Tryz.laysContains ⟨#[120]⟩ ⟨#[47]⟩ mx w1 (by decide) hmx
theorem line_x (w : World) : Calls Tryz.prog 43 #[.string (str [71, 69, 84, 32, 47, 120])] w (LnPost w none) :=
  line_any w _ (plain_ne _ (by decide +kernel)) none ⟨fun w => Any.strings_CutPrefix Tryz.laysCutPrefix _ _ w, fun w => Any.strings_CutPrefix Tryz.laysCutPrefix _ _ w⟩
theorem line_e {w : World} (hT : Tabs w) : Calls Tryz.prog 43 #[.string (str [68, 69, 76, 69, 84, 69, 32, 47, 115, 105, 108, 101, 110, 99, 101, 47, 120])] w (LnPost w (some (false, ⟨#[120]⟩))) :=
  line_any w _ (plain_ne _ (by decide +kernel)) (some (false, ⟨#[120]⟩)) ⟨fun w => Any.strings_CutPrefix Tryz.laysCutPrefix _ _ w, by decide +kernel, fun w1 hb => has_x hT hb⟩
theorem line_g {w : World} (hT : Tabs w) : Calls Tryz.prog 43 #[.string (str [71, 69, 84, 32, 47, 97, 108, 101, 114, 116, 115, 63, 109, 97, 116, 99, 104, 61, 97, 37, 51, 68, 49])] w (LnPost w (some (true, fdS))) :=
  line_any w _ (plain_ne _ (by decide +kernel)) (some (true, fdS)) ⟨fun w => Any.strings_CutPrefix Tryz.laysCutPrefix _ _ w, fun w => Any.strings_CutPrefix Tryz.laysCutPrefix _ _ w, fun w1 hb => find_fd (tabs_bel hT hb)⟩
set_option maxHeartbeats 4000000 in
set_option maxRecDepth 100000 in
theorem Parse_x {w : World} (hT : Tabs w) : Calls Tryz.prog 12 #[.string txtX] w fun e w' => e = .returned (.tuple #[.agg rq0, .int .i64 8]) ∧ Below w.heap.size w w' := by
  have HCt : Hid (∀ w1, Below w.heap.size w w1 → Calls Tryz.prog 42 #[.string txtX, .string ⟨#[10]⟩] w1 fun e w' => e = .returned (.tuple #[.string (str [71, 69, 84, 32, 47, 120]), .string ⟨#[]⟩, .bool true]) ∧ ∃ n, w' = w1.drewN n) := Lib.hid (fun w1 hb => cut_nl (tabs_bel hT hb) txtX (by decide) _ (by decide +kernel))
  have HL : Hid (∀ w1, Calls Tryz.prog 43 #[.string (str [71, 69, 84, 32, 47, 120])] w1 fun e w' => e = .returned (.tuple #[.agg #[.int .u8 0, .slice none 0 0, .string ⟨#[]⟩, .slice none 0 0, .int .i64 0, .int .i64 0, .string ⟨#[]⟩, .slice none 0 0], .int .i64 8]) ∧ Below w1.heap.size w1 w') := Lib.hid line_x
  have hsz : txtX.size = 7 := rfl
  generalize txtX = S at HCt hsz ⊢
  generalize str [71, 69, 84, 32, 47, 120] = L at HCt HL
  go_enter Tryz.func12, Tryz.ntmps12
  go_upto_region 3 with fail
  generalize hW1 : w.alloc _ = w1
  have H1 : Hid (w1.heap[w.heap.size]? = some (.cells rq0 29) ∧ Below w.heap.size w w1) := by subst hW1; exact Lib.hid ⟨heap_alloc_new _ _, (Below.refl _ _).alloc (Nat.le_refl _) _⟩
  clear hW1
  go_wp2_with (first
    | (go_at_call 42; refine (HCt.out _ H1.out.2).mono ?_; rintro e w2 ⟨rfl, n, hw⟩; have H2 : Hid (w2.heap[w.heap.size]? = some (.cells rq0 29) ∧ Below w.heap.size w w2) := by { subst hw; exact Lib.hid ⟨H1.out.1, below_drewN H1.out.2 _⟩ }; clear hw)
    | (go_at_call 43; refine (HL.out _).mono ?_; rintro e w3 ⟨rfl, hb3⟩; have hl3 := Lib.hid (Nat.lt_of_lt_of_le (Array.getElem?_eq_some_iff.1 H2.out.1).1 hb3.size); have H3 : Hid (w3.heap[w.heap.size]? = some (.cells rq0 29) ∧ Below w.heap.size w w3) := Lib.hid ⟨(hb3.block _ (Array.getElem?_eq_some_iff.1 H2.out.1).1).trans H2.out.1, H2.out.2.trans (hb3.mono H2.out.2.size)⟩; clear hb3)
    | (refine wpList_store_row rfl 29 (.tmp 2) (.tmp 33) rfl w.heap.size rq0 ?hx ?hy 29 rq0 ((heap_alloc_old _ _ hl3.out).trans H3.out.1) ?hi ?hold ?h1 ?h))
  case hx => rfl
  case hy => rfl
  case hi => exact Tryz.size29
  case hold => rfl
  case h1 => decide +kernel
  refine bodyPost_ret (results_rq rfl _ _ w.heap.size rq0 rfl rfl (setRow_heap _ _ _ _ _ _ ((heap_alloc_old _ _ hl3.out).trans H3.out.1))) rfl ⟨rfl, ?_⟩
  exact below_setRow (H3.out.2.alloc (Nat.le_of_lt hl3.out) _) (Nat.le_refl _) _
theorem rqCells_one (k : Int) (id : ByteArray) (p : Option Addr) (n c : Nat) : (rqCells k (.slice none 0 0) ⟨#[]⟩ (.slice none 0 0) 0 0 id (.slice p n c)).all (·.oneCell') = true := by
  simp [rqCells, Value.oneCell']
set_option maxHeartbeats 8000000 in
set_option maxRecDepth 100000 in
theorem Parse_ok {w : World} (hT : Tabs w) (S : ByteArray) (L : Bytes) (hsz : S.size < 100) (hcut : Lib.cut S.data.toList [10] = (L, [], true)) (k : Int) (hk : k = 3 ∨ k = 4) (id : ByteArray) (F : Option Addr → Nat → Nat → World → Prop)
    (hF2 : ∀ p n c w1 w2, F p n c w1 → Below w1.heap.size w1 w2 → F p n c w2) (hF3 : ∀ p n c w1 b cs, F p n c w1 → w1.heap[b]? = some (.cells rq0 29) → F p n c (w1.setRow b cs))
    (hL : ∀ w1, Below w.heap.size w w1 → Calls Tryz.prog 43 #[.string (str L)] w1 fun e w' => ∃ p n c, e = .returned (.tuple #[.agg (rqCells k (.slice none 0 0) ⟨#[]⟩ (.slice none 0 0) 0 0 id (.slice p n c)), .int .i64 0]) ∧ Below w1.heap.size w1 w' ∧ F p n c w') :
    Calls Tryz.prog 12 #[.string S] w fun e w' => ∃ p n c, e = .returned (.tuple #[.agg (rqCells k (.slice none 0 0) ⟨#[]⟩ (.slice none 0 0) 0 0 id (.slice p n c)), .int .i64 0]) ∧ Below w.heap.size w w' ∧ F p n c w' := by
  have HCt : Hid (∀ w1, Below w.heap.size w w1 → Calls Tryz.prog 42 #[.string S, .string ⟨#[10]⟩] w1 fun e w' => e = .returned (.tuple #[.string (str L), .string ⟨#[]⟩, .bool true]) ∧ ∃ n, w' = w1.drewN n) := Lib.hid (fun w1 hb => cut_nl (tabs_bel hT hb) S hsz _ hcut)
  have HL : Hid (∀ w1, Below w.heap.size w w1 → Calls Tryz.prog 43 #[.string (str L)] w1 fun e w' => ∃ p n c, e = .returned (.tuple #[.agg #[.int .u8 k, .slice none 0 0, .string ⟨#[]⟩, .slice none 0 0, .int .i64 0, .int .i64 0, .string id, .slice p n c], .int .i64 0]) ∧ Below w1.heap.size w1 w' ∧ F p n c w') := Lib.hid hL
  have HF := Lib.hid (And.intro hF2 hF3)
  clear hL hT hcut hF2 hF3
  generalize str L = T at HCt HL
  rcases hk with rfl | rfl
  all_goals
    go_enter Tryz.func12, Tryz.ntmps12
    go_upto_region 3 with fail
    generalize hW1 : w.alloc _ = w1
    have H1 : Hid (w1.heap[w.heap.size]? = some (.cells rq0 29) ∧ Below w.heap.size w w1) := by subst hW1; exact Lib.hid ⟨heap_alloc_new _ _, (Below.refl _ _).alloc (Nat.le_refl _) _⟩
    clear hW1
    go_wp2_with (first
      | (go_at_call 42; refine (HCt.out _ H1.out.2).mono ?_; rintro e w2 ⟨rfl, n, hw⟩; have H2 : Hid (w2.heap[w.heap.size]? = some (.cells rq0 29) ∧ Below w.heap.size w w2) := by { subst hw; exact Lib.hid ⟨H1.out.1, below_drewN H1.out.2 _⟩ }; clear hw)
      | (go_at_call 43; refine (HL.out _ H2.out.2).mono ?_; rintro e w3 ⟨p, n, c, rfl, hb3, hm3⟩; have HM := Lib.hid hm3; have hl3 := Lib.hid (Nat.lt_of_lt_of_le (Array.getElem?_eq_some_iff.1 H2.out.1).1 hb3.size); have H3 : Hid (w3.heap[w.heap.size]? = some (.cells rq0 29) ∧ Below w.heap.size w w3) := Lib.hid ⟨(hb3.block _ (Array.getElem?_eq_some_iff.1 H2.out.1).1).trans H2.out.1, H2.out.2.trans (hb3.mono H2.out.2.size)⟩; clear hb3 hm3)
      | (refine wpList_store_row rfl 29 (.tmp 2) (.tmp 46) rfl w.heap.size (rqCells 3 (.slice none 0 0) ⟨#[]⟩ (.slice none 0 0) 0 0 id (.slice p n c)) (by rfl) (by rfl) 29 rq0 ((heap_alloc_old _ _ hl3.out).trans H3.out.1) Tryz.size29 rfl (rqCells_one _ _ _ _ _) ?_)
      | (refine wpList_store_row rfl 29 (.tmp 2) (.tmp 46) rfl w.heap.size (rqCells 4 (.slice none 0 0) ⟨#[]⟩ (.slice none 0 0) 0 0 id (.slice p n c)) (by rfl) (by rfl) 29 rq0 ((heap_alloc_old _ _ hl3.out).trans H3.out.1) Tryz.size29 rfl (rqCells_one _ _ _ _ _) ?_))
    refine bodyPost_ret (results_rq rfl _ _ w.heap.size _ rfl rfl (setRow_heap _ _ _ _ _ _ ((heap_alloc_old _ _ hl3.out).trans H3.out.1))) rfl ⟨p, n, c, rfl, ?_, ?_⟩
    · exact below_setRow (H3.out.2.alloc (Nat.le_of_lt hl3.out) _) (Nat.le_refl _) _
    · exact HF.out.2 _ _ _ _ _ _ (HF.out.1 _ _ _ _ _ HM.out ((Below.refl _ _).alloc (Nat.le_refl _) _)) ((heap_alloc_old _ _ hl3.out).trans H3.out.1)
theorem Parse_e {w : World} (hT : Tabs w) : Calls Tryz.prog 12 #[.string txtE] w fun e w' => e = .returned (.tuple #[.agg (rqEnd ⟨#[120]⟩), .int .i64 0]) ∧ Below w.heap.size w w' := by
  refine (Parse_ok hT txtE [68, 69, 76, 69, 84, 69, 32, 47, 115, 105, 108, 101, 110, 99, 101, 47, 120] (by decide) (by decide +kernel) 3 (.inl rfl) ⟨#[120]⟩ (fun p n c _ => p = none ∧ n = 0 ∧ c = 0) (fun _ _ _ _ _ h _ => h) (fun _ _ _ _ _ _ h _ => h) (fun w1 hb => (line_e (tabs_bel hT hb)).mono ?_)).mono ?_
  · rintro e w' ⟨rfl, hb⟩
    exact ⟨none, 0, 0, rfl, hb, rfl, rfl, rfl⟩
  · rintro e w' ⟨p, n, c, rfl, hb, rfl, rfl, rfl⟩
    exact ⟨rfl, hb⟩
theorem Parse_g {w : World} (hT : Tabs w) : Calls Tryz.prog 12 #[.string txtG] w fun e w' => ∃ g cap, e = .returned (.tuple #[.agg (rqGet (.slice (some ⟨g, 0, none⟩) 1 cap)), .int .i64 0]) ∧ Below w.heap.size w w' ∧ w'.cell? ⟨g, 2, none⟩ = some (.string ⟨#[49]⟩) := by
  refine (Parse_ok hT txtG [71, 69, 84, 32, 47, 97, 108, 101, 114, 116, 115, 63, 109, 97, 116, 99, 104, 61, 97, 37, 51, 68, 49] (by decide) (by decide +kernel) 4 (.inr rfl) ⟨#[]⟩ (fun p n c w => ∃ g, p = some ⟨g, 0, none⟩ ∧ n = 1 ∧ w.cell? ⟨g, 2, none⟩ = some (.string ⟨#[49]⟩)) ?_ ?_ (fun w1 hb => (line_g (tabs_bel hT hb)).mono ?_)).mono ?_
  · rintro p n c w1 w2 ⟨g, rfl, rfl, h⟩ hb
    exact ⟨g, rfl, rfl, (hb.cell (World.block_lt_of_cell? w1 _ h)).trans h⟩
  · rintro p n c w1 b cs ⟨g, rfl, rfl, h⟩ hr
    refine ⟨g, rfl, rfl, ?_⟩
    rw [cell_setRow_other _ _ _ _ (show g ≠ b from ?_)]
    · exact h
    · rintro rfl
      rw [(cells_of hr 2).1] at h
      cases h
  · rintro e w' ⟨g, cap, rfl, hb, h⟩
    exact ⟨_, _, _, rfl, hb, g, rfl, rfl, h⟩
  · rintro e w' ⟨p, n, c, rfl, hb, g, rfl, rfl, h⟩
    exact ⟨g, c, rfl, hb, h⟩
end Go.Proofs.YtcdeikhfmllkdaaGreatDoor
