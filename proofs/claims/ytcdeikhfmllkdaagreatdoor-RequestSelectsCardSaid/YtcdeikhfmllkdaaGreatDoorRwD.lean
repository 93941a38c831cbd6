/- request: line, of another line than the plain ones. -/
import Derived.Test.YtcdeikhfmllkdaaGreatDoorRwC
namespace Go.Proofs.YtcdeikhfmllkdaaGreatDoor
open Go.RowKit
set_option linter.unusedVariables false
set_option linter.unusedSimpArgs false
def delB : ByteArray := ⟨#[68, 69, 76, 69, 84, 69, 32, 47, 115, 105, 108, 101, 110, 99, 101, 47]⟩
def getB : ByteArray := ⟨#[71, 69, 84, 32, 47, 97, 108, 101, 114, 116, 115, 63]⟩
def rqEnd (id : ByteArray) : Array Value := rqCells 3 (.slice none 0 0) ⟨#[]⟩ (.slice none 0 0) 0 0 id (.slice none 0 0)
def rqGet (m : Value) : Array Value := rqCells 4 (.slice none 0 0) ⟨#[]⟩ (.slice none 0 0) 0 0 ⟨#[]⟩ m
/-- strings.CutPrefix, as it answers. -/
def Cuts (S P R : ByteArray) (b : Bool) : Prop := ∀ w, Calls Tryz.prog 91 #[.string S, .string P] w fun e w' => e = .returned (.tuple #[.string R, .bool b]) ∧ w' = w
/-- A line that ends a silence. -/
structure LnEnd (w : World) (S R : ByteArray) : Prop where
  cut : Cuts S delB R true
  ne : (R.toList == []) = false
  has : ∀ w1, Below w.heap.size w w1 → Calls Tryz.prog 92 #[.string R, .string ⟨#[47]⟩] w1 fun e w' => e = .returned (.bool false) ∧ w' = w1
/-- A line that asks for alerts. -/
structure LnGet (w : World) (S R : ByteArray) : Prop where
  cut1 : Cuts S delB S false
  cut2 : Cuts S getB R true
  fd : ∀ w1, Below w.heap.size w w1 → Calls Tryz.prog 93 #[.string R] w1 fun e w' => ∃ g cap, e = .returned (.tuple #[.slice (some ⟨g, 0, none⟩) 1 cap, .bool true]) ∧ Below w1.heap.size w1 w' ∧ w'.cell? ⟨g, 2, none⟩ = some (.string ⟨#[49]⟩)
def LnHyp (w : World) (S : ByteArray) : Option (Bool × ByteArray) → Prop
  | none => Cuts S delB S false ∧ Cuts S getB S false
  | some (false, R) => LnEnd w S R
  | some (true, R) => LnGet w S R
/-- What line answers. -/
def LnPost (w : World) (c : Option (Bool × ByteArray)) (e : Ending) (w' : World) : Prop :=
  match c with
  | none => e = .returned (.tuple #[.agg rq0, .int .i64 8]) ∧ Below w.heap.size w w'
  | some (false, R) => e = .returned (.tuple #[.agg (rqEnd R), .int .i64 0]) ∧ Below w.heap.size w w'
  | some (true, R) => ∃ g cap, e = .returned (.tuple #[.agg (rqGet (.slice (some ⟨g, 0, none⟩) 1 cap)), .int .i64 0]) ∧ Below w.heap.size w w' ∧ w'.cell? ⟨g, 2, none⟩ = some (.string ⟨#[49]⟩)
theorem rqEnd_one (R : ByteArray) : (rqEnd R).all (·.oneCell') = true := by simp [rqEnd, rqCells, Value.oneCell']
theorem rqGet_one (p : Option Addr) (n c : Nat) : (rqGet (.slice p n c)).all (·.oneCell') = true := by simp [rqGet, rqCells, Value.oneCell']
set_option maxHeartbeats 16000000 in
set_option maxRecDepth 100000 in
theorem line_any (w : World) (S : ByteArray) (hs : ∀ i, 1 ≤ i → i ≤ 6 → i ≠ 3 → (S.toList == (plainB i).toList) = false)
   (c : Option (Bool × ByteArray)) (hc : LnHyp w S c) : Calls Tryz.prog 43 #[.string S] w (LnPost w c) := by
  have HS := Lib.hid hs
  have HC := Lib.hid hc
  clear hs hc
  go_enter Tryz.func43, Tryz.ntmps43
  go_upto_region 2 with (fail)
  go_loopw [4] (fun v wr => ∃ i : Nat, v = .int .u8 i ∧ 1 ≤ i ∧ i ≤ 7 ∧ LnRel w wr w.heap.size) (fun v _ => 7 - (intOf v).toNat)
  case atStart => exact ⟨1, rfl, by omega, by omega, heap_alloc_new _ _, (Below.refl _ _).alloc (Nat.le_refl _) _⟩
  case round =>
    obtain ⟨i, rfl, hi1, hi7, hR⟩ := hrel
    have HR := Lib.hid hR
    clear hR
    by_cases h7 : i = 7
    · subst h7
      rw [show ((7 : Nat) : Int) = 7 from rfl]
      rcases c with _ | ⟨_ | _, R⟩
      · obtain ⟨h1, h2⟩ : Cuts S delB S false ∧ Cuts S getB S false := HC.out
        have H1 : Hid (∀ w, Calls Tryz.prog 91 #[.string S, .string ⟨#[68, 69, 76, 69, 84, 69, 32, 47, 115, 105, 108, 101, 110, 99, 101, 47]⟩] w fun e w' => e = .returned (.tuple #[.string S, .bool false]) ∧ w' = w) := Lib.hid h1
        have H2 : Hid (∀ w, Calls Tryz.prog 91 #[.string S, .string ⟨#[71, 69, 84, 32, 47, 97, 108, 101, 114, 116, 115, 63]⟩] w fun e w' => e = .returned (.tuple #[.string S, .bool false]) ∧ w' = w) := Lib.hid h2
        clear h1 h2
        go_wp2_with (first
          | (go_at_call 91; (first | refine (H1.out _).mono ?_ | refine (H2.out _).mono ?_); rintro e w2 ⟨rfl, rfl⟩)
          | (refine wpList_store_row rfl 29 (.tmp 2) (.tmp 46) rfl w.heap.size rq0 ?hx ?hy 29 rq0 HR.out.row ?hi ?hold ?h1 ?h))
        case hx => rfl
        case hy => rfl
        case hi => exact Tryz.size29
        case hold => rfl
        case h1 => decide +kernel
        refine bodyPost_ret (results_rq rfl _ _ w.heap.size rq0 rfl rfl (setRow_heap _ _ _ _ _ _ HR.out.row)) rfl ⟨rfl, ?_⟩
        exact below_setRow HR.out.bel (Nat.le_refl _) _
      · have h : LnEnd w S R := HC.out
        have H := Lib.hid h
        have he := h.ne
        have H1 : Hid (∀ w, Calls Tryz.prog 91 #[.string S, .string ⟨#[68, 69, 76, 69, 84, 69, 32, 47, 115, 105, 108, 101, 110, 99, 101, 47]⟩] w fun e w' => e = .returned (.tuple #[.string R, .bool true]) ∧ w' = w) := Lib.hid h.cut
        clear h
        go_wp2_with (first
          | (go_at_call 91; refine (H1.out _).mono ?_; rintro e w2 ⟨rfl, rfl⟩)
          | (go_at_call 92; refine (H.out.has _ HR.out.bel).mono ?_; rintro e w3 ⟨rfl, rfl⟩)
          | (refine wpList_store_row rfl 29 (.tmp 2) (.tmp 38) rfl w.heap.size (rqEnd R) ?hx ?hy 29 rq0 HR.out.row ?hi ?hold ?h1 ?h))
        case hx => rfl
        case hy => rfl
        case hi => exact Tryz.size29
        case hold => rfl
        case h1 => exact rqEnd_one R
        refine bodyPost_ret (results_rq rfl _ _ w.heap.size (rqEnd R) rfl rfl (setRow_heap _ _ _ _ _ _ HR.out.row)) rfl ⟨rfl, ?_⟩
        exact below_setRow HR.out.bel (Nat.le_refl _) _
      · have h : LnGet w S R := HC.out
        have H := Lib.hid h
        have H1 : Hid (∀ w, Calls Tryz.prog 91 #[.string S, .string ⟨#[68, 69, 76, 69, 84, 69, 32, 47, 115, 105, 108, 101, 110, 99, 101, 47]⟩] w fun e w' => e = .returned (.tuple #[.string S, .bool false]) ∧ w' = w) := Lib.hid h.cut1
        have H2 : Hid (∀ w, Calls Tryz.prog 91 #[.string S, .string ⟨#[71, 69, 84, 32, 47, 97, 108, 101, 114, 116, 115, 63]⟩] w fun e w' => e = .returned (.tuple #[.string R, .bool true]) ∧ w' = w) := Lib.hid h.cut2
        clear h
        go_wp2_with (first
          | (go_at_call 91; (first | refine (H1.out _).mono ?_ | refine (H2.out _).mono ?_); rintro e w2 ⟨rfl, rfl⟩)
          | (go_at_call 93; refine (H.out.fd _ HR.out.bel).mono ?_; rintro e w3 ⟨g, cap, rfl, hb3, hc3⟩; have H3 := Lib.hid (And.intro hb3 hc3); have r3 := Lib.hid ((hb3.block _ (Array.getElem?_eq_some_iff.1 HR.out.row).1).trans HR.out.row); clear hb3 hc3)
          | (refine wpList_store_row rfl 29 (.tmp 2) (.tmp 56) rfl w.heap.size (rqGet (.slice (some ⟨g, 0, none⟩) 1 cap)) ?hx ?hy 29 rq0 r3.out ?hi ?hold ?h1 ?h))
        case hx => rfl
        case hy => rfl
        case hi => exact Tryz.size29
        case hold => rfl
        case h1 => exact rqGet_one _ _ _
        have hne : g ≠ w.heap.size := by
          rintro rfl
          have := H3.out.2
          rw [(cells_of r3.out 2).1] at this
          cases this
        refine bodyPost_ret (results_rq rfl _ _ w.heap.size (rqGet (.slice (some ⟨g, 0, none⟩) 1 cap)) rfl rfl (setRow_heap _ _ _ _ _ _ r3.out)) rfl ⟨g, cap, rfl, ?_, ?_⟩
        · exact below_setRow (HR.out.bel.trans (H3.out.1.mono HR.out.bel.size)) (Nat.le_refl _) _
        · rw [cell_setRow_other _ _ _ _ hne]; exact H3.out.2
    · have HP := Lib.hid (plain_any wr i (by omega))
      obtain ⟨P, hP⟩ : ∃ P, plainB i = P := ⟨_, rfl⟩
      rw [hP] at HP
      have HSi : Hid (i ≠ 3 → (S.toList == P.toList) = false) := by subst hP; exact Lib.hid (fun h => HS.out i hi1 (by omega) h)
      clear hP HS HC
      match i, hi1, hi7, h7 with
      | 0, h, _, _ => omega
      | k + 8, _, h, _ => omega
      | 7, _, _, h => exact absurd rfl h
      | 1, _, _, _ | 2, _, _, _ | 4, _, _, _ | 5, _, _, _ | 6, _, _, _ =>
        have hd := HSi.out (by decide)
        simp only [show ((1 : Nat) : Int) = 1 from rfl, show ((2 : Nat) : Int) = 2 from rfl, show ((3 : Nat) : Int) = 3 from rfl, show ((4 : Nat) : Int) = 4 from rfl, show ((5 : Nat) : Int) = 5 from rfl, show ((6 : Nat) : Int) = 6 from rfl] at HP ⊢
        go_wp2_with (first | (go_at_call 55; (refine HP.out.mono ?_); rintro e w2 ⟨rfl, hb2⟩))
        exact ⟨⟨_, rfl, by decide, by decide, (hb2.block _ (Array.getElem?_eq_some_iff.1 HR.out.row).1).trans HR.out.row, HR.out.bel.trans (hb2.mono HR.out.bel.size)⟩, by simp [intOf]⟩
      | 3, _, _, _ =>
        simp only [show ((3 : Nat) : Int) = 3 from rfl] at HP ⊢
        go_wp2_with fail
        exact ⟨⟨4, rfl, by omega, by omega, HR.out⟩, by simp [intOf]⟩
end Go.Proofs.YtcdeikhfmllkdaaGreatDoor
