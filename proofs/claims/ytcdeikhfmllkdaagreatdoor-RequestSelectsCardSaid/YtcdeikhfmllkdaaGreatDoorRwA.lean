/- request: the lines of the kinds. -/
import Derived.Test.YtcdeikhfmllkdaaGreatDoorJa
import Derived.Laws.CopyOwn
namespace Go.Proofs.YtcdeikhfmllkdaaGreatDoor
open Go.RowKit
set_option linter.unusedVariables false
set_option linter.unusedSimpArgs false
def plainB (k : Nat) : ByteArray := [⟨#[]⟩, ⟨#[80, 79, 83, 84, 32, 47, 97, 108, 101, 114, 116, 115]⟩, ⟨#[80, 79, 83, 84, 32, 47, 115, 105, 108, 101, 110, 99, 101, 115]⟩, ⟨#[]⟩, ⟨#[71, 69, 84, 32, 47, 97, 108, 101, 114, 116, 115]⟩, ⟨#[71, 69, 84, 32, 47, 115, 105, 108, 101, 110, 99, 101, 115]⟩, ⟨#[71, 69, 84, 32, 47, 115, 116, 97, 116, 117, 115]⟩].getD k ⟨#[]⟩
set_option maxHeartbeats 1600000 in
set_option maxRecDepth 100000 in
theorem plain_any (w : World) (k : Nat) (hk : k ≤ 6) : Calls Tryz.prog 55 #[.int .u8 k] w fun e w' => e = .returned (.string (plainB k)) ∧ Below w.heap.size w w' := by
  match k, hk with
  | 0, _ | 1, _ | 2, _ | 3, _ | 4, _ | 5, _ | 6, _ =>
    simp only [show ((0 : Nat) : Int) = 0 from rfl, show ((1 : Nat) : Int) = 1 from rfl, show ((2 : Nat) : Int) = 2 from rfl, show ((3 : Nat) : Int) = 3 from rfl, show ((4 : Nat) : Int) = 4 from rfl, show ((5 : Nat) : Int) = 5 from rfl, show ((6 : Nat) : Int) = 6 from rfl]
    go_enter Tryz.func55, Tryz.ntmps55
    go_wp2_with fail
    go_ret
    exact ⟨rfl, (Below.refl _ _).alloc (Nat.le_refl _) _⟩

theorem results_ct {P : Program} {fn : Func} {p u : Tmp} {ty : TypeId} (h : fn.results = #[.cell p ty, .tmp u]) (tmps : Array Value) (w : World) (g : Nat) (t : TypeId) (cs : Array Value) (fr : Nat × Nat) (d : TypeDesc)
    (hp : tmps.getD p undef = .pointer (some ⟨g, 0, none⟩)) (hg : w.heap[g]? = some (.cells cs t fr))
    (hu : P.underlying ty = some d) (hd : (match d with | .struct _ | .array _ _ => true | _ => false) = true) (hi : (P.info? ty).map (·.size) = some cs.size) :
    (results fn tmps).run P w = .ok (.tuple #[.agg cs, tmps.getD u undef]) w := by
  have hp' : tmps[p]?.getD undef = .pointer (some ⟨g, 0, none⟩) := by simpa using hp
  simp [results, h, hp', asAddr, run_loadVar_row w g t ty cs fr d hg hu hd hi]
theorem Tryz.size29 : (Tryz.prog.info? 29).map (·.size) = some 8 := by kernel_rfl
theorem Tryz.struct29 : (match Tryz.prog.underlying 29 with | some (.struct _) => true | _ => false) = true := by kernel_rfl
theorem results_rq {fn : Func} {p u : Tmp} (h : fn.results = #[.cell p 29, .tmp u]) (tmps : Array Value) (w : World) (g : Nat) (cs : Array Value) (hs : cs.size = 8)
    (hp : tmps.getD p undef = .pointer (some ⟨g, 0, none⟩)) (hg : w.heap[g]? = some (.cells cs 29)) :
    (results fn tmps).run Tryz.prog w = .ok (.tuple #[.agg cs, tmps.getD u undef]) w := by
  have hst := Tryz.struct29
  cases hd : Tryz.prog.underlying 29 with
  | none => rw [hd] at hst; cases hst
  | some d =>
    rw [hd] at hst
    refine results_ct h tmps w g 29 cs (0, 0) d hp hg hd ?_ (by rw [hs]; exact Tryz.size29)
    cases d <;> first | rfl | cases hst
/-- A request's cells. -/
def rqCells (k : Int) (al : Value) (sid : ByteArray) (sm : Value) (s e : Int) (id : ByteArray) (m : Value) : Array Value := #[.int .u8 k, al, .string sid, sm, .int .i64 s, .int .i64 e, .string id, m]
def rq0 : Array Value := rqCells 0 (.slice none 0 0) ⟨#[]⟩ (.slice none 0 0) 0 0 ⟨#[]⟩ (.slice none 0 0)

/-- What line makes, on its way. -/
structure LnRel (w wr : World) (b : Nat) : Prop where
  row : wr.heap[b]? = some (.cells rq0 29)
  bel : Below w.heap.size w wr
set_option maxHeartbeats 4000000 in
set_option maxRecDepth 100000 in
theorem line_none (w : World) (S : ByteArray) (hs : ∀ i, 1 ≤ i → i ≤ 6 → i ≠ 3 → (S.toList == (plainB i).toList) = false)
   (h1 : ∀ w, Calls Tryz.prog 91 #[.string S, .string ⟨#[68, 69, 76, 69, 84, 69, 32, 47, 115, 105, 108, 101, 110, 99, 101, 47]⟩] w fun e w' => e = .returned (.tuple #[.string S, .bool false]) ∧ w' = w)
   (h2 : ∀ w, Calls Tryz.prog 91 #[.string S, .string ⟨#[71, 69, 84, 32, 47, 97, 108, 101, 114, 116, 115, 63]⟩] w fun e w' => e = .returned (.tuple #[.string S, .bool false]) ∧ w' = w) :
   Calls Tryz.prog 43 #[.string S] w fun e w' => e = .returned (.tuple #[.agg rq0, .int .i64 8]) ∧ Below w.heap.size w w' := by
  have HS := Lib.hid hs
  have H1 := Lib.hid h1
  have H2 := Lib.hid h2
  clear hs h1 h2
  go_enter Tryz.func43, Tryz.ntmps43
  go_upto_region 2 with (fail)
  go_loopw [4] (fun v wr => ∃ i : Nat, v = .int .u8 i ∧ 1 ≤ i ∧ i ≤ 7 ∧ LnRel w wr w.heap.size) (fun v _ => 7 - (intOf v).toNat)
  case atStart => exact ⟨1, rfl, by omega, by omega, heap_alloc_new _ _, (Below.refl _ _).alloc (Nat.le_refl _) _⟩
  case round =>
    obtain ⟨i, rfl, hi1, hi7, hR⟩ := hrel
    have HR := Lib.hid hR
    clear hR
    by_cases h7 : i = 7
    · subst h7
      rw [show ((7 : Nat) : Int) = 7 from rfl]
      go_wp2_with (first
        | (go_at_call 91; (first | refine (H1.out _).mono ?_ | refine (H2.out _).mono ?_); rintro e w2 ⟨rfl, rfl⟩)
        | (refine wpList_store_row rfl 29 (.tmp 2) (.tmp 46) rfl w.heap.size rq0 ?hx ?hy 29 rq0 HR.out.row ?hi ?hold ?h1 ?h))
      case hx => rfl
      case hy => rfl
      case hi => exact Tryz.size29
      case hold => rfl
      case h1 => decide +kernel
      refine bodyPost_ret (results_rq rfl _ _ w.heap.size rq0 rfl rfl (setRow_heap _ _ _ _ _ _ HR.out.row)) rfl ⟨rfl, ?_⟩
      exact below_setRow HR.out.bel (Nat.le_refl _) _
    · have HP := Lib.hid (plain_any wr i (by omega))
      obtain ⟨P, hP⟩ : ∃ P, plainB i = P := ⟨_, rfl⟩
      rw [hP] at HP
      have HSi : Hid (i ≠ 3 → (S.toList == P.toList) = false) := by subst hP; exact Lib.hid (fun h => HS.out i hi1 (by omega) h)
      clear hP HS H1 H2
      match i, hi1, hi7, h7 with
      | 0, h, _, _ => omega
      | k + 8, _, h, _ => omega
      | 7, _, _, h => exact absurd rfl h
      | 1, _, _, _ | 2, _, _, _ | 4, _, _, _ | 5, _, _, _ | 6, _, _, _ =>
        have hd := HSi.out (by decide)
        simp only [show ((1 : Nat) : Int) = 1 from rfl, show ((2 : Nat) : Int) = 2 from rfl, show ((3 : Nat) : Int) = 3 from rfl, show ((4 : Nat) : Int) = 4 from rfl, show ((5 : Nat) : Int) = 5 from rfl, show ((6 : Nat) : Int) = 6 from rfl] at HP ⊢
        go_wp2_with (first | (go_at_call 55; (refine HP.out.mono ?_); rintro e w2 ⟨rfl, hb2⟩))
        exact ⟨⟨_, rfl, by decide, by decide, (hb2.block _ (Array.getElem?_eq_some_iff.1 HR.out.row).1).trans HR.out.row, HR.out.bel.trans (hb2.mono HR.out.bel.size)⟩, by simp [intOf]⟩
      | 3, _, _, _ =>
        simp only [show ((3 : Nat) : Int) = 3 from rfl] at HP ⊢
        go_wp2_with fail
        exact ⟨⟨4, rfl, by omega, by omega, HR.out⟩, by simp [intOf]⟩
end Go.Proofs.YtcdeikhfmllkdaaGreatDoor
