/- request: match.Read of a=1. -/
import Derived.Test.YtcdeikhfmllkdaaGreatDoorRwA
namespace Go.Proofs.YtcdeikhfmllkdaaGreatDoor
open Go.RowKit
set_option linter.unusedVariables false
set_option linter.unusedSimpArgs false
set_option maxHeartbeats 1600000 in
set_option maxRecDepth 100000 in
theorem Name_a (w : World) : Calls Tryz.prog 164 #[.string ⟨#[97]⟩] w fun e w' => e = .returned (.bool true) ∧ w' = w := by
  have hx : ∀ w1 : World, Sem.run Tryz.prog (Instr.index 9 (.string ⟨#[97]⟩) (.int .i64 0)) w1 = .ok (.int .u8 97) w1 := fun w1 => by kernel_rfl
  go_enter Tryz.func164, Tryz.ntmps164
  go_wp2_with fail
  go_loopw [24] (fun v wr => ∃ i : Nat, v = .int .i64 i ∧ i ≤ 1 ∧ wr = w) (fun v _ => 1 - (intOf v).toNat)
  case atStart => exact ⟨0, rfl, by omega, rfl⟩
  case round =>
    obtain ⟨i, rfl, hi, rfl⟩ := hrel
    match i, hi with
    | 0, _ =>
      rw [show ((0 : Nat) : Int) = 0 from rfl]
      go_wp2_with fail
      exact ⟨⟨1, rfl, by decide, trivial⟩, by simp [intOf]⟩
    | 1, _ =>
      rw [show ((1 : Nat) : Int) = 1 from rfl]
      go_wp2
      go_ret
      exact ⟨rfl, rfl⟩
set_option maxHeartbeats 1600000 in
set_option maxRecDepth 100000 in
theorem Check_a (w : World) : Calls Tryz.prog 127 #[.agg #[.string ⟨#[97]⟩, .int .u8 0, .string ⟨#[49]⟩]] w fun e w' => e = .returned (.int .i64 0) ∧ Below w.heap.size w w' := by
  have HN := Lib.hid Name_a
  go_enter Tryz.func127, Tryz.ntmps127
  go_wp2_with (first | (go_at_call 164; refine (HN.out _).mono ?_; rintro e w2 ⟨rfl, rfl⟩))
  go_ret
  exact ⟨rfl, (Below.refl _ _).alloc (Nat.le_refl _) _⟩
def signB (k : Nat) : ByteArray := [⟨#[61]⟩, ⟨#[33, 61]⟩, ⟨#[61, 126]⟩, ⟨#[33, 126]⟩].getD k ⟨#[]⟩
set_option maxHeartbeats 1600000 in
set_option maxRecDepth 100000 in
theorem signs_any (w : World) (k : Nat) (hk : k < 4) : Calls Tryz.prog 105 #[.int .u8 k] w fun e w' => e = .returned (.string (signB k)) ∧ w' = w := by
  match k, hk with
  | 0, _ | 1, _ | 2, _ | 3, _ =>
    simp only [show ((0 : Nat) : Int) = 0 from rfl, show ((1 : Nat) : Int) = 1 from rfl, show ((2 : Nat) : Int) = 2 from rfl, show ((3 : Nat) : Int) = 3 from rfl]
    go_enter Tryz.func105, Tryz.ntmps105
    go_wp2_with fail
    go_ret
    exact ⟨rfl, rfl⟩
theorem Tryz.size75 : (Tryz.prog.info? 75).map (·.size) = some 3 := by kernel_rfl
theorem Tryz.struct75 : (match Tryz.prog.underlying 75 with | some (.struct _) => true | _ => false) = true := by kernel_rfl
theorem results_m {fn : Func} {p u : Tmp} (h : fn.results = #[.cell p 75, .tmp u]) (tmps : Array Value) (w : World) (g : Nat) (cs : Array Value) (hs : cs.size = 3)
    (hp : tmps.getD p undef = .pointer (some ⟨g, 0, none⟩)) (hg : w.heap[g]? = some (.cells cs 75)) :
    (results fn tmps).run Tryz.prog w = .ok (.tuple #[.agg cs, tmps.getD u undef]) w := by
  have hst := Tryz.struct75
  cases hd : Tryz.prog.underlying 75 with
  | none => rw [hd] at hst; cases hst
  | some d =>
    rw [hd] at hst
    refine results_ct h tmps w g 75 cs (0, 0) d hp hg hd ?_ (by rw [hs]; exact Tryz.size75)
    cases d <;> first | rfl | cases hst
def mcA : Array Value := #[.string ⟨#[97]⟩, .int .u8 0, .string ⟨#[49]⟩]
def mc0 : Array Value := #[.string ⟨#[]⟩, .int .u8 0, .string ⟨#[]⟩]
set_option maxHeartbeats 1600000 in
set_option maxRecDepth 100000 in
theorem Read_a (w : World) : Calls Tryz.prog 97 #[.string ⟨#[97, 61, 49]⟩] w fun e w' => e = .returned (.tuple #[.agg mcA, .int .i64 0]) ∧ Below w.heap.size w w' := by
  have HC := Lib.hid Check_a
  have HI : Hid (∀ w1, Calls Tryz.prog 66 #[.string ⟨#[97, 61, 49]⟩, .int .u8 61] w1 fun e w' => e = .returned (.int .i64 1) ∧ w' = w1) := Lib.hid (fun w1 => Any.strings_IndexByte Tryz.laysIndexByte ⟨#[97, 61, 49]⟩ 61 w1)
  have HJ : Hid (∀ w1, Calls Tryz.prog 66 #[.string ⟨#[97, 61, 49]⟩, .int .u8 33] w1 fun e w' => e = .returned (.int .i64 (-1)) ∧ w' = w1) := Lib.hid (fun w1 => Any.strings_IndexByte Tryz.laysIndexByte ⟨#[97, 61, 49]⟩ 33 w1)
  go_enter Tryz.func97, Tryz.ntmps97
  go_wp2_with (first | (go_at_call 66; (first | refine (HI.out _).mono ?_ | refine (HJ.out _).mono ?_); rintro e w2 ⟨rfl, rfl⟩))
  generalize hW1 : w.alloc _ = w1
  have HB1 : Hid (w1.heap[w.heap.size]? = some (.cells mc0 75) ∧ Below w.heap.size w w1) := by subst hW1; exact Lib.hid ⟨heap_alloc_new _ _, (Below.refl _ _).alloc (Nat.le_refl _) _⟩
  clear hW1
  have xs1 : ∀ w1 : World, Sem.run Tryz.prog (Instr.slice 9 (.string ⟨#[97, 61, 49]⟩) (some (.int .i64 1)) none none) w1 = .ok (.string ⟨#[61, 49]⟩) w1 := fun w1 => by kernel_rfl
  have xs2 : ∀ w1 : World, Sem.run Tryz.prog (Instr.slice 9 (.string ⟨#[97, 61, 49]⟩) none (some (.int .i64 1)) none) w1 = .ok (.string ⟨#[97]⟩) w1 := fun w1 => by kernel_rfl
  have HP : Hid (∀ (k : Nat), k < 4 → ∀ w1, Calls Tryz.prog 91 #[.string ⟨#[61, 49]⟩, .string (signB k)] w1 fun e w' => e = .returned (.tuple #[.string (if k = 0 then ⟨#[49]⟩ else ⟨#[61, 49]⟩), .bool (if k = 0 then true else false)]) ∧ w' = w1) := Lib.hid (fun k hk w1 => by
    match k, hk with
    | 0, _ => exact Any.strings_CutPrefix Tryz.laysCutPrefix ⟨#[61, 49]⟩ (signB 0) w1
    | 1, _ => exact Any.strings_CutPrefix Tryz.laysCutPrefix ⟨#[61, 49]⟩ (signB 1) w1
    | 2, _ => exact Any.strings_CutPrefix Tryz.laysCutPrefix ⟨#[61, 49]⟩ (signB 2) w1
    | 3, _ => exact Any.strings_CutPrefix Tryz.laysCutPrefix ⟨#[61, 49]⟩ (signB 3) w1)
  have HSg := Lib.hid signs_any
  go_loopw [31] (fun v wr => ∃ i : Nat, v = .int .i64 i ∧ i ≤ 3 ∧ wr.heap[w.heap.size]? = some (.cells mc0 75) ∧ Below w.heap.size w wr) (fun v _ => 3 - (intOf v).toNat)
  case atStart => exact ⟨0, rfl, by omega, HB1.out.1, HB1.out.2⟩
  case round =>
    obtain ⟨i, rfl, hi, hrow, hbel⟩ := hrel
    have HR := Lib.hid (And.intro hrow hbel)
    have hbs := hbel.size
    have hlt : w.heap.size < wr.heap.size := (Array.getElem?_eq_some_iff.1 hrow).1
    clear hrow hbel HB1
    match i, hi with
    | 0, _ =>
      have ix : ∀ w1 : World, Sem.run Tryz.prog (Instr.index 194 (.agg #[.int .u8 2, .int .u8 3, .int .u8 1, .int .u8 0]) (.int .i64 0)) w1 = .ok (.int .u8 2) w1 := fun w1 => by kernel_rfl
      have HS2 := Lib.hid (fun w1 => HSg.out w1 2 (by decide))
      have HP2 := Lib.hid (HP.out 2 (by decide))
      rw [show ((0 : Nat) : Int) = 0 from rfl]
      go_upto_region 10 with fail
      go_quiet (first | (go_at_call 105; exact Calls.quiet_of_same (HS2.out _)) | (go_at_call 91; exact Calls.quiet_of_same (HP2.out _)))
      go_upto_region 11 with fail
      have HQ : Hid ((wr.drewN nq).heap[w.heap.size]? = some (.cells mc0 75) ∧ Below w.heap.size w (wr.drewN nq) ∧ w.heap.size < (wr.drewN nq).heap.size) := Lib.hid ⟨HR.out.1, below_drewN HR.out.2 _, hlt⟩
      clear HR hlt hbs
      generalize wr.drewN nq = wq at HQ ⊢
      go_wp2_with fail
      exact ⟨⟨1, rfl, by decide, (heap_alloc_old _ _ HQ.out.2.2).trans HQ.out.1, HQ.out.2.1.alloc (Nat.le_of_lt HQ.out.2.2) _⟩, by simp [intOf]⟩
    | 1, _ =>
      have ix : ∀ w1 : World, Sem.run Tryz.prog (Instr.index 194 (.agg #[.int .u8 2, .int .u8 3, .int .u8 1, .int .u8 0]) (.int .i64 1)) w1 = .ok (.int .u8 3) w1 := fun w1 => by kernel_rfl
      have HS2 := Lib.hid (fun w1 => HSg.out w1 3 (by decide))
      have HP2 := Lib.hid (HP.out 3 (by decide))
      rw [show ((1 : Nat) : Int) = 1 from rfl]
      go_upto_region 10 with fail
      go_quiet (first | (go_at_call 105; exact Calls.quiet_of_same (HS2.out _)) | (go_at_call 91; exact Calls.quiet_of_same (HP2.out _)))
      go_upto_region 11 with fail
      have HQ : Hid ((wr.drewN nq).heap[w.heap.size]? = some (.cells mc0 75) ∧ Below w.heap.size w (wr.drewN nq) ∧ w.heap.size < (wr.drewN nq).heap.size) := Lib.hid ⟨HR.out.1, below_drewN HR.out.2 _, hlt⟩
      clear HR hlt hbs
      generalize wr.drewN nq = wq at HQ ⊢
      go_wp2_with fail
      exact ⟨⟨2, rfl, by decide, (heap_alloc_old _ _ HQ.out.2.2).trans HQ.out.1, HQ.out.2.1.alloc (Nat.le_of_lt HQ.out.2.2) _⟩, by simp [intOf]⟩
    | 2, _ =>
      have ix : ∀ w1 : World, Sem.run Tryz.prog (Instr.index 194 (.agg #[.int .u8 2, .int .u8 3, .int .u8 1, .int .u8 0]) (.int .i64 2)) w1 = .ok (.int .u8 1) w1 := fun w1 => by kernel_rfl
      have HS2 := Lib.hid (fun w1 => HSg.out w1 1 (by decide))
      have HP2 := Lib.hid (HP.out 1 (by decide))
      rw [show ((2 : Nat) : Int) = 2 from rfl]
      go_upto_region 10 with fail
      go_quiet (first | (go_at_call 105; exact Calls.quiet_of_same (HS2.out _)) | (go_at_call 91; exact Calls.quiet_of_same (HP2.out _)))
      go_upto_region 11 with fail
      have HQ : Hid ((wr.drewN nq).heap[w.heap.size]? = some (.cells mc0 75) ∧ Below w.heap.size w (wr.drewN nq) ∧ w.heap.size < (wr.drewN nq).heap.size) := Lib.hid ⟨HR.out.1, below_drewN HR.out.2 _, hlt⟩
      clear HR hlt hbs
      generalize wr.drewN nq = wq at HQ ⊢
      go_wp2_with fail
      exact ⟨⟨3, rfl, by decide, (heap_alloc_old _ _ HQ.out.2.2).trans HQ.out.1, HQ.out.2.1.alloc (Nat.le_of_lt HQ.out.2.2) _⟩, by simp [intOf]⟩
    | 3, _ =>
      have ix : ∀ w1 : World, Sem.run Tryz.prog (Instr.index 194 (.agg #[.int .u8 2, .int .u8 3, .int .u8 1, .int .u8 0]) (.int .i64 3)) w1 = .ok (.int .u8 0) w1 := fun w1 => by kernel_rfl
      have HS2 := Lib.hid (fun w1 => HSg.out w1 0 (by decide))
      have HP2 := Lib.hid (HP.out 0 (by decide))
      rw [show ((3 : Nat) : Int) = 3 from rfl]
      go_upto_region 10 with fail
      go_quiet (first | (go_at_call 105; exact Calls.quiet_of_same (HS2.out _)) | (go_at_call 91; exact Calls.quiet_of_same (HP2.out _)))
      go_upto_region 11 with fail
      have HQ : Hid ((wr.drewN nq).heap[w.heap.size]? = some (.cells mc0 75) ∧ Below w.heap.size w (wr.drewN nq) ∧ w.heap.size < (wr.drewN nq).heap.size) := Lib.hid ⟨HR.out.1, below_drewN HR.out.2 _, hlt⟩
      clear HR hlt hbs
      generalize wr.drewN nq = wq at HQ ⊢
      go_upto_region 12 with fail
      have HA : Hid ((wq.alloc (.cells mcA 75)).heap[w.heap.size]? = some (.cells mc0 75) ∧ (wq.alloc (.cells mcA 75)).heap[wq.heap.size]? = some (.cells mcA 75) ∧ Below w.heap.size w (wq.alloc (.cells mcA 75)) ∧ w.heap.size < (wq.alloc (.cells mcA 75)).heap.size) := Lib.hid ⟨(heap_alloc_old _ _ HQ.out.2.2).trans HQ.out.1, heap_alloc_new _ _, HQ.out.2.1.alloc (Nat.le_of_lt HQ.out.2.2) _, by have := HQ.out.2.2; simp; omega⟩
      go_wp2_with (first
        | (go_at_call 127; refine (HC.out _).mono ?_; rintro e w2 ⟨rfl, hb2⟩; have HB2 := Lib.hid hb2; have r2 := Lib.hid ((hb2.block _ (Array.getElem?_eq_some_iff.1 HA.out.2.1).1).trans HA.out.2.1); have r0 := Lib.hid ((hb2.block _ HA.out.2.2.2).trans HA.out.1); have c0 : w2.cell? ⟨wq.heap.size, 0, none⟩ = some (.string ⟨#[97]⟩) := (cells_of r2.out 0).1; have c1 : w2.cell? ⟨wq.heap.size, 1, none⟩ = some (.int .u8 0) := (cells_of r2.out 1).1; have c2 : w2.cell? ⟨wq.heap.size, 2, none⟩ = some (.string ⟨#[49]⟩) := (cells_of r2.out 2).1; clear hb2)
        | (refine wpList_store_row rfl 75 (.tmp 2) (.tmp 55) rfl w.heap.size mcA ?hx ?hy 75 mc0 r0.out ?hi ?hold ?h1 ?h))
      case hx => rfl
      case hy => rfl
      case hi => exact Tryz.size75
      case hold => rfl
      case h1 => decide +kernel
      refine bodyPost_ret (results_m rfl _ _ w.heap.size mcA rfl rfl (setRow_heap _ _ _ _ _ _ r0.out)) rfl ⟨rfl, ?_⟩
      exact below_setRow (HA.out.2.2.1.trans (HB2.out.mono (Nat.le_of_lt HA.out.2.2.2))) (Nat.le_refl _) _
end Go.Proofs.YtcdeikhfmllkdaaGreatDoor
