/- request: body, Same, Print of a request that ends a silence. -/
import Derived.Test.YtcdeikhfmllkdaaGreatDoorRwC
namespace Go.Proofs.YtcdeikhfmllkdaaGreatDoor
open Go.RowKit
set_option linter.unusedVariables false
set_option linter.unusedSimpArgs false
theorem results_tct {P : Program} {fn : Func} {p u v : Tmp} {ty : TypeId} (h : fn.results = #[.tmp u, .cell p ty, .tmp v]) (tmps : Array Value) (w : World) (g : Nat) (t : TypeId) (cs : Array Value) (fr : Nat × Nat) (d : TypeDesc)
    (hp : tmps.getD p undef = .pointer (some ⟨g, 0, none⟩)) (hg : w.heap[g]? = some (.cells cs t fr))
    (hu : P.underlying ty = some d) (hd : (match d with | .struct _ | .array _ _ => true | _ => false) = true) (hi : (P.info? ty).map (·.size) = some cs.size) :
    (results fn tmps).run P w = .ok (.tuple #[tmps.getD u undef, .agg cs, tmps.getD v undef]) w := by
  have hp' : tmps[p]?.getD undef = .pointer (some ⟨g, 0, none⟩) := by simpa using hp
  simp [results, h, hp', asAddr, run_loadVar_row w g t ty cs fr d hg hu hd hi]
theorem results_body {fn : Func} {p u v : Tmp} (h : fn.results = #[.tmp u, .cell p 29, .tmp v]) (tmps : Array Value) (w : World) (g : Nat) (cs : Array Value) (hs : cs.size = 8)
    (hp : tmps.getD p undef = .pointer (some ⟨g, 0, none⟩)) (hg : w.heap[g]? = some (.cells cs 29)) :
    (results fn tmps).run Tryz.prog w = .ok (.tuple #[tmps.getD u undef, .agg cs, tmps.getD v undef]) w := by
  have hst := Tryz.struct29
  cases hd : Tryz.prog.underlying 29 with
  | none => rw [hd] at hst; cases hst
  | some d =>
    rw [hd] at hst
    refine results_tct h tmps w g 29 cs (0, 0) d hp hg hd ?_ (by rw [hs]; exact Tryz.size29)
    cases d <;> first | rfl | cases hst
theorem row_2of4 (w : World) (A B C D : Obj) : ((((w.alloc A).alloc B).alloc C).alloc D).drew.heap[w.heap.size + 1]? = some B := by
  have h : ((w.alloc A).alloc B).heap[w.heap.size + 1]? = some B := by rw [show w.heap.size + 1 = (w.alloc A).heap.size by simp]; exact heap_alloc_new _ _
  exact (heap_alloc_old _ _ (by simp)).trans ((heap_alloc_old _ _ (by simp)).trans h)
set_option maxHeartbeats 4000000 in
set_option maxRecDepth 100000 in
theorem body_e (w : World) : Calls Tryz.prog 54 #[.agg #[.int .u8 3, .slice none 0 0, .string ⟨#[]⟩, .slice none 0 0, .int .i64 0, .int .i64 0, .string ⟨#[120]⟩, .slice none 0 0]] w fun e w' => e = .returned (.tuple #[.string ⟨#[]⟩, .agg #[.int .u8 3, .slice none 0 0, .string ⟨#[]⟩, .slice none 0 0, .int .i64 0, .int .i64 0, .string ⟨#[120]⟩, .slice none 0 0], .int .i64 0]) ∧ Below w.heap.size w w' := by
  go_enter Tryz.func54, Tryz.ntmps54
  go_upto_region 13 with fail
  go_region
  go_wp2_with fail
  refine bodyPost_ret (results_body rfl _ _ (w.heap.size + 1) _ rfl rfl (row_2of4 _ _ _ _ _)) rfl ⟨rfl, ?_⟩
  exact Below.drew (((((Below.refl _ _).alloc (Nat.le_refl _) _).alloc (by simp) _).alloc (by simp; omega) _).alloc (by simp; omega) _)
set_option maxHeartbeats 4000000 in
set_option maxRecDepth 100000 in
theorem eqA_nil (w : World) (f : Value) : Calls Tryz.prog 61 #[.slice none 0 0, .slice none 0 0, f] w fun e w' => e = .returned (.bool true) ∧ w' = w := by
  go_enter Tryz.func61, Tryz.ntmps61
  go_wp2_with fail
  go_loopw [17] (fun v wr => v = .int .i64 0 ∧ wr = w) (fun _ _ => 0)
  case atStart => exact ⟨rfl, rfl⟩
  case round =>
    obtain ⟨rfl, rfl⟩ := hrel
    go_wp2
    go_ret
    exact ⟨rfl, rfl⟩
set_option maxHeartbeats 4000000 in
set_option maxRecDepth 100000 in
theorem eqM_nil (w : World) : Calls Tryz.prog 64 #[.slice none 0 0, .slice none 0 0] w fun e w' => e = .returned (.bool true) ∧ w' = w := by
  go_enter Tryz.func64, Tryz.ntmps64
  go_wp2_with fail
  go_loopw [13] (fun v wr => v = .int .i64 0 ∧ wr = w) (fun _ _ => 0)
  case atStart => exact ⟨rfl, rfl⟩
  case round =>
    obtain ⟨rfl, rfl⟩ := hrel
    go_wp2
    go_ret
    exact ⟨rfl, rfl⟩
set_option maxHeartbeats 4000000 in
set_option maxRecDepth 100000 in
theorem sameS_0 (w : World) : Calls Tryz.prog 63 #[.agg #[.string ⟨#[]⟩, .slice none 0 0, .int .i64 0, .int .i64 0], .agg #[.string ⟨#[]⟩, .slice none 0 0, .int .i64 0, .int .i64 0]] w fun e w' => e = .returned (.bool true) ∧ Below w.heap.size w w' := by
  have HM := Lib.hid eqM_nil
  go_enter Tryz.func63, Tryz.ntmps63
  go_wp2_with (first | (go_at_call 64; refine (HM.out _).mono ?_; rintro e w2 ⟨rfl, hw⟩; rw [hw]))
  go_ret
  exact ⟨rfl, ((Below.refl _ _).alloc (Nat.le_refl _) _).alloc (by simp) _⟩
theorem row_1of2 (w : World) (A B : Obj) : ((w.alloc A).alloc B).heap[w.heap.size]? = some A := (heap_alloc_old _ _ (by simp)).trans (heap_alloc_new _ _)
theorem row_2of2 (w : World) (A B : Obj) : ((w.alloc A).alloc B).heap[w.heap.size + 1]? = some B := by rw [show w.heap.size + 1 = (w.alloc A).heap.size by simp]; exact heap_alloc_new _ _
set_option maxHeartbeats 4000000 in
set_option maxRecDepth 100000 in
theorem Same_e (w : World) : Calls Tryz.prog 20 #[.agg #[.int .u8 3, .slice none 0 0, .string ⟨#[]⟩, .slice none 0 0, .int .i64 0, .int .i64 0, .string ⟨#[120]⟩, .slice none 0 0], .agg #[.int .u8 3, .slice none 0 0, .string ⟨#[]⟩, .slice none 0 0, .int .i64 0, .int .i64 0, .string ⟨#[120]⟩, .slice none 0 0]] w fun e w' => e = .returned (.bool true) ∧ Below w.heap.size w w' := by
  have HA := Lib.hid eqA_nil
  have HM := Lib.hid eqM_nil
  have HS := Lib.hid sameS_0
  go_enter Tryz.func20, Tryz.ntmps20
  go_wp2_with (first
    | (go_at_call 61; refine (HA.out _ _).mono ?_; rintro e w2 ⟨rfl, hw⟩; rw [hw])
    | (go_at_call 63; refine (HS.out _).mono ?_; rintro e w3 ⟨rfl, hb3⟩; have c7 : w3.cell? ⟨w.heap.size, 7, none⟩ = some (.slice none 0 0) := (cells_of ((hb3.block _ (by simp; omega)).trans (row_1of2 w _ _)) 7).1; have d7 : w3.cell? ⟨w.heap.size + 1, 7, none⟩ = some (.slice none 0 0) := (cells_of ((hb3.block _ (by simp)).trans (row_2of2 w _ _)) 7).1; have HB3 : Hid (Below w.heap.size w w3) := Lib.hid ((((Below.refl _ _).alloc (Nat.le_refl _) _).alloc (by simp) _).trans (hb3.mono (by simp; omega))); clear hb3)
    | (go_at_call 64; refine (HM.out _).mono ?_; rintro e w4 ⟨rfl, hw⟩; rw [hw]))
  go_ret
  exact ⟨rfl, HB3.out⟩
def txtEP : ByteArray := ⟨#[68, 69, 76, 69, 84, 69, 32, 47, 115, 105, 108, 101, 110, 99, 101, 47, 120, 10]⟩
set_option maxHeartbeats 4000000 in
set_option maxRecDepth 100000 in
theorem Print_e (w : World) (hP : ∀ w1, Below w.heap.size w w1 → Calls Tryz.prog 12 #[.string txtEP] w1 fun e w' => e = .returned (.tuple #[.agg #[.int .u8 3, .slice none 0 0, .string ⟨#[]⟩, .slice none 0 0, .int .i64 0, .int .i64 0, .string ⟨#[120]⟩, .slice none 0 0], .int .i64 0]) ∧ Below w1.heap.size w1 w') : Calls Tryz.prog 17 #[.agg #[.int .u8 3, .slice none 0 0, .string ⟨#[]⟩, .slice none 0 0, .int .i64 0, .int .i64 0, .string ⟨#[120]⟩, .slice none 0 0]] w fun e w' => e = .returned (.tuple #[.string txtEP, .int .i64 0]) ∧ Below w.heap.size w w' := by
  have HP := Lib.hid hP
  have HBd := Lib.hid body_e
  have HSm := Lib.hid Same_e
  clear hP
  go_enter Tryz.func17, Tryz.ntmps17
  go_upto_region 4 with (first
    | (go_at_call 54; refine (HBd.out _).mono ?_; rintro e w2 ⟨rfl, hb2⟩; have HB2 := Lib.hid hb2; clear hb2))
  have H2 : Hid ((w2.alloc (.cells #[.int .u8 3, .slice none 0 0, .string ⟨#[]⟩, .slice none 0 0, .int .i64 0, .int .i64 0, .string ⟨#[120]⟩, .slice none 0 0] 29)).heap[w.heap.size]? = some (.cells #[.int .u8 3, .slice none 0 0, .string ⟨#[]⟩, .slice none 0 0, .int .i64 0, .int .i64 0, .string ⟨#[120]⟩, .slice none 0 0] 29) ∧ (w2.alloc (.cells #[.int .u8 3, .slice none 0 0, .string ⟨#[]⟩, .slice none 0 0, .int .i64 0, .int .i64 0, .string ⟨#[120]⟩, .slice none 0 0] 29)).heap[w2.heap.size]? = some (.cells #[.int .u8 3, .slice none 0 0, .string ⟨#[]⟩, .slice none 0 0, .int .i64 0, .int .i64 0, .string ⟨#[120]⟩, .slice none 0 0] 29) ∧ Below w.heap.size w (w2.alloc (.cells #[.int .u8 3, .slice none 0 0, .string ⟨#[]⟩, .slice none 0 0, .int .i64 0, .int .i64 0, .string ⟨#[120]⟩, .slice none 0 0] 29))) := by
    have h1 : w2.heap[w.heap.size]? = some (.cells #[.int .u8 3, .slice none 0 0, .string ⟨#[]⟩, .slice none 0 0, .int .i64 0, .int .i64 0, .string ⟨#[120]⟩, .slice none 0 0] 29) := (HB2.out.block _ (by simp)).trans (heap_alloc_new w _)
    have hs := HB2.out.size
    simp only [World.size_alloc] at hs
    exact Lib.hid ⟨(heap_alloc_old _ _ (by omega)).trans h1, heap_alloc_new _ _, (((Below.refl _ _).alloc (Nat.le_refl _) _).trans (HB2.out.mono (by simp))).alloc (by omega) _⟩
  clear HB2
  generalize w2.heap.size = b5 at H2 ⊢
  generalize w2.alloc _ = w3 at H2 ⊢
  have b0 : w3.cell? ⟨w.heap.size, 0, none⟩ = some (.int .u8 3) := (cells_of H2.out.1 0).1
  have b6 : w3.cell? ⟨w.heap.size, 6, none⟩ = some (.string ⟨#[120]⟩) := (cells_of H2.out.1 6).1
  have d7 : w3.cell? ⟨b5, 7, none⟩ = some (.slice none 0 0) := (cells_of H2.out.2.1 7).1
  go_wp2_with fail
  have hcat : ((⟨#[68, 69, 76, 69, 84, 69, 32, 47, 115, 105, 108, 101, 110, 99, 101, 47]⟩ : ByteArray) ++ ⟨#[120]⟩) ++ ⟨#[10]⟩ ++ ⟨#[]⟩ = txtEP := by decide +kernel
  go_loopw [8, 43] (fun v8 v wr => v8 = .slice none 0 0 ∧ v = .int .i64 0 ∧ wr = w3) (fun _ _ _ => 0)
  case atStart => exact ⟨rfl, rfl, rfl⟩
  case round =>
    obtain ⟨rfl, rfl, rfl⟩ := hrel
    go_upto_region 19 with (first
      | (go_at_call 12; refine (HP.out _ H2.out.2.2).mono ?_; rintro e w4 ⟨rfl, hb4⟩; have HB4 := Lib.hid hb4; clear hb4))
    have H4 : Hid ((w4.alloc (.cells #[.int .u8 3, .slice none 0 0, .string ⟨#[]⟩, .slice none 0 0, .int .i64 0, .int .i64 0, .string ⟨#[120]⟩, .slice none 0 0] 29)).heap[b5]? = some (.cells #[.int .u8 3, .slice none 0 0, .string ⟨#[]⟩, .slice none 0 0, .int .i64 0, .int .i64 0, .string ⟨#[120]⟩, .slice none 0 0] 29) ∧ (w4.alloc (.cells #[.int .u8 3, .slice none 0 0, .string ⟨#[]⟩, .slice none 0 0, .int .i64 0, .int .i64 0, .string ⟨#[120]⟩, .slice none 0 0] 29)).heap[w4.heap.size]? = some (.cells #[.int .u8 3, .slice none 0 0, .string ⟨#[]⟩, .slice none 0 0, .int .i64 0, .int .i64 0, .string ⟨#[120]⟩, .slice none 0 0] 29) ∧ Below w.heap.size w (w4.alloc (.cells #[.int .u8 3, .slice none 0 0, .string ⟨#[]⟩, .slice none 0 0, .int .i64 0, .int .i64 0, .string ⟨#[120]⟩, .slice none 0 0] 29))) := by
      have hl := (Array.getElem?_eq_some_iff.1 H2.out.2.1).1
      have hs := HB4.out.size
      have hs2 := H2.out.2.2.size
      have h1 : w4.heap[b5]? = some (.cells #[.int .u8 3, .slice none 0 0, .string ⟨#[]⟩, .slice none 0 0, .int .i64 0, .int .i64 0, .string ⟨#[120]⟩, .slice none 0 0] 29) := (HB4.out.block _ hl).trans H2.out.2.1
      exact Lib.hid ⟨(heap_alloc_old _ _ (by omega)).trans h1, heap_alloc_new _ _, (H2.out.2.2.trans (HB4.out.mono hs2)).alloc (by omega) _⟩
    clear HB4 H2 b0 b6 d7 hcat
    generalize w4.heap.size = b6' at H4 ⊢
    generalize w4.alloc _ = w5 at H4 ⊢
    have e0 : w5.cell? ⟨b5, 0, none⟩ = some (.int .u8 3) := (cells_of H4.out.1 0).1
    have e1 : w5.cell? ⟨b5, 1, none⟩ = some (.slice none 0 0) := (cells_of H4.out.1 1).1
    have e2 : w5.cell? ⟨b5, 2, none⟩ = some (.string ⟨#[]⟩) := (cells_of H4.out.1 2).1
    have e3 : w5.cell? ⟨b5, 3, none⟩ = some (.slice none 0 0) := (cells_of H4.out.1 3).1
    have e4 : w5.cell? ⟨b5, 4, none⟩ = some (.int .i64 0) := (cells_of H4.out.1 4).1
    have e5 : w5.cell? ⟨b5, 5, none⟩ = some (.int .i64 0) := (cells_of H4.out.1 5).1
    have e6 : w5.cell? ⟨b5, 6, none⟩ = some (.string ⟨#[120]⟩) := (cells_of H4.out.1 6).1
    have e7 : w5.cell? ⟨b5, 7, none⟩ = some (.slice none 0 0) := (cells_of H4.out.1 7).1
    have f0 : w5.cell? ⟨b6', 0, none⟩ = some (.int .u8 3) := (cells_of H4.out.2.1 0).1
    have f1 : w5.cell? ⟨b6', 1, none⟩ = some (.slice none 0 0) := (cells_of H4.out.2.1 1).1
    have f2 : w5.cell? ⟨b6', 2, none⟩ = some (.string ⟨#[]⟩) := (cells_of H4.out.2.1 2).1
    have f3 : w5.cell? ⟨b6', 3, none⟩ = some (.slice none 0 0) := (cells_of H4.out.2.1 3).1
    have f4 : w5.cell? ⟨b6', 4, none⟩ = some (.int .i64 0) := (cells_of H4.out.2.1 4).1
    have f5 : w5.cell? ⟨b6', 5, none⟩ = some (.int .i64 0) := (cells_of H4.out.2.1 5).1
    have f6 : w5.cell? ⟨b6', 6, none⟩ = some (.string ⟨#[120]⟩) := (cells_of H4.out.2.1 6).1
    have f7 : w5.cell? ⟨b6', 7, none⟩ = some (.slice none 0 0) := (cells_of H4.out.2.1 7).1
    go_wp2_with (first
      | (go_at_call 20; refine (HSm.out _).mono ?_; rintro e w6 ⟨rfl, hb6⟩; have HB6 := Lib.hid hb6; clear hb6))
    go_ret2
    exact ⟨rfl, H4.out.2.2.trans (HB6.out.mono H4.out.2.2.size)⟩
end Go.Proofs.YtcdeikhfmllkdaaGreatDoor
