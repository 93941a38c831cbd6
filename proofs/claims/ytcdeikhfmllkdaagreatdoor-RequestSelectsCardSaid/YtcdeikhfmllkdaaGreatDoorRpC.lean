/- request: the documents' Light. -/
import Derived.Test.YtcdeikhfmllkdaaGreatDoorRpB
namespace Go.Proofs.YtcdeikhfmllkdaaGreatDoor
open Go.RowKit
set_option linter.unusedVariables false
set_option linter.unusedSimpArgs false
set_option maxHeartbeats 1000000 in
set_option maxRecDepth 100000 in
theorem light4_any {w : World} {V : Value} {l : List (Bytes × Bytes)} (L : PrsC w V l) (hm : l.length ≤ maxLen) : Calls Tryz.prog 33 #[.slice none 0 0, V] w fun e w' => (∃ b, e = .returned (.bool b)) ∧ w' = w := by
  obtain ⟨p, cap, rfl⟩ := L.form
  have HL := Lib.hid L
  clear L
  unfold maxLen at hm
  by_cases h40 : 40 < l.length
  · have h40i : decide ((40 : Int) < (l.length : Int)) = true := decide_eq_true (by omega)
    go_enter Tryz.func33, Tryz.ntmps33
    go_wp2
    go_ret
    exact ⟨⟨_, rfl⟩, rfl⟩
  have h40i : decide ((40 : Int) < (l.length : Int)) = false := decide_eq_false (by omega)
  go_enter Tryz.func33, Tryz.ntmps33
  go_wp2_with fail
  go_loopw [5] (fun v wr => ∃ n : Nat, v = .int .i64 n ∧ n ≤ l.length ∧ wr = w) (fun v _ => l.length - (intOf v).toNat)
  case atStart => exact ⟨0, rfl, by omega, rfl⟩
  case round =>
    obtain ⟨n, rfl, hn, rfl⟩ := hrel
    by_cases hlt : n < l.length
    · obtain ⟨x, hx⟩ : ∃ x, l[n] = x := ⟨_, rfl⟩
      obtain ⟨a, cap', e, k0, k1⟩ := HL.out.at (i := n) (x := x) (by rw [← hx]; exact List.getElem?_eq_getElem hlt)
      simp only [Value.slice.injEq] at e
      obtain ⟨rfl, -, rfl⟩ := e
      clear hx
      by_cases h200 : 200 < (str x.2).size
      · have h2 : decide ((200 : Int) < ((str x.2).size : Int)) = true := decide_eq_true (by omega)
        go_wp2
        go_ret
        exact ⟨⟨_, rfl⟩, rfl⟩
      · have h2 : decide ((200 : Int) < ((str x.2).size : Int)) = false := decide_eq_false (by omega)
        go_wp2
        go_roundw
        case measure => simp [intOf]; omega
        case rel => exact ⟨n + 1, by go_num, by omega, trivial⟩
    · go_wp2
      go_ret
      exact ⟨⟨_, rfl⟩, rfl⟩

/-- The request of a statement that has alerts alone, in memory. -/
def rqAls (V : Value) : Array Value := #[.int .u8 0, V, .string ⟨#[]⟩, .slice none 0 0, .int .i64 0, .int .i64 0, .string ⟨#[]⟩, .slice none 0 0]
structure LtRel (w wr : World) (V : Value) (l : List AlM) (n : Nat) : Prop where
  row : wr.heap[w.heap.size]? = some (.cells (rqAls V) 34)
  als : AlsC wr V l
  bel : Below w.heap.size w wr
  labs : ∀ a ∈ l.take n, a.labels.length ≤ 12
theorem LtRel.step {w wr : World} {V : Value} {l : List AlM} {n : Nat} (h : LtRel w wr V l n) {x : AlM} (hx : l[n]? = some x) (h12 : x.labels.length ≤ 12) : LtRel w wr V l (n + 1) :=
  ⟨h.row, h.als, h.bel, by
    have e : l.take (n + 1) = l.take n ++ [x] := by rw [List.take_add_one, hx]; rfl
    rw [e]
    intro a ha
    rcases List.mem_append.1 ha with ha | ha
    · exact h.labs a ha
    · obtain rfl := List.mem_singleton.1 ha; exact h12⟩
set_option maxHeartbeats 4000000 in
set_option maxRecDepth 100000 in
theorem light_any {w : World} {V : Value} {l : List AlM} (L : AlsC w V l) (hm : l.length ≤ maxLen) (hml : ∀ a ∈ l, a.labels.length ≤ maxLen) :
    Calls Tryz.prog 16 #[.agg #[.int .u8 0, V, .string ⟨#[]⟩, .slice none 0 0, .int .i64 0, .int .i64 0, .string ⟨#[]⟩, .slice none 0 0]] w fun e w' => Below w.heap.size w w' ∧ ((e = .returned (.bool true) ∧ l.length ≤ 30 ∧ ∀ a ∈ l, a.labels.length ≤ 12) ∨ e = .returned (.bool false)) := by
  obtain ⟨p, cap, rfl⟩ := L.form
  have H0 : Hid (LtRel w (w.alloc (.cells #[.int .u8 0, .slice p l.length cap, .string ⟨#[]⟩, .slice none 0 0, .int .i64 0, .int .i64 0, .string ⟨#[]⟩, .slice none 0 0] 34)) (.slice p l.length cap) l 0) :=
    Lib.hid ⟨heap_alloc_new _ _, L.below (Nat.le_refl _) ((Below.refl _ _).alloc (Nat.le_refl _) _), (Below.refl _ _).alloc (Nat.le_refl _) _, by simp⟩
  have HM := Lib.hid hml
  clear L hml
  unfold maxLen at hm
  by_cases h30 : 30 < l.length
  · have h30i : decide ((30 : Int) < (l.length : Int)) = true := decide_eq_true (by omega)
    go_enter Tryz.func16, Tryz.ntmps16
    go_wp2_with fail
    go_ret
    exact ⟨H0.out.bel, .inr rfl⟩
  have h30i : decide ((30 : Int) < (l.length : Int)) = false := decide_eq_false (by omega)
  go_enter Tryz.func16, Tryz.ntmps16
  go_upto_region 3 with fail
  generalize w.alloc _ = w1 at H0 ⊢
  go_wp2_with fail
  go_loopw [3] (fun v wr => ∃ n : Nat, v = .int .i64 n ∧ n ≤ l.length ∧ wr = w1 ∧ LtRel w w1 (.slice p l.length cap) l n) (fun v _ => l.length - (intOf v).toNat)
  case atStart => exact ⟨0, rfl, by omega, rfl, H0.out⟩
  case round =>
    obtain ⟨n, rfl, hn, rfl, hr⟩ := hrel
    have HR := Lib.hid hr
    clear hr
    have c1 : wr.cell? ⟨w.heap.size, 1, none⟩ = some (.slice p l.length cap) := (cells_of HR.out.row 1).1
    have c3 : wr.cell? ⟨w.heap.size, 3, none⟩ = some (.slice none 0 0) := (cells_of HR.out.row 3).1
    have c7 : wr.cell? ⟨w.heap.size, 7, none⟩ = some (.slice none 0 0) := (cells_of HR.out.row 7).1
    by_cases hlt : n < l.length
    · obtain ⟨x, hx⟩ : ∃ x, l[n]? = some x := ⟨_, List.getElem?_eq_getElem hlt⟩
      obtain ⟨a, cap', L, e, k0, kP, k1, k2⟩ := HR.out.als.at hx
      simp only [Value.slice.injEq] at e
      obtain ⟨rfl, -, rfl⟩ := e
      obtain ⟨pL, cL, rfl⟩ := kP.form
      have HP := Lib.hid (light4_any kP (HM.out x (List.mem_of_getElem? hx)))
      have hxm := HM.out x (List.mem_of_getElem? hx)
      unfold maxLen at hxm
      have HX := Lib.hid hx
      clear kP hx
      by_cases h12 : 12 < x.labels.length
      · have h12i : decide ((12 : Int) < (x.labels.length : Int)) = true := decide_eq_true (by omega)
        go_wp2_with (first | (go_at_call 33; refine HP.out.mono ?_; rintro e w2 ⟨⟨b, rfl⟩, hw⟩; rw [hw]; clear hw; cases b))
        all_goals
          go_ret
          exact ⟨HR.out.bel, .inr rfl⟩
      · have h12i : decide ((12 : Int) < (x.labels.length : Int)) = false := decide_eq_false (by omega)
        go_wp2_with (first | (go_at_call 33; refine HP.out.mono ?_; rintro e w2 ⟨⟨b, rfl⟩, hw⟩; rw [hw]; clear hw; cases b))
        · go_ret
          exact ⟨HR.out.bel, .inr rfl⟩
        · go_roundw
          case measure => simp [intOf]; omega
          case rel => exact ⟨n + 1, by go_num, by omega, trivial, HR.out.step HX.out (by omega)⟩
    · obtain rfl : n = l.length := by omega
      have hlabs : ∀ a ∈ l, a.labels.length ≤ 12 := by have := HR.out.labs; rwa [List.take_length] at this
      have HLB := Lib.hid hlabs
      clear hlabs
      go_wp2_with fail
      go_loopw [4] (fun v wr2 => v = .int .i64 0 ∧ wr2 = wr) (fun _ _ => 0)
      case atStart => exact ⟨rfl, rfl⟩
      case round =>
        obtain ⟨rfl, rfl⟩ := hrel
        go_wp2_with fail
        go_loopw [5] (fun v wr3 => v = .int .i64 0 ∧ wr3 = wr) (fun _ _ => 0)
        case atStart => exact ⟨rfl, rfl⟩
        case round =>
          obtain ⟨rfl, rfl⟩ := hrel
          go_wp2_with fail
          refine bodyPost_ret (fn := Tryz.f16) (results_tmp (fn := Tryz.f16) (t := 2) rfl _ _ _) ?_ ?_
          · rfl
          · exact ⟨HR.out.bel, .inl ⟨rfl, by omega, HLB.out⟩⟩
end Go.Proofs.YtcdeikhfmllkdaaGreatDoor
