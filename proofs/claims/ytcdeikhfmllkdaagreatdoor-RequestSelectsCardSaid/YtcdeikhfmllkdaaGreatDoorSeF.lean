/- request: the documents' Light, of any request. -/
import Derived.Test.YtcdeikhfmllkdaaGreatDoorSe1
namespace Go.Proofs.YtcdeikhfmllkdaaGreatDoor
open Go.RowKit
set_option linter.unusedVariables false
set_option linter.unusedSimpArgs false
def LabOk (l : List (Bytes × Bytes)) : Prop := ∀ p ∈ l, p.2.length ≤ 200
set_option maxHeartbeats 1000000 in
set_option maxRecDepth 100000 in
theorem light4_full {w : World} {V : Value} {l : List (Bytes × Bytes)} (L : PrsC w V l) (hm : l.length ≤ maxLen) : Calls Tryz.prog 33 #[.slice none 0 0, V] w fun e w' => ((e = .returned (.bool true) ∧ LabOk l) ∨ e = .returned (.bool false)) ∧ w' = w := by
  obtain ⟨p, cap, rfl⟩ := L.form
  have HL := Lib.hid L
  clear L
  unfold maxLen at hm
  by_cases h40 : 40 < l.length
  · have h40i : decide ((40 : Int) < (l.length : Int)) = true := decide_eq_true (by omega)
    go_enter Tryz.func33, Tryz.ntmps33
    go_wp2
    go_ret
    exact ⟨.inr rfl, rfl⟩
  have h40i : decide ((40 : Int) < (l.length : Int)) = false := decide_eq_false (by omega)
  go_enter Tryz.func33, Tryz.ntmps33
  go_wp2_with fail
  go_loopw [5] (fun v wr => ∃ n : Nat, v = .int .i64 n ∧ n ≤ l.length ∧ wr = w ∧ LabOk (l.take n)) (fun v _ => l.length - (intOf v).toNat)
  case atStart => exact ⟨0, rfl, by omega, rfl, by intro p hp; simp at hp⟩
  case round =>
    obtain ⟨n, rfl, hn, rfl, hk⟩ := hrel
    have HK := Lib.hid hk
    clear hk
    by_cases hlt : n < l.length
    · obtain ⟨x, hx⟩ : ∃ x, l[n]? = some x := ⟨_, List.getElem?_eq_getElem hlt⟩
      obtain ⟨a, cap', e, k0, k1⟩ := HL.out.at hx
      simp only [Value.slice.injEq] at e
      obtain ⟨rfl, -, rfl⟩ := e
      have HX := Lib.hid hx
      clear hx
      have hsz := str_size x.2
      by_cases h200 : 200 < (str x.2).size
      · have h2 : decide ((200 : Int) < ((str x.2).size : Int)) = true := decide_eq_true (by omega)
        go_wp2
        go_ret
        exact ⟨.inr rfl, rfl⟩
      · have h2 : decide ((200 : Int) < ((str x.2).size : Int)) = false := decide_eq_false (by omega)
        have hk2 : LabOk (l.take (n + 1)) := by
          intro q hq
          rw [List.take_add_one, HX.out] at hq
          rcases List.mem_append.1 hq with hq | hq
          · exact HK.out q hq
          · obtain rfl : q = x := by simpa using hq
            omega
        have HK2 := Lib.hid hk2
        clear hk2
        go_wp2
        go_roundw
        case measure => simp [intOf]; omega
        case rel => exact ⟨n + 1, by go_num, by omega, trivial, HK2.out⟩
    · have hk := HK.out
      rw [show n = l.length by omega, List.take_length] at hk
      have HKK := Lib.hid hk
      clear hk HK
      go_wp2
      go_ret
      exact ⟨.inl ⟨rfl, HKK.out⟩, rfl⟩
def MtLight (l : List MtM) : Prop := ∀ m ∈ l, m.value.length ≤ 200 ∧ m.name.length ≤ 200
def AlLight (l : List AlM) : Prop := ∀ a ∈ l, a.labels.length ≤ 12 ∧ LabOk a.labels
theorem take_all {α : Type} {P : α → Prop} {l : List α} {n : Nat} {x : α} (hx : l[n]? = some x) (h : ∀ a ∈ l.take n, P a) (hp : P x) : ∀ a ∈ l.take (n + 1), P a := by
  intro a ha
  rw [List.take_add_one, hx] at ha
  rcases List.mem_append.1 ha with ha | ha
  · exact h a ha
  · obtain rfl : a = x := by simpa using ha
    exact hp
/-- A request in memory. -/
structure RqM where
  kind : Nat
  alerts : List AlM
  sid : Bytes
  smts : List MtM
  s0 : Int
  s1 : Int
  id : Bytes
  mts : List MtM
structure RqC (w : World) (r : RqM) (V SM M : Value) : Prop where
  als : AlsC w V r.alerts
  sms : MtsC w SM r.smts
  mts : MtsC w M r.mts
theorem RqC.below {w w' : World} {r : RqM} {V SM M : Value} (h : RqC w r V SM M) (b : Below w.heap.size w w') : RqC w' r V SM M := ⟨h.als.below (Nat.le_refl _) b, h.sms.below (Nat.le_refl _) b, h.mts.below (Nat.le_refl _) b⟩
structure RqFits (r : RqM) : Prop where
  al : r.alerts.length ≤ maxLen
  lab : ∀ a ∈ r.alerts, a.labels.length ≤ maxLen
  sm : r.smts.length ≤ maxLen
  mt : r.mts.length ≤ maxLen
structure RqLight (r : RqM) : Prop where
  al : r.alerts.length ≤ 30
  lab : AlLight r.alerts
  sm : r.smts.length ≤ 12
  smv : MtLight r.smts
  mt : r.mts.length ≤ 12
  mtv : MtLight r.mts
  id : r.id.length ≤ 500
  sid : r.sid.length ≤ 500
def LtPost (w : World) (r : RqM) (e : Ending) (w' : World) : Prop := Below w.heap.size w w' ∧ ((e = .returned (.bool true) ∧ RqLight r) ∨ e = .returned (.bool false))
/-- Light's box and what is open behind its first test. -/
structure LtAt (w w1 : World) (b : Nat) (r : RqM) (V SM M : Value) : Prop where
  row : w1.heap[b]? = some (.cells #[.int .u8 r.kind, V, .string (str r.sid), SM, .int .i64 r.s0, .int .i64 r.s1, .string (str r.id), M] 34)
  rq : RqC w1 r V SM M
  bel : Below w.heap.size w w1
set_option maxHeartbeats 4000000 in
set_option maxRecDepth 100000 in
theorem light_big {w : World} {r : RqM} {pV pS pM : Option Addr} {cV cS cM : Nat} (hf : RqFits r) (hbig : ¬ (r.alerts.length ≤ 30 ∧ r.mts.length ≤ 12 ∧ r.smts.length ≤ 12 ∧ r.id.length ≤ 500 ∧ r.sid.length ≤ 500)) (h1 : r.id.length ≤ maxLen) (h2 : r.sid.length ≤ maxLen) :
    Calls Tryz.prog 16 #[.agg #[.int .u8 r.kind, .slice pV r.alerts.length cV, .string (str r.sid), .slice pS r.smts.length cS, .int .i64 r.s0, .int .i64 r.s1, .string (str r.id), .slice pM r.mts.length cM]] w (LtPost w r) := by
  obtain ⟨a1, -, a2, a3⟩ := hf
  have z1 := str_size r.id
  have z2 := str_size r.sid
  unfold maxLen at *
  have hb : Hid (Below w.heap.size w (w.alloc (.cells #[.int .u8 r.kind, .slice pV r.alerts.length cV, .string (str r.sid), .slice pS r.smts.length cS, .int .i64 r.s0, .int .i64 r.s1, .string (str r.id), .slice pM r.mts.length cM] 34))) := Lib.hid ((Below.refl _ _).alloc (Nat.le_refl _) _)
  by_cases q1 : 30 < r.alerts.length
  · have e1 : decide ((30 : Int) < (r.alerts.length : Int)) = true := decide_eq_true (by omega)
    clear hbig
    go_enter Tryz.func16, Tryz.ntmps16
    go_wp2_with fail
    go_ret
    exact ⟨hb.out, .inr rfl⟩
  have e1 : decide ((30 : Int) < (r.alerts.length : Int)) = false := decide_eq_false (by omega)
  by_cases q2 : 12 < r.mts.length
  · have e2 : decide ((12 : Int) < (r.mts.length : Int)) = true := decide_eq_true (by omega)
    clear hbig
    go_enter Tryz.func16, Tryz.ntmps16
    go_wp2_with fail
    go_ret
    exact ⟨hb.out, .inr rfl⟩
  have e2 : decide ((12 : Int) < (r.mts.length : Int)) = false := decide_eq_false (by omega)
  by_cases q3 : 12 < r.smts.length
  · have e3 : decide ((12 : Int) < (r.smts.length : Int)) = true := decide_eq_true (by omega)
    clear hbig
    go_enter Tryz.func16, Tryz.ntmps16
    go_wp2_with fail
    go_ret
    exact ⟨hb.out, .inr rfl⟩
  have e3 : decide ((12 : Int) < (r.smts.length : Int)) = false := decide_eq_false (by omega)
  by_cases q4 : 500 < r.id.length
  · have e4 : decide ((500 : Int) < ((str r.id).size : Int)) = true := decide_eq_true (by omega)
    clear hbig
    go_enter Tryz.func16, Tryz.ntmps16
    go_wp2_with fail
    go_ret
    exact ⟨hb.out, .inr rfl⟩
  have e4 : decide ((500 : Int) < ((str r.id).size : Int)) = false := decide_eq_false (by omega)
  have e5 : decide ((500 : Int) < ((str r.sid).size : Int)) = true := decide_eq_true (by omega)
  clear hbig z1 z2
  go_enter Tryz.func16, Tryz.ntmps16
  go_wp2_with fail
  go_ret
  exact ⟨hb.out, .inr rfl⟩
set_option maxHeartbeats 8000000 in
set_option maxRecDepth 100000 in
theorem light_small {w : World} {r : RqM} {pV pS pM : Option Addr} {cV cS cM : Nat} (R : RqC w r (.slice pV r.alerts.length cV) (.slice pS r.smts.length cS) (.slice pM r.mts.length cM)) (hf : RqFits r) (b1 : r.alerts.length ≤ 30) (b2 : r.mts.length ≤ 12) (b3 : r.smts.length ≤ 12) (b4 : r.id.length ≤ 500) (b5 : r.sid.length ≤ 500) :
    Calls Tryz.prog 16 #[.agg #[.int .u8 r.kind, .slice pV r.alerts.length cV, .string (str r.sid), .slice pS r.smts.length cS, .int .i64 r.s0, .int .i64 r.s1, .string (str r.id), .slice pM r.mts.length cM]] w (LtPost w r) := by
  have z1 := str_size r.id
  have z2 := str_size r.sid
  have e1 : decide ((30 : Int) < (r.alerts.length : Int)) = false := decide_eq_false (by omega)
  have e2 : decide ((12 : Int) < (r.mts.length : Int)) = false := decide_eq_false (by omega)
  have e3 : decide ((12 : Int) < (r.smts.length : Int)) = false := decide_eq_false (by omega)
  have e4 : decide ((500 : Int) < ((str r.id).size : Int)) = false := decide_eq_false (by omega)
  have e5 : decide ((500 : Int) < ((str r.sid).size : Int)) = false := decide_eq_false (by omega)
  have hb0 := (Below.refl w.heap.size w).alloc (Nat.le_refl _) (.cells #[.int .u8 r.kind, .slice pV r.alerts.length cV, .string (str r.sid), .slice pS r.smts.length cS, .int .i64 r.s0, .int .i64 r.s1, .string (str r.id), .slice pM r.mts.length cM] 34)
  have HA : Hid (LtAt w (w.alloc (.cells #[.int .u8 r.kind, .slice pV r.alerts.length cV, .string (str r.sid), .slice pS r.smts.length cS, .int .i64 r.s0, .int .i64 r.s1, .string (str r.id), .slice pM r.mts.length cM] 34)) w.heap.size r (.slice pV r.alerts.length cV) (.slice pS r.smts.length cS) (.slice pM r.mts.length cM)) := Lib.hid ⟨heap_alloc_new _ _, R.below hb0, hb0⟩
  have HF := Lib.hid hf
  clear z1 z2 hb0 R hf
  go_enter Tryz.func16, Tryz.ntmps16
  go_upto_region 3 with fail
  generalize w.heap.size = b at HA ⊢
  generalize w.alloc _ = w1 at HA ⊢
  have c1 : w1.cell? ⟨b, 1, none⟩ = some (.slice pV r.alerts.length cV) := (cells_of HA.out.row 1).1
  have c3 : w1.cell? ⟨b, 3, none⟩ = some (.slice pS r.smts.length cS) := (cells_of HA.out.row 3).1
  have c7 : w1.cell? ⟨b, 7, none⟩ = some (.slice pM r.mts.length cM) := (cells_of HA.out.row 7).1
  go_wp2_with fail
  go_loopw [3] (fun v wr => ∃ n : Nat, v = .int .i64 n ∧ n ≤ r.alerts.length ∧ wr = w1 ∧ AlLight (r.alerts.take n)) (fun v _ => r.alerts.length - (intOf v).toNat)
  case atStart => exact ⟨0, rfl, by omega, rfl, by intro p hp; simp at hp⟩
  case round =>
    obtain ⟨n, rfl, hn, rfl, hr⟩ := hrel
    have HR := Lib.hid hr
    clear hr
    by_cases hlt : n < r.alerts.length
    · obtain ⟨x, hx⟩ : ∃ x, r.alerts[n]? = some x := ⟨_, List.getElem?_eq_getElem hlt⟩
      obtain ⟨a, cap', L, e, k0, kP, k1, k2⟩ := HA.out.rq.als.at hx
      simp only [Value.slice.injEq] at e
      obtain ⟨rfl, -, rfl⟩ := e
      obtain ⟨pL, cL, rfl⟩ := kP.form
      have HP := Lib.hid (light4_full kP (HF.out.lab x (List.mem_of_getElem? hx)))
      have hxm := HF.out.lab x (List.mem_of_getElem? hx)
      unfold maxLen at hxm
      have HX := Lib.hid hx
      clear kP hx
      by_cases h12 : 12 < x.labels.length
      · have h12i : decide ((12 : Int) < (x.labels.length : Int)) = true := decide_eq_true (by omega)
        go_wp2_with (first | (go_at_call 33; refine HP.out.mono ?_; rintro e w2 ⟨⟨rfl, hlo⟩ | rfl, hw⟩; all_goals rw [hw]; all_goals clear hw))
        all_goals
          go_ret
          exact ⟨HA.out.bel, .inr rfl⟩
      · have h12i : decide ((12 : Int) < (x.labels.length : Int)) = false := decide_eq_false (by omega)
        go_wp2_with (first | (go_at_call 33; refine HP.out.mono ?_; rintro e w2 ⟨⟨rfl, hlo⟩ | rfl, hw⟩; all_goals rw [hw]; all_goals clear hw))
        · have HN : Hid (AlLight (r.alerts.take (n + 1))) := Lib.hid (take_all HX.out HR.out ⟨by omega, hlo⟩)
          clear hlo
          go_roundw
          case measure => simp [intOf]; omega
          case rel => exact ⟨n + 1, by go_num, by omega, trivial, HN.out⟩
        · go_ret
          exact ⟨HA.out.bel, .inr rfl⟩
    · have hr := HR.out
      rw [show n = r.alerts.length by omega, List.take_length] at hr
      have HAL := Lib.hid hr
      clear hr HR
      go_wp2_with fail
      go_loopw [4] (fun v wr2 => ∃ n : Nat, v = .int .i64 n ∧ n ≤ r.mts.length ∧ wr2 = wr ∧ MtLight (r.mts.take n)) (fun v _ => r.mts.length - (intOf v).toNat)
      case atStart => exact ⟨0, rfl, by omega, rfl, by intro p hp; simp at hp⟩
      case round =>
        obtain ⟨m, rfl, hm, rfl, hr⟩ := hrel
        have HR := Lib.hid hr
        clear hr
        by_cases hlm : m < r.mts.length
        · obtain ⟨x, hx⟩ : ∃ x, r.mts[m]? = some x := ⟨_, List.getElem?_eq_getElem hlm⟩
          obtain ⟨a, cap', e, k0, k1, k2⟩ := HA.out.rq.mts.at hx
          simp only [Value.slice.injEq] at e
          obtain ⟨rfl, -, rfl⟩ := e
          have HX := Lib.hid hx
          clear hx
          have y1 := str_size x.value
          have y2 := str_size x.name
          by_cases h1 : 200 < x.value.length
          · have d1 : decide ((200 : Int) < ((str x.value).size : Int)) = true := decide_eq_true (by omega)
            clear y1 y2
            go_wp2_with fail
            go_ret
            exact ⟨HA.out.bel, .inr rfl⟩
          · have d1 : decide ((200 : Int) < ((str x.value).size : Int)) = false := decide_eq_false (by omega)
            by_cases h2 : 200 < x.name.length
            · have d2 : decide ((200 : Int) < ((str x.name).size : Int)) = true := decide_eq_true (by omega)
              clear y1 y2
              go_wp2_with fail
              go_ret
              exact ⟨HA.out.bel, .inr rfl⟩
            · have d2 : decide ((200 : Int) < ((str x.name).size : Int)) = false := decide_eq_false (by omega)
              have HN : Hid (MtLight (r.mts.take (m + 1))) := Lib.hid (take_all HX.out HR.out ⟨by omega, by omega⟩)
              clear y1 y2
              go_wp2_with fail
              go_roundw
              case measure => simp [intOf]; omega
              case rel => exact ⟨m + 1, by go_num, by omega, trivial, HN.out⟩
        · have hr := HR.out
          rw [show m = r.mts.length by omega, List.take_length] at hr
          have HML := Lib.hid hr
          clear hr HR
          go_wp2_with fail
          go_loopw [5] (fun v wr3 => ∃ n : Nat, v = .int .i64 n ∧ n ≤ r.smts.length ∧ wr3 = wr ∧ MtLight (r.smts.take n)) (fun v _ => r.smts.length - (intOf v).toNat)
          case atStart => exact ⟨0, rfl, by omega, rfl, by intro p hp; simp at hp⟩
          case round =>
            obtain ⟨i, rfl, hi, rfl, hr⟩ := hrel
            have HR := Lib.hid hr
            clear hr
            by_cases hli : i < r.smts.length
            · obtain ⟨x, hx⟩ : ∃ x, r.smts[i]? = some x := ⟨_, List.getElem?_eq_getElem hli⟩
              obtain ⟨a, cap', e, k0, k1, k2⟩ := HA.out.rq.sms.at hx
              simp only [Value.slice.injEq] at e
              obtain ⟨rfl, -, rfl⟩ := e
              have HX := Lib.hid hx
              clear hx
              have y1 := str_size x.value
              have y2 := str_size x.name
              by_cases h1 : 200 < x.value.length
              · have d1 : decide ((200 : Int) < ((str x.value).size : Int)) = true := decide_eq_true (by omega)
                clear y1 y2
                go_wp2_with fail
                go_ret
                exact ⟨HA.out.bel, .inr rfl⟩
              · have d1 : decide ((200 : Int) < ((str x.value).size : Int)) = false := decide_eq_false (by omega)
                by_cases h2 : 200 < x.name.length
                · have d2 : decide ((200 : Int) < ((str x.name).size : Int)) = true := decide_eq_true (by omega)
                  clear y1 y2
                  go_wp2_with fail
                  go_ret
                  exact ⟨HA.out.bel, .inr rfl⟩
                · have d2 : decide ((200 : Int) < ((str x.name).size : Int)) = false := decide_eq_false (by omega)
                  have HN : Hid (MtLight (r.smts.take (i + 1))) := Lib.hid (take_all HX.out HR.out ⟨by omega, by omega⟩)
                  clear y1 y2
                  go_wp2_with fail
                  go_roundw
                  case measure => simp [intOf]; omega
                  case rel => exact ⟨i + 1, by go_num, by omega, trivial, HN.out⟩
            · have hr := HR.out
              rw [show i = r.smts.length by omega, List.take_length] at hr
              have HSL := Lib.hid hr
              clear hr HR
              go_wp2_with fail
              refine bodyPost_ret (fn := Tryz.f16) (results_tmp (fn := Tryz.f16) (t := 2) rfl _ _ _) ?_ ?_
              · rfl
              · exact ⟨HA.out.bel, .inl ⟨rfl, ⟨b1, HAL.out, b3, HSL.out, b2, HML.out, b4, b5⟩⟩⟩
/-- The documents' Light: what is light is within these bounds. -/
theorem light_full {w : World} {r : RqM} {pV pS pM : Option Addr} {cV cS cM : Nat} (R : RqC w r (.slice pV r.alerts.length cV) (.slice pS r.smts.length cS) (.slice pM r.mts.length cM)) (hf : RqFits r) (h1 : r.id.length ≤ maxLen) (h2 : r.sid.length ≤ maxLen) :
    Calls Tryz.prog 16 #[.agg #[.int .u8 r.kind, .slice pV r.alerts.length cV, .string (str r.sid), .slice pS r.smts.length cS, .int .i64 r.s0, .int .i64 r.s1, .string (str r.id), .slice pM r.mts.length cM]] w (LtPost w r) := by
  by_cases h : r.alerts.length ≤ 30 ∧ r.mts.length ≤ 12 ∧ r.smts.length ≤ 12 ∧ r.id.length ≤ 500 ∧ r.sid.length ≤ 500
  · exact light_small R hf h.1 h.2.1 h.2.2.1 h.2.2.2.1 h.2.2.2.2
  · exact light_big hf h h1 h2
end Go.Proofs.YtcdeikhfmllkdaaGreatDoor
