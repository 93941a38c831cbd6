import Derived.Test.YtcdeikhfmllkdaaGreatDoorRg3
import Derived.Test.YtcdeikhfmllkdaaGreatDoorRpB
/- label.Name and label.Get of any text; matchers in memory. -/
namespace Go.Proofs.YtcdeikhfmllkdaaGreatDoor
open Go.RowKit
set_option linter.unusedVariables false
set_option linter.unusedSimpArgs false
/-- A byte that may stand in a name. -/
def nameB (c : UInt8) : Bool := !(((c.toNat : Int) != 95) && (decide ((c.toNat : Int) < 97) || decide ((122 : Int) < c.toNat)) && (decide ((c.toNat : Int) < 48) || decide ((57 : Int) < c.toNat)))
def nameM : Bytes → Bool
  | [] => false
  | c :: t => !decide (16 < (c :: t).length) && !(decide ((48 : Int) ≤ c.toNat) && decide ((c.toNat : Int) ≤ 57)) && (c :: t).all nameB
theorem all_take {s : Bytes} {f : UInt8 → Bool} {i : Nat} (h : i < s.length) (ha : (s.take i).all f = true) (hc : f s[i] = true) : (s.take (i + 1)).all f = true := by
  rw [List.take_succ_eq_append_getElem h, List.all_append, ha]
  simp [hc]
theorem all_not {s : Bytes} {f : UInt8 → Bool} {i : Nat} (h : i < s.length) (hc : f s[i] = false) : s.all f = false := by
  rw [List.all_eq_false]
  exact ⟨s[i], List.getElem_mem h, by rw [hc]; simp⟩
set_option maxRecDepth 100000 in
set_option maxHeartbeats 2000000 in
theorem mname_any (w : World) (s : Bytes) (hs : s.length ≤ maxLen) : Calls Tryz.prog 164 #[.string (str s)] w fun e w' => e = .returned (.bool (nameM s)) ∧ w' = w := by
  unfold maxLen at hs
  obtain ⟨R, hR⟩ : ∃ R, nameM s = R := ⟨_, rfl⟩
  rw [hR]
  cases s with
  | nil =>
    have hR : false = R := hR
    subst hR
    rw [show str [] = (⟨#[]⟩ : ByteArray) from rfl]
    go_enter Tryz.func164, Tryz.ntmps164
    go_wp2_with fail
    go_ret
    exact ⟨rfl, rfl⟩
  | cons c t =>
    obtain ⟨hE, hsz, h0, -⟩ := cons_facts c t
    have hGet : Hid (∀ n (hn : n < (c :: t).length) (hn2 : n < (str (c :: t)).size), (str (c :: t))[n]'hn2 = (c :: t)[n]'hn) := Lib.hid (fun n hn hn2 => str_get (c :: t) n hn hn2)
    obtain ⟨S, hS⟩ : ∃ S, str (c :: t) = S := ⟨_, rfl⟩
    rw [hS] at hE hsz h0 hGet ⊢
    have hz0 : 0 < S.size := by omega
    have h00 := h0 hz0
    have hz1 : (0 : Int) < (S.size : Int) := by omega
    have hlen : (c :: t).length = t.length + 1 := rfl
    have HR := Lib.hid hR
    clear hS hR
    by_cases h16 : 16 < t.length + 1
    · have hd : decide ((16 : Int) < (S.size : Int)) = true := decide_eq_true (by omega)
      have hR : R = false := by
        rw [← HR.out]
        show (!decide (16 < (c :: t).length) && _ && _) = false
        rw [hlen, decide_eq_true h16]; rfl
      subst hR
      go_enter Tryz.func164, Tryz.ntmps164
      go_wp2_with fail
      go_ret
      exact ⟨rfl, rfl⟩
    · have hd : decide ((16 : Int) < (S.size : Int)) = false := decide_eq_false (by omega)
      by_cases hdg : (48 : Int) ≤ c.toNat ∧ (c.toNat : Int) ≤ 57
      · have e1 : decide ((48 : Int) ≤ c.toNat) = true := decide_eq_true hdg.1
        have e2 : decide ((c.toNat : Int) ≤ 57) = true := decide_eq_true hdg.2
        have hR : R = false := by
          rw [← HR.out]
          show (!decide (16 < (c :: t).length) && !(decide ((48 : Int) ≤ c.toNat) && decide ((c.toNat : Int) ≤ 57)) && _) = false
          rw [e1, e2]; simp
        subst hR
        go_enter Tryz.func164, Tryz.ntmps164
        go_wp2_with fail
        go_ret
        exact ⟨rfl, rfl⟩
      · have hR : R = (c :: t).all nameB := by
          rw [← HR.out]
          show (!decide (16 < (c :: t).length) && !(decide ((48 : Int) ≤ c.toNat) && decide ((c.toNat : Int) ≤ 57)) && (c :: t).all nameB) = _
          have h1 : decide (16 < (c :: t).length) = false := decide_eq_false (by rw [hlen]; exact h16)
          have h2 : (decide ((48 : Int) ≤ c.toNat) && decide ((c.toNat : Int) ≤ 57)) = false := by
            rw [← Bool.decide_and]; exact decide_eq_false hdg
          rw [h1, h2]; rfl
        have HRR := Lib.hid hR
        obtain ⟨s, hs'⟩ : ∃ s, c :: t = s := ⟨_, rfl⟩
        have hsl : s.length = t.length + 1 := by rw [← hs']; rfl
        rw [hs'] at HRR hGet
        clear HR hR hs' hlen h0 hs
        go_enter Tryz.func164, Tryz.ntmps164
        have hcut : decide ((48 : Int) ≤ c.toNat) = false ∨ (decide ((48 : Int) ≤ c.toNat) = true ∧ decide ((c.toNat : Int) ≤ 57) = false) := by
          by_cases h : (48 : Int) ≤ c.toNat
          · exact .inr ⟨decide_eq_true h, decide_eq_false (fun h' => hdg ⟨h, h'⟩)⟩
          · exact .inl (decide_eq_false h)
        clear hdg
        rcases hcut with e1 | ⟨e1, e2⟩
        all_goals
          go_wp2_with fail
          go_loopw [24] (fun v wr => ∃ i : Nat, v = .int .i64 i ∧ i ≤ s.length ∧ wr = w ∧ (s.take i).all nameB = true) (fun v _ => s.length - (intOf v).toNat)
          case atStart => exact ⟨0, rfl, by omega, rfl, by simp⟩
          case round =>
            obtain ⟨i, rfl, hi, rfl, hall⟩ := hrel
            have HA := Lib.hid hall
            clear hall
            by_cases hlt : i < s.length
            · obtain ⟨d, hd'⟩ : ∃ d, s[i] = d := ⟨_, rfl⟩
              have hn2 : i < S.size := by omega
              have hsc := (hGet.out i hlt hn2).trans hd'
              have HD := Lib.hid hd'
              clear hd'
              have hnb : nameB d = !(((d.toNat : Int) != 95) && (decide ((d.toNat : Int) < 97) || decide ((122 : Int) < d.toNat)) && (decide ((d.toNat : Int) < 48) || decide ((57 : Int) < d.toNat))) := rfl
              cases q1 : ((d.toNat : Int) != 95) <;> cases q2 : decide ((d.toNat : Int) < 97) <;> cases q3 : decide ((122 : Int) < d.toNat) <;> cases q4 : decide ((d.toNat : Int) < 48) <;> cases q5 : decide ((57 : Int) < d.toNat)
              all_goals
                rw [q1, q2, q3, q4, q5] at hnb
                have HN := Lib.hid hnb
                clear hnb
                go_wp2_with fail
                first
                  | (go_roundw
                     case measure => simp [intOf]; omega
                     case rel => exact ⟨i + 1, by go_num, by omega, trivial, all_take hlt HA.out (by rw [HD.out, HN.out]; rfl)⟩)
                  | (go_ret
                     rw [HRR.out, all_not hlt (by rw [HD.out, HN.out]; rfl)]
                     exact ⟨rfl, rfl⟩)
            · have hie : i = s.length := by omega
              have hall := HA.out
              rw [hie, List.take_length] at hall
              have hRt : R = true := HRR.out.trans hall
              subst hRt
              clear hall HA
              go_wp2_with fail
              go_ret
              exact ⟨rfl, rfl⟩
end Go.Proofs.YtcdeikhfmllkdaaGreatDoor

/- label.Get; matchers: Check, One. -/
namespace Go.Proofs.YtcdeikhfmllkdaaGreatDoor
open Go.RowKit
set_option linter.unusedVariables false
set_option linter.unusedSimpArgs false
def lgetM : List (Bytes × Bytes) → Bytes → Bytes
  | [], _ => []
  | p :: l, n => if p.1 = n then p.2 else lgetM l n
theorem lgetM_step {l : List (Bytes × Bytes)} {i : Nat} {x : Bytes × Bytes} (h : l[i]? = some x) (n : Bytes) : lgetM (l.drop i) n = if x.1 = n then x.2 else lgetM (l.drop (i + 1)) n := by
  have hi := (List.getElem?_eq_some_iff.1 h).1
  rw [List.drop_eq_getElem_cons hi, (List.getElem?_eq_some_iff.1 h).2]
  rfl
theorem str_beq (x y : Bytes) : ((str x).toList == (str y).toList) = decide (x = y) := by
  rw [ByteArray.toList_eq, ByteArray.toList_eq, str_toList, str_toList]
  rw [Bool.eq_iff_iff]; simp
set_option maxRecDepth 100000 in
set_option maxHeartbeats 2000000 in
theorem lget_any {w : World} {V : Value} {l : List (Bytes × Bytes)} (L : PrsC w V l) (hl : l.length ≤ maxLen) (name : Bytes) :
    Calls Tryz.prog 128 #[V, .string (str name)] w fun e w' => e = .returned (.string (str (lgetM l name))) ∧ Below w.heap.size w w' := by
  unfold maxLen at hl
  obtain ⟨p, cap, rfl⟩ := L.form
  have HL := Lib.hid L
  clear L
  go_enter Tryz.func128, Tryz.ntmps128
  go_wp2_with fail
  go_loopw [9] (fun v wr => ∃ i : Nat, v = .int .i64 i ∧ i ≤ l.length ∧ Below w.heap.size w wr ∧ lgetM l name = lgetM (l.drop i) name) (fun v _ => l.length - (intOf v).toNat)
  case atStart => exact ⟨0, rfl, by omega, Below.refl _ _, by rw [List.drop_zero]⟩
  case round =>
    obtain ⟨i, rfl, hi, hb, hg⟩ := hrel
    have HB := Lib.hid (And.intro hb hg)
    clear hb hg
    by_cases hlt : i < l.length
    · obtain ⟨x, hx⟩ : ∃ x, l[i]? = some x := ⟨_, List.getElem?_eq_getElem hlt⟩
      obtain ⟨a, cap', e, k0, k1⟩ := (HL.out.below (Nat.le_refl _) HB.out.1).at hx
      simp only [Value.slice.injEq] at e
      obtain ⟨rfl, -, rfl⟩ := e
      have HS := Lib.hid (lgetM_step hx name)
      clear hx
      have H2 := Lib.hid (HB.out.1.trans (((Below.refl wr.heap.size wr).alloc (Nat.le_refl _) (.cells #[.string (str x.1), .string (str x.2)] 134)).mono HB.out.1.size))
      have r2 := heap_alloc_new wr (.cells #[.string (str x.1), .string (str x.2)] 134)
      by_cases hn : x.1 = name
      · have hS := HS.out
        rw [if_pos hn] at hS
        have HQ := Lib.hid (HB.out.2.trans hS)
        have hq := str_beq x.1 name
        rw [decide_eq_true hn] at hq
        clear hS HS hn
        go_upto_region 4 with fail
        generalize wr.heap.size = b2 at r2 ⊢
        generalize wr.alloc _ = w2 at H2 r2 ⊢
        have c0 : w2.cell? ⟨b2, 0, none⟩ = some (.string (str x.1)) := (cells_of r2 0).1
        have c1 : w2.cell? ⟨b2, 1, none⟩ = some (.string (str x.2)) := (cells_of r2 1).1
        go_wp2_with fail
        go_ret
        rw [HQ.out]
        exact ⟨rfl, H2.out⟩
      · have hS := HS.out
        rw [if_neg hn] at hS
        have HQ := Lib.hid (HB.out.2.trans hS)
        have hq := str_beq x.1 name
        rw [decide_eq_false hn] at hq
        clear hS HS hn
        go_upto_region 4 with fail
        generalize wr.heap.size = b2 at r2 ⊢
        generalize wr.alloc _ = w2 at H2 r2 ⊢
        have c0 : w2.cell? ⟨b2, 0, none⟩ = some (.string (str x.1)) := (cells_of r2 0).1
        have c1 : w2.cell? ⟨b2, 1, none⟩ = some (.string (str x.2)) := (cells_of r2 1).1
        go_wp2_with fail
        go_roundw
        case measure => simp [intOf]; omega
        case rel => exact ⟨i + 1, by go_num, by omega, H2.out, HQ.out⟩
    · have hie : i = l.length := by omega
      have hg := HB.out.2
      rw [hie, List.drop_length] at hg
      have HG := Lib.hid hg
      clear hg
      go_wp2_with fail
      go_ret
      rw [HG.out]
      exact ⟨rfl, HB.out.1⟩
/-- A matcher. -/
structure MtM where
  name : Bytes
  kind : Nat
  value : Bytes
instance : Inhabited MtM := ⟨⟨[], 0, []⟩⟩
structure MtOk (m : MtM) : Prop where
  name : m.name.length ≤ maxLen
  kind : m.kind < 256
  value : m.value.length ≤ maxLen
def mtV (m : MtM) : Value := .agg #[.string (str m.name), .int .u8 m.kind, .string (str m.value)]
/-- A slice of matchers that reads as a list. -/
structure MtsC (w : World) (V : Value) (l : List MtM) : Prop where
  form : ∃ p cap, V = .slice p l.length cap
  cells : ∀ i x, l[i]? = some x → ∃ a n cap, V = .slice (some a) n cap ∧ w.cell? (a.add (i * 3)) = some (.string (str x.name)) ∧ w.cell? ⟨(a.add (i * 3)).block, (a.add (i * 3)).off + 1, none⟩ = some (.int .u8 x.kind) ∧ w.cell? ⟨(a.add (i * 3)).block, (a.add (i * 3)).off + 2, none⟩ = some (.string (str x.value))
theorem MtsC.below {w w' : World} {V : Value} {l : List MtM} (h : MtsC w V l) {B : Nat} (hB : w.heap.size ≤ B) (b : Below B w w') : MtsC w' V l :=
  ⟨h.form, fun i x hi => by
    obtain ⟨a, n, cap, e, h0, h1, h2⟩ := h.cells i x hi
    have l0 := World.block_lt_of_cell? w _ h0
    have l1 := World.block_lt_of_cell? w _ h1
    have l2 := World.block_lt_of_cell? w _ h2
    exact ⟨a, n, cap, e, (b.cell (Nat.lt_of_lt_of_le l0 hB)).trans h0, (b.cell (Nat.lt_of_lt_of_le l1 hB)).trans h1, (b.cell (Nat.lt_of_lt_of_le l2 hB)).trans h2⟩⟩
theorem MtsC.at {w : World} {V : Value} {l : List MtM} (h : MtsC w V l) {i : Nat} {x : MtM} (hi : l[i]? = some x) :
    ∃ a cap, V = .slice (some a) l.length cap ∧ w.cell? (a.add (i * 3)) = some (.string (str x.name)) ∧ w.cell? ⟨(a.add (i * 3)).block, (a.add (i * 3)).off + 1, none⟩ = some (.int .u8 x.kind) ∧ w.cell? ⟨(a.add (i * 3)).block, (a.add (i * 3)).off + 2, none⟩ = some (.string (str x.value)) := by
  obtain ⟨p, cap, e⟩ := h.form
  obtain ⟨a, n, cap', e', h0, h1, h2⟩ := h.cells i x hi
  rw [e] at e'
  simp only [Value.slice.injEq] at e'
  obtain ⟨rfl, rfl, rfl⟩ := e'
  exact ⟨a, cap, e, h0, h1, h2⟩
/-- What a matcher is told, or 0. -/
def mcheckM (m : MtM) : Nat :=
  if nameM m.name = false then 6
  else if 3 < m.kind then 2
  else if 64 < m.value.length then 5
  else if 2 ≤ m.kind then (match compileM m.value with | .error e => e | .ok _ => 0)
  else 0
set_option maxRecDepth 100000 in
set_option maxHeartbeats 2000000 in
theorem mcheck_any {w : World} {m : MtM} (hm : MtOk m) : Calls Tryz.prog 127 #[.agg #[.string (str m.name), .int .u8 m.kind, .string (str m.value)]] w fun e w' => e = .returned (.int .i64 (mcheckM m)) ∧ Below w.heap.size w w' := by
  have HN := Lib.hid (fun w1 => mname_any w1 m.name hm.name)
  have HC := Lib.hid (fun w1 => compile_any (w := w1) hm.value)
  have hsz := str_size m.value
  obtain ⟨R, hR⟩ : ∃ R, mcheckM m = R := ⟨_, rfl⟩
  rw [hR]
  unfold mcheckM at hR
  have hb0 := (Below.refl w.heap.size w).alloc (Nat.le_refl _) (.cells #[.string (str m.name), .int .u8 m.kind, .string (str m.value)] 75)
  have r0 := heap_alloc_new w (.cells #[.string (str m.name), .int .u8 m.kind, .string (str m.value)] 75)
  have H0 := Lib.hid hb0
  have hk := hm.kind
  clear hb0 hm
  cases hn : nameM m.name with
  | false =>
    rw [if_pos hn] at hR
    subst hR
    rw [hn] at HN
    go_enter Tryz.func127, Tryz.ntmps127
    go_upto_region 1 with fail
    generalize w.heap.size = b at r0 ⊢
    generalize w.alloc _ = w1 at H0 r0 ⊢
    have c0 : w1.cell? ⟨b, 0, none⟩ = some (.string (str m.name)) := (cells_of r0 0).1
    go_wp2_with (first | (go_at_call 164; refine (HN.out w1).mono ?_; rintro e w2 ⟨rfl, rfl⟩))
    go_ret
    exact ⟨rfl, H0.out⟩
  | true =>
    rw [if_neg (by rw [hn]; simp)] at hR
    rw [hn] at HN
    by_cases h3 : 3 < m.kind
    · have d3 : decide ((3 : Int) < (m.kind : Int)) = true := decide_eq_true (by omega)
      rw [if_pos h3] at hR
      subst hR
      go_enter Tryz.func127, Tryz.ntmps127
      go_upto_region 1 with fail
      generalize w.heap.size = b at r0 ⊢
      generalize w.alloc _ = w1 at H0 r0 ⊢
      have c0 : w1.cell? ⟨b, 0, none⟩ = some (.string (str m.name)) := (cells_of r0 0).1
      have c1 : w1.cell? ⟨b, 1, none⟩ = some (.int .u8 m.kind) := (cells_of r0 1).1
      go_wp2_with (first | (go_at_call 164; refine (HN.out w1).mono ?_; rintro e w2 ⟨rfl, hw⟩; rw [hw]; clear hw))
      go_ret
      exact ⟨rfl, H0.out⟩
    · have d3 : decide ((3 : Int) < (m.kind : Int)) = false := decide_eq_false (by omega)
      rw [if_neg h3] at hR
      by_cases h64 : 64 < m.value.length
      · have d4 : decide ((64 : Int) < ((str m.value).size : Int)) = true := decide_eq_true (by omega)
        rw [if_pos h64] at hR
        subst hR
        go_enter Tryz.func127, Tryz.ntmps127
        go_upto_region 1 with fail
        generalize w.heap.size = b at r0 ⊢
        generalize w.alloc _ = w1 at H0 r0 ⊢
        have c0 : w1.cell? ⟨b, 0, none⟩ = some (.string (str m.name)) := (cells_of r0 0).1
        have c1 : w1.cell? ⟨b, 1, none⟩ = some (.int .u8 m.kind) := (cells_of r0 1).1
        have c2 : w1.cell? ⟨b, 2, none⟩ = some (.string (str m.value)) := (cells_of r0 2).1
        go_wp2_with (first | (go_at_call 164; refine (HN.out w1).mono ?_; rintro e w2 ⟨rfl, hw⟩; rw [hw]; clear hw))
        go_ret
        exact ⟨rfl, H0.out⟩
      · have d4 : decide ((64 : Int) < ((str m.value).size : Int)) = false := decide_eq_false (by omega)
        rw [if_neg h64] at hR
        by_cases h2 : 2 ≤ m.kind
        · have d5 : decide ((2 : Int) ≤ (m.kind : Int)) = true := decide_eq_true (by omega)
          rw [if_pos h2] at hR
          have HR := Lib.hid hR
          have HCC : Hid (∀ w1, Calls Tryz.prog 165 #[.string (str m.value)] w1 fun e w' => (∃ po, e = .returned (.tuple #[.pointer po, .int .i64 R])) ∧ Below w1.heap.size w1 w') := Lib.hid (fun w1 => by
            refine (HC.out w1).mono ?_
            rintro e w' ⟨hb, h⟩
            refine ⟨?_, hb⟩
            rw [← HR.out]
            cases hc : compileM m.value with
            | error k => rw [hc] at h; exact ⟨none, h⟩
            | ok x => rw [hc] at h; obtain ⟨g, h, _⟩ := h; exact ⟨_, h⟩)
          clear HC hR HR
          go_enter Tryz.func127, Tryz.ntmps127
          go_upto_region 1 with fail
          generalize w.heap.size = b at r0 ⊢
          generalize w.alloc _ = w1 at H0 r0 ⊢
          have c0 : w1.cell? ⟨b, 0, none⟩ = some (.string (str m.name)) := (cells_of r0 0).1
          have c1 : w1.cell? ⟨b, 1, none⟩ = some (.int .u8 m.kind) := (cells_of r0 1).1
          have c2 : w1.cell? ⟨b, 2, none⟩ = some (.string (str m.value)) := (cells_of r0 2).1
          go_wp2_with (first | (go_at_call 164; refine (HN.out w1).mono ?_; rintro e w2 ⟨rfl, hw⟩; rw [hw]; clear hw) | (go_at_call 165; refine (HCC.out w1).mono ?_; rintro e w2 ⟨⟨po, rfl⟩, hb2⟩; have H2 := Lib.hid (H0.out.trans (hb2.mono H0.out.size)); clear hb2))
          go_ret
          exact ⟨rfl, H2.out⟩
        · have d5 : decide ((2 : Int) ≤ (m.kind : Int)) = false := decide_eq_false (by omega)
          rw [if_neg h2] at hR
          subst hR
          go_enter Tryz.func127, Tryz.ntmps127
          go_upto_region 1 with fail
          generalize w.heap.size = b at r0 ⊢
          generalize w.alloc _ = w1 at H0 r0 ⊢
          have c0 : w1.cell? ⟨b, 0, none⟩ = some (.string (str m.name)) := (cells_of r0 0).1
          have c1 : w1.cell? ⟨b, 1, none⟩ = some (.int .u8 m.kind) := (cells_of r0 1).1
          have c2 : w1.cell? ⟨b, 2, none⟩ = some (.string (str m.value)) := (cells_of r0 2).1
          go_wp2_with (first | (go_at_call 164; refine (HN.out w1).mono ?_; rintro e w2 ⟨rfl, hw⟩; rw [hw]; clear hw))
          go_ret
          exact ⟨rfl, H0.out⟩
theorem dec_beq (x y : Bytes) : decide (x = y) = (x == y) := by rw [Bool.eq_iff_iff]; simp
theorem int_beq (k c : Nat) (d : Int) (h : d = c) : ((k : Int) == d) = (k == c) := by subst h; rw [Bool.eq_iff_iff, beq_iff_eq, beq_iff_eq]; omega
/-- Does a matcher take these labels? -/
def moneM (m : MtM) (l : List (Bytes × Bytes)) : Bool :=
  if mcheckM m ≠ 0 then false
  else if m.kind < 2 then (lgetM l m.name == m.value) == (m.kind == 0)
  else (likeM m.value (lgetM l m.name)).1 == (m.kind == 2)
theorem lgetM_len {l : List (Bytes × Bytes)} (h : ∀ p ∈ l, p.2.length ≤ maxLen) (n : Bytes) : (lgetM l n).length ≤ maxLen := by
  induction l with
  | nil => simp [lgetM]
  | cons p l ih =>
    unfold lgetM
    split
    · exact h p (List.mem_cons_self ..)
    · exact ih (fun q hq => h q (List.mem_cons_of_mem _ hq))
set_option maxRecDepth 100000 in
set_option maxHeartbeats 4000000 in
theorem mone_any {w : World} {m : MtM} (hm : MtOk m) {V : Value} {l : List (Bytes × Bytes)} (L : PrsC w V l) (hl : l.length ≤ maxLen) (hv : ∀ p ∈ l, p.2.length ≤ maxLen) :
    Calls Tryz.prog 83 #[.agg #[.string (str m.name), .int .u8 m.kind, .string (str m.value)], V] w fun e w' => e = .returned (.bool (moneM m l)) ∧ Below w.heap.size w w' := by
  obtain ⟨p, cap, rfl⟩ := L.form
  have r0 := heap_alloc_new w (.cells #[.string (str m.name), .int .u8 m.kind, .string (str m.value)] 75)
  have H0 := Lib.hid ((Below.refl w.heap.size w).alloc (Nat.le_refl _) (.cells #[.string (str m.name), .int .u8 m.kind, .string (str m.value)] 75))
  obtain ⟨R, hR⟩ : ∃ R, moneM m l = R := ⟨_, rfl⟩
  rw [hR]
  unfold moneM at hR
  have HC := Lib.hid (fun w1 => mcheck_any (w := w1) hm)
  have HL := Lib.hid (fun w1 (b : Below w.heap.size w w1) => lget_any (L.below (Nat.le_refl _) b) hl m.name)
  have HK := Lib.hid (fun w1 => like_any (w := w1) hm.value (lgetM_len hv m.name))
  have hk := hm.kind
  clear hm L hv
  go_enter Tryz.func83, Tryz.ntmps83
  go_upto_region 1 with fail
  generalize w.heap.size = b at r0 ⊢
  generalize w.alloc _ = w1 at H0 r0 ⊢
  have H1 := Lib.hid (HC.out w1)
  have hbs : b < w1.heap.size := (Array.getElem?_eq_some_iff.1 r0).1
  have c0 : w1.cell? ⟨b, 0, none⟩ = some (.string (str m.name)) := (cells_of r0 0).1
  have c1 : w1.cell? ⟨b, 1, none⟩ = some (.int .u8 m.kind) := (cells_of r0 1).1
  have c2 : w1.cell? ⟨b, 2, none⟩ = some (.string (str m.value)) := (cells_of r0 2).1
  obtain ⟨q, hq⟩ : ∃ q, mcheckM m = q := ⟨_, rfl⟩
  rw [hq] at hR H1
  by_cases h0 : q ≠ 0
  · have d0 : ((q : Int) != 0) = true := by rw [bne_iff_ne]; omega
    rw [if_pos h0] at hR
    subst hR
    go_wp2_with (first | (go_at_call 127; refine H1.out.mono ?_; rintro e w2 ⟨rfl, hb2⟩; have H2 := Lib.hid (H0.out.trans (hb2.mono H0.out.size)); clear hb2))
    go_ret
    exact ⟨rfl, H2.out⟩
  · have d0 : ((q : Int) != 0) = false := by rw [bne_eq_false_iff_eq]; omega
    rw [if_neg h0] at hR
    go_upto_region 3 with (first | (go_at_call 127; refine H1.out.mono ?_; rintro e w2 ⟨rfl, hb2⟩; have H2 := Lib.hid (H0.out.trans (hb2.mono H0.out.size)); have r2 := (hb2.block b hbs).trans r0; clear hb2))
    have c0 : w2.cell? ⟨b, 0, none⟩ = some (.string (str m.name)) := (cells_of r2 0).1
    have H3 := Lib.hid (HL.out w2 H2.out)
    have hbs2 : b < w2.heap.size := (Array.getElem?_eq_some_iff.1 r2).1
    go_upto_region 4 with (first | (go_at_call 128; refine H3.out.mono ?_; rintro e w3 ⟨rfl, hb3⟩; have H4 := Lib.hid (H2.out.trans (hb3.mono H2.out.size)); have r3 := (hb3.block b hbs2).trans r2; clear hb3))
    have c1 : w3.cell? ⟨b, 1, none⟩ = some (.int .u8 m.kind) := (cells_of r3 1).1
    have c2 : w3.cell? ⟨b, 2, none⟩ = some (.string (str m.value)) := (cells_of r3 2).1
    by_cases hk2 : m.kind < 2
    · have d1 : decide ((m.kind : Int) < 2) = true := decide_eq_true (by omega)
      rw [if_pos hk2] at hR
      go_wp2_with fail
      go_ret
      refine ⟨?_, H4.out⟩
      refine ret_bool ?_
      go_simp
      rw [← hR, str_beq, dec_beq, int_beq m.kind 0 0 rfl]
    · have d1 : decide ((m.kind : Int) < 2) = false := decide_eq_false (by omega)
      rw [if_neg hk2] at hR
      have H5 := Lib.hid (HK.out w3)
      have hbs3 : b < w3.heap.size := (Array.getElem?_eq_some_iff.1 r3).1
      go_upto_region 7 with (first | (go_at_call 129; refine H5.out.mono ?_; rintro e w4 ⟨rfl, hb4⟩; have H6 := Lib.hid (H4.out.trans (hb4.mono H4.out.size)); have r4 := (hb4.block b hbs3).trans r3; clear hb4))
      have c1 : w4.cell? ⟨b, 1, none⟩ = some (.int .u8 m.kind) := (cells_of r4 1).1
      go_wp2_with fail
      go_ret
      refine ⟨?_, H6.out⟩
      refine ret_bool ?_
      go_simp
      rw [← hR, int_beq m.kind 2 2 rfl]
end Go.Proofs.YtcdeikhfmllkdaaGreatDoor

/- match.All; slices.Clone of pairs. -/
namespace Go.Proofs.YtcdeikhfmllkdaaGreatDoor
open Go.RowKit
set_option linter.unusedVariables false
set_option linter.unusedSimpArgs false
def mallM (ms : List MtM) (l : List (Bytes × Bytes)) : Bool := ms.all (fun m => moneM m l)
set_option maxRecDepth 100000 in
set_option maxHeartbeats 2000000 in
theorem mnot_any {w : World} {m : MtM} (hm : MtOk m) {b : Nat} {V : Value} {l : List (Bytes × Bytes)} (L : PrsC w V l) (hb : w.heap[b]? = some (.cells #[V] 63)) (hl : l.length ≤ maxLen) (hv : ∀ p ∈ l, p.2.length ≤ maxLen) :
    Calls Tryz.prog 82 #[.agg #[.string (str m.name), .int .u8 m.kind, .string (str m.value)], .pointer (some ⟨b, 0, none⟩)] w fun e w' => e = .returned (.bool (!moneM m l)) ∧ Below w.heap.size w w' := by
  obtain ⟨p, cap, rfl⟩ := L.form
  have r0 := heap_alloc_new w (.cells #[.string (str m.name), .int .u8 m.kind, .string (str m.value)] 75)
  have hb0 := (Below.refl w.heap.size w).alloc (Nat.le_refl _) (.cells #[.string (str m.name), .int .u8 m.kind, .string (str m.value)] 75)
  have HO := Lib.hid (mone_any hm (L.below (Nat.le_refl _) hb0) hl hv)
  have rb := (hb0.block b (Array.getElem?_eq_some_iff.1 hb).1).trans hb
  have H0 := Lib.hid hb0
  clear hm L hv hb hb0
  go_enter Tryz.func82, Tryz.ntmps82
  go_upto_region 1 with fail
  generalize w.heap.size = b0 at r0 ⊢
  generalize w.alloc _ = w1 at H0 r0 rb HO ⊢
  have c0 : w1.cell? ⟨b0, 0, none⟩ = some (.string (str m.name)) := (cells_of r0 0).1
  have c1 : w1.cell? ⟨b0, 1, none⟩ = some (.int .u8 m.kind) := (cells_of r0 1).1
  have c2 : w1.cell? ⟨b0, 2, none⟩ = some (.string (str m.value)) := (cells_of r0 2).1
  have c3 : w1.cell? ⟨b, 0, none⟩ = some (.slice p l.length cap) := (cells_of rb 0).1
  go_wp2_with (first | (go_at_call 83; refine HO.out.mono ?_; rintro e w2 ⟨rfl, hb2⟩; have H2 := Lib.hid (H0.out.trans (hb2.mono H0.out.size)); clear hb2))
  go_ret
  exact ⟨rfl, H2.out⟩
structure AxRel (w wr : World) (b : Nat) (V : Value) (l : List (Bytes × Bytes)) (M : Value) (ms : List MtM) (n : Nat) : Prop where
  le : n ≤ ms.length
  past : mallM (ms.take n) l = true
  mts : MtsC wr M ms
  lab : PrsC wr V l
  row : wr.heap[b]? = some (.cells #[V] 63)
  bel : Below w.heap.size w wr
theorem mallM_snoc {ms : List MtM} {l : List (Bytes × Bytes)} {n : Nat} (h : n < ms.length) : mallM (ms.take (n + 1)) l = (mallM (ms.take n) l && moneM ms[n] l) := by
  rw [List.take_succ_eq_append_getElem h]
  unfold mallM
  rw [List.all_append]
  simp
theorem mallM_false {ms : List MtM} {l : List (Bytes × Bytes)} {n : Nat} (h : n < ms.length) (hf : moneM ms[n] l = false) : mallM ms l = false := by
  unfold mallM
  rw [List.all_eq_false]
  exact ⟨ms[n], List.getElem_mem h, by rw [hf]; simp⟩
set_option maxRecDepth 100000 in
set_option maxHeartbeats 2000000 in
theorem mindex_any {w : World} {M : Value} {ms : List MtM} (hM : MtsC w M ms) (hok : ∀ m ∈ ms, MtOk m) (hml : ms.length ≤ maxLen) {b : Nat} {V : Value} {l : List (Bytes × Bytes)} (L : PrsC w V l) (hb : w.heap[b]? = some (.cells #[V] 63)) (hl : l.length ≤ maxLen) (hv : ∀ p ∈ l, p.2.length ≤ maxLen) :
    Calls Tryz.prog 126 #[M, .func (.func 82) #[] #[.pointer (some ⟨b, 0, none⟩)]] w fun e w' => (∃ k : Int, e = .returned (.int .i64 k) ∧ decide (0 ≤ k) = !mallM ms l) ∧ Below w.heap.size w w' := by
  obtain ⟨p, cap, rfl⟩ := hM.form
  have H := Lib.hid (AxRel.mk (w := w) (wr := w) (n := 0) (Nat.zero_le _) (by simp [mallM]) hM L hb (Below.refl _ _))
  have HK := Lib.hid (And.intro hok (And.intro hl hv))
  unfold maxLen at hml
  clear hM hok L hb hl hv
  go_enter Tryz.func126, Tryz.ntmps126
  go_wp2_with fail
  go_loopw [8] (fun k wr => ∃ n : Nat, k = .int .i64 n ∧ AxRel w wr b V l (.slice p ms.length cap) ms n) (fun k _ => ms.length - (intOf k).toNat)
  case atStart => exact ⟨0, rfl, H.out⟩
  case round =>
    obtain ⟨n, rfl, hr⟩ := hrel
    have hle := hr.le
    have HR := Lib.hid hr
    clear hr H
    by_cases hlt : n < ms.length
    · obtain ⟨m, hm⟩ : ∃ m, ms[n] = m := ⟨_, rfl⟩
      obtain ⟨a, cap', e, k0, k1, k2⟩ := HR.out.mts.at (i := n) (x := m) (by rw [← hm]; exact List.getElem?_eq_getElem hlt)
      simp only [Value.slice.injEq] at e
      obtain ⟨rfl, -, rfl⟩ := e
      have HC := Lib.hid (mnot_any (m := m) (HK.out.1 m (hm ▸ List.getElem_mem hlt)) HR.out.lab HR.out.row HK.out.2.1 HK.out.2.2)
      have HV := Lib.hid hm
      clear hm
      cases ho : moneM m l with
      | false =>
        rw [ho] at HC
        have HF := Lib.hid (mallM_false hlt (by rw [HV.out]; exact ho))
        clear ho
        go_wp2_with (first | (go_at_call 82; refine HC.out.mono ?_; rintro e w2 ⟨rfl, hb2⟩; have H2 := Lib.hid (HR.out.bel.trans (hb2.mono HR.out.bel.size)); clear hb2))
        go_ret
        refine ⟨⟨n, rfl, ?_⟩, H2.out⟩
        rw [HF.out]
        exact decide_eq_true (by omega)
      | true =>
        rw [ho] at HC
        have HF := Lib.hid ((mallM_snoc (l := l) hlt).trans (by rw [HR.out.past, HV.out, ho]; try rfl))
        clear ho
        go_wp2_with (first | (go_at_call 82; refine HC.out.mono ?_; rintro e w2 ⟨rfl, hb2⟩; have H2 := Lib.hid hb2; clear hb2))
        go_roundw
        case measure => simp [intOf]; omega
        case rel => exact ⟨n + 1, by go_num, by omega, HF.out, HR.out.mts.below (Nat.le_refl _) H2.out, HR.out.lab.below (Nat.le_refl _) H2.out, (H2.out.block b (Array.getElem?_eq_some_iff.1 HR.out.row).1).trans HR.out.row, HR.out.bel.trans (H2.out.mono HR.out.bel.size)⟩
    · have hie : n = ms.length := by omega
      have hp := HR.out.past
      rw [hie, List.take_length] at hp
      have HP := Lib.hid hp
      clear hp
      go_wp2_with fail
      go_ret
      refine ⟨⟨-1, rfl, ?_⟩, HR.out.bel⟩
      rw [HP.out]; rfl
set_option maxRecDepth 100000 in
set_option maxHeartbeats 2000000 in
theorem mall_any {w : World} {M : Value} {ms : List MtM} (hM : MtsC w M ms) (hok : ∀ m ∈ ms, MtOk m) (hml : ms.length ≤ maxLen) {V : Value} {l : List (Bytes × Bytes)} (L : PrsC w V l) (hl : l.length ≤ maxLen) (hv : ∀ p ∈ l, p.2.length ≤ maxLen) :
    Calls Tryz.prog 31 #[M, V] w fun e w' => e = .returned (.bool (mallM ms l)) ∧ Below w.heap.size w w' := by
  obtain ⟨p, cap, rfl⟩ := L.form
  obtain ⟨pm, capm, rfl⟩ := hM.form
  have hb0 := (Below.refl w.heap.size w).alloc (Nat.le_refl _) (.cells #[.slice p l.length cap] 63)
  have HI := Lib.hid (mindex_any (hM.below (Nat.le_refl _) hb0) hok hml (L.below (Nat.le_refl _) hb0) (heap_alloc_new _ _) hl hv)
  have H0 := Lib.hid hb0
  have hmf : ∀ (fn : Fn) (first cap : Array Value) (w : World), (Instr.makeFunc fn first cap).run Tryz.prog w = .ok (.func fn first cap) w := fun _ _ _ _ => rfl
  have HC : Hid (Calls Tryz.prog 81 #[.slice pm ms.length capm, .func (.func 82) #[] #[.pointer (some ⟨w.heap.size, 0, none⟩)]] (w.alloc (.cells #[.slice p l.length cap] 63)) fun e w' => e = .returned (.bool (!mallM ms l)) ∧ Below w.heap.size w w') := by
    refine Lib.hid ?_
    generalize w.alloc _ = w1 at HI H0 ⊢
    clear hM hok L hb0
    go_enter Tryz.func81, Tryz.ntmps81
    go_wp2_with (first | (go_at_call 126; refine HI.out.mono ?_; rintro e w2 ⟨⟨k, rfl, hk⟩, hb2⟩; have H2 := Lib.hid (And.intro hk (H0.out.trans (hb2.mono H0.out.size))); clear hk hb2))
    go_ret
    refine ⟨?_, H2.out.2⟩
    refine ret_bool ?_
    go_simp
    exact H2.out.1
  clear hM hok L hb0 HI
  go_enter Tryz.func31, Tryz.ntmps31
  go_upto_region 1 with fail
  generalize hbb : w.heap.size = b at HC ⊢
  generalize w.alloc _ = w1 at HC ⊢
  go_wp2_with (first | (go_at_call 81; refine HC.out.mono ?_; rintro e w2 ⟨rfl, hb2⟩; have H2 := Lib.hid hb2; clear hb2))
  go_ret
  refine ⟨?_, hbb ▸ H2.out⟩
  refine ret_bool ?_
  go_simp
end Go.Proofs.YtcdeikhfmllkdaaGreatDoor
