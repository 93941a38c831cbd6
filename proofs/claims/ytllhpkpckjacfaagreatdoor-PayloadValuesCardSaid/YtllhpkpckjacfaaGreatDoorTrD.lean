/- label.Check. -/
import Derived.Test.YtllhpkpckjacfaaGreatDoorTrC
namespace Go.Proofs.YtllhpkpckjacfaaGreatDoor
open Go.RowKit Go.Proofs.YtllhpkpckjacfaaGreatDoorW.PrintWords PTemplateFilters
set_option linter.unusedVariables false
set_option linter.unusedSimpArgs false

theorem str_bts (s : ByteArray) : str (bts s) = s := str_of s
theorem bts_len (s : ByteArray) : (bts s).length = s.size := by show s.data.toList.length = s.size; rw [Array.length_toList]; rfl
theorem bts_tl (s : ByteArray) : s.toList = bts s := ByteArray.toList_eq s
theorem name_all (s : Bytes) : ∃ k, label_Name.f k (str s) = some (nameM s) := by
  by_cases h : s.length ≤ 1000000
  · exact ⟨_, name_f s h⟩
  · refine ⟨1, ?_⟩
    cases s with
    | nil => simp at h
    | cons c t =>
      have hn : nameM (c :: t) = false := by
        show (if 16 < (c :: t).length then false else _) = false
        rw [if_pos (by simp only [List.length_cons] at h ⊢; omega)]
      rw [label_Name.f, str_tl, if_neg (by simp), if_pos (by rw [str_size]; omega), label_Name.j0, if_pos rfl, hn]
theorem name_call (s : ByteArray) (w : World) : Calls Tryz.prog 44 #[.string s] w fun e w' => e = .returned (.bool (nameM (bts s))) ∧ Drawn0 w w' := by
  obtain ⟨k, h⟩ := name_all (bts s)
  rw [str_bts] at h
  exact label_Name.calls k s _ w h
def longB (p : S40) : Bool := decide (64 < p.f1.size)
def badB (p : S40) : Bool := (bts p.f1).isEmpty || !nameM (bts p.f0)
theorem long_any (p : S40) (w : World) : Calls Tryz.prog 102 #[.agg #[.string p.f0, .string p.f1]] w fun e w' => e = .returned (.bool (longB p)) ∧ Below w.heap.size w w' := by
  cases hl : longB p
  · have h : ¬ (64 : Int) < (p.f1.size : Int) := by have := of_decide_eq_false hl; omega
    clear hl
    go_enter Tryz.func102, Tryz.ntmps102
    go_wp2
    go_ret
    exact ⟨by simp, below_alloc (Below.refl _ _) _⟩
  · have h : (64 : Int) < (p.f1.size : Int) := by have := of_decide_eq_true hl; omega
    clear hl
    go_enter Tryz.func102, Tryz.ntmps102
    go_wp2
    go_ret
    exact ⟨by simp, below_alloc (Below.refl _ _) _⟩
theorem badp_any (p : S40) (w : World) : Calls Tryz.prog 103 #[.agg #[.string p.f0, .string p.f1]] w fun e w' => e = .returned (.bool (badB p)) ∧ Below w.heap.size w w' := by
  have HN := Lib.hid (name_call p.f0)
  by_cases he : bts p.f1 = []
  · have h1 : (p.f1.toList == []) = true := by rw [bts_tl, he]; rfl
    have h2 : p.f1.toList.isEmpty = true := by rw [bts_tl, he]; rfl
    have hb : badB p = true := by unfold badB; rw [he]; rfl
    rw [hb]
    clear hb he
    go_enter Tryz.func103, Tryz.ntmps103
    go_wp2
    go_ret
    exact ⟨by simp, below_alloc (Below.refl _ _) _⟩
  · have h1 : (p.f1.toList == []) = false := by rw [bts_tl]; exact beq_eq_false_iff_ne.2 he
    have h2 : p.f1.toList.isEmpty = false := by rw [bts_tl]; cases h : bts p.f1 with | nil => exact absurd h he | cons _ _ => rfl
    have hb : badB p = !nameM (bts p.f0) := by unfold badB; rw [← bts_tl, h2]; rfl
    have HBb := Lib.hid hb
    clear hb he
    go_enter Tryz.func103, Tryz.ntmps103
    go_wp2_with (first | (go_at_call 44; (refine (HN.out _).mono ?_); rintro e w3 ⟨rfl, nd, rfl⟩))
    go_ret
    rw [HBb.out]
    exact ⟨by simp, below_drewN (below_alloc (Below.refl _ _) _) _⟩
/-- The first place of such a pair. -/
def placeB (P : S40 → Bool) (l : List S40) : Int := match l.findIdx? P with | none => -1 | some i => i
theorem placeB_some {P : S40 → Bool} {l : List S40} {n : Nat} (hlt : n < l.length) (h : ∀ j x, j < n → l[j]? = some x → P x = false) (hp : P l[n] = true) : placeB P l = n := by
  unfold placeB
  have : l.findIdx? P = some n := by
    rw [List.findIdx?_eq_some_iff_getElem]
    refine ⟨hlt, hp, ?_⟩
    intro j hj
    have := h j _ hj (List.getElem?_eq_getElem (by omega))
    simp [this]
  rw [this]
theorem placeB_none {P : S40 → Bool} {l : List S40} (h : ∀ j x, j < l.length → l[j]? = some x → P x = false) : placeB P l = -1 := by
  unfold placeB
  have : l.findIdx? P = none := by
    rw [List.findIdx?_eq_none_iff]
    intro x hx
    obtain ⟨j, hj, rfl⟩ := List.mem_iff_getElem.1 hx
    simp [h j _ hj (List.getElem?_eq_getElem hj)]
  rw [this]
theorem placeB_any (P : S40 → Bool) (l : List S40) : decide (placeB P l ≥ 0) = l.any P := by
  unfold placeB
  cases h : l.findIdx? P with
  | none =>
    have := List.findIdx?_eq_none_iff.1 h
    have h2 : l.any P = false := by rw [List.any_eq_false]; intro x hx; simp [this x hx]
    rw [h2]; rfl
  | some i =>
    obtain ⟨hi, hp, _⟩ := List.findIdx?_eq_some_iff_getElem.1 h
    have h2 : l.any P = true := List.any_eq_true.2 ⟨_, List.getElem_mem hi, hp⟩
    rw [h2]
    simp
/-- Of nothing yet. -/
def PlRel (w : World) (P : S40 → Bool) (l : List S40) (v8 : Value) (wr : World) : Prop := ∃ n : Nat, v8 = .int .i64 n ∧ n ≤ l.length ∧ Below w.heap.size w wr ∧ ∀ j x, j < n → l[j]? = some x → P x = false
/-- A pair's two cells. -/
theorem pair_at {w w1 : World} {A : Option Addr} {l : List S40} (hC : Kd.C k40 w A l.length l) (hb : Below w.heap.size w w1) {n : Nat} (h : n < l.length) : ∃ ad, A = some ad ∧ w1.cell? (ad.add (n * 2)) = some (.string l[n].f0) ∧ w1.cell? ⟨(ad.add (n * 2)).block, (ad.add (n * 2)).off + 1, none⟩ = some (.string l[n].f1) := by
  obtain ⟨ad, e, h0, h1⟩ := at_T40 hC (n : Int) (by omega) (by omega)
  rw [Int.toNat_natCast] at h0 h1
  have hr : rd_T40 l (n : Int) = l[n] := by simp [rd_T40, h]
  rw [hr] at h0 h1
  exact ⟨ad, e, pw_cell_below hb h0, pw_cell_below hb h1⟩
set_option maxRecDepth 100000 in
set_option maxHeartbeats 800000 in
theorem ix_long {w : World} {V : Value} {l : List S40} (h : PairsC w V l) : Calls Tryz.prog 129 #[V, .func (.func 102) #[] #[]] w fun e w' => e = .returned (.int .i64 (placeB longB l)) ∧ Below w.heap.size w w' := by
  obtain ⟨A, c, rfl, hc, hC⟩ := h
  have hmx := hC.2.1
  have HC := Lib.hid hC
  clear hC
  go_enter Tryz.func129, Tryz.ntmps129
  go_wp2_with fail
  go_loopw [8] (fun v8 wr => PlRel w longB l v8 wr) (fun v _ => match v with | .int _ k => l.length - k.toNat | _ => 0)
  case atStart => exact ⟨0, rfl, Nat.zero_le _, Below.refl _ _, fun j f hj => absurd hj (Nat.not_lt_zero _)⟩
  case round =>
    obtain ⟨n, rfl, hn, hb, hall⟩ := hrel
    have HB := Lib.hid hb
    have HAll := Lib.hid hall
    clear hall
    by_cases hlt : n < l.length
    · obtain ⟨ad, rfl, hx0, hx1⟩ := pair_at HC.out hb hlt
      have hni : (n : Int) < (l.length : Int) := by omega
      have hn0 : (0 : Int) ≤ (n : Int) := by omega
      obtain ⟨x, hx⟩ : ∃ x, l[n] = x := ⟨_, rfl⟩
      rw [hx] at hx0 hx1
      have HX := Lib.hid hx
      have hw1 : IntKind.i64.wrap ((n : Int) + 1) = ((n + 1 : Nat) : Int) := by rw [IntKind.wrap_i64]; omega
      clear hb hx
      go_wp2_with fail
      refine (long_any x _).mono ?_
      rintro e w2 ⟨rfl, hb2⟩
      have HB2 := Lib.hid (HB.out.trans (hb2.mono HB.out.size))
      clear hb2
      cases hfm : longB x with
      | true =>
        have HFm := Lib.hid hfm
        clear hfm
        go_wp2
        go_ret
        refine ⟨?_, HB2.out⟩
        rw [placeB_some hlt HAll.out (by rw [HX.out]; exact HFm.out)]
        rfl
      | false =>
        have HFm := Lib.hid hfm
        clear hfm
        go_wp2
        go_roundw
        case measure => simp; omega
        case rel =>
          refine ⟨n + 1, rfl, by omega, HB2.out, ?_⟩
          intro j g hj hg
          by_cases hjn : j = n
          · subst hjn
            rw [List.getElem?_eq_getElem hlt, HX.out] at hg
            injection hg with hg
            rw [← hg]; exact HFm.out
          · exact HAll.out j g (by omega) hg
    · have hni : ¬ (n : Int) < (l.length : Int) := by omega
      have HN := Lib.hid (show n = l.length by omega)
      clear hb
      go_wp2
      go_ret
      refine ⟨?_, HB.out⟩
      rw [placeB_none (by have := HAll.out; rw [HN.out] at this; exact this)]
      rfl
theorem has_long {w : World} {V : Value} {l : List S40} (h : PairsC w V l) : Calls Tryz.prog 104 #[V, .func (.func 102) #[] #[]] w fun e w' => e = .returned (.bool (l.any longB)) ∧ Below w.heap.size w w' := by
  have HI := Lib.hid (ix_long h)
  have hb := placeB_any longB l
  obtain ⟨r, hr⟩ : ∃ r, placeB longB l = r := ⟨_, rfl⟩
  rw [hr] at HI hb
  have HB := Lib.hid hb
  obtain ⟨A, c, rfl, hc, hC⟩ := h
  clear hr hb hC
  go_enter Tryz.func104, Tryz.ntmps104
  go_wp2_with fail
  refine HI.out.mono ?_
  rintro e w2 ⟨rfl, hb⟩
  have HBl := Lib.hid hb
  clear hb HI
  go_wp2
  go_ret
  refine ⟨?_, HBl.out⟩
  rw [← HB.out]
  rfl
set_option maxRecDepth 100000 in
set_option maxHeartbeats 800000 in
theorem ix_bad {w : World} {V : Value} {l : List S40} (h : PairsC w V l) : Calls Tryz.prog 129 #[V, .func (.func 103) #[] #[]] w fun e w' => e = .returned (.int .i64 (placeB badB l)) ∧ Below w.heap.size w w' := by
  obtain ⟨A, c, rfl, hc, hC⟩ := h
  have hmx := hC.2.1
  have HC := Lib.hid hC
  clear hC
  go_enter Tryz.func129, Tryz.ntmps129
  go_wp2_with fail
  go_loopw [8] (fun v8 wr => PlRel w badB l v8 wr) (fun v _ => match v with | .int _ k => l.length - k.toNat | _ => 0)
  case atStart => exact ⟨0, rfl, Nat.zero_le _, Below.refl _ _, fun j f hj => absurd hj (Nat.not_lt_zero _)⟩
  case round =>
    obtain ⟨n, rfl, hn, hb, hall⟩ := hrel
    have HB := Lib.hid hb
    have HAll := Lib.hid hall
    clear hall
    by_cases hlt : n < l.length
    · obtain ⟨ad, rfl, hx0, hx1⟩ := pair_at HC.out hb hlt
      have hni : (n : Int) < (l.length : Int) := by omega
      have hn0 : (0 : Int) ≤ (n : Int) := by omega
      obtain ⟨x, hx⟩ : ∃ x, l[n] = x := ⟨_, rfl⟩
      rw [hx] at hx0 hx1
      have HX := Lib.hid hx
      have hw1 : IntKind.i64.wrap ((n : Int) + 1) = ((n + 1 : Nat) : Int) := by rw [IntKind.wrap_i64]; omega
      clear hb hx
      go_wp2_with fail
      refine (badp_any x _).mono ?_
      rintro e w2 ⟨rfl, hb2⟩
      have HB2 := Lib.hid (HB.out.trans (hb2.mono HB.out.size))
      clear hb2
      cases hfm : badB x with
      | true =>
        have HFm := Lib.hid hfm
        clear hfm
        go_wp2
        go_ret
        refine ⟨?_, HB2.out⟩
        rw [placeB_some hlt HAll.out (by rw [HX.out]; exact HFm.out)]
        rfl
      | false =>
        have HFm := Lib.hid hfm
        clear hfm
        go_wp2
        go_roundw
        case measure => simp; omega
        case rel =>
          refine ⟨n + 1, rfl, by omega, HB2.out, ?_⟩
          intro j g hj hg
          by_cases hjn : j = n
          · subst hjn
            rw [List.getElem?_eq_getElem hlt, HX.out] at hg
            injection hg with hg
            rw [← hg]; exact HFm.out
          · exact HAll.out j g (by omega) hg
    · have hni : ¬ (n : Int) < (l.length : Int) := by omega
      have HN := Lib.hid (show n = l.length by omega)
      clear hb
      go_wp2
      go_ret
      refine ⟨?_, HB.out⟩
      rw [placeB_none (by have := HAll.out; rw [HN.out] at this; exact this)]
      rfl
theorem has_bad {w : World} {V : Value} {l : List S40} (h : PairsC w V l) : Calls Tryz.prog 104 #[V, .func (.func 103) #[] #[]] w fun e w' => e = .returned (.bool (l.any badB)) ∧ Below w.heap.size w w' := by
  have HI := Lib.hid (ix_bad h)
  have hb := placeB_any badB l
  obtain ⟨r, hr⟩ : ∃ r, placeB badB l = r := ⟨_, rfl⟩
  rw [hr] at HI hb
  have HB := Lib.hid hb
  obtain ⟨A, c, rfl, hc, hC⟩ := h
  clear hr hb hC
  go_enter Tryz.func104, Tryz.ntmps104
  go_wp2_with fail
  refine HI.out.mono ?_
  rintro e w2 ⟨rfl, hb⟩
  have HBl := Lib.hid hb
  clear hb HI
  go_wp2
  go_ret
  refine ⟨?_, HBl.out⟩
  rw [← HB.out]
  rfl
/-- Errors of pairs, but for their order. -/
def partsM (l : List S40) : Int := if 8 < l.length ∨ l.any longB = true then 5 else if l.any badB = true then 6 else 0
set_option maxRecDepth 100000 in
set_option maxHeartbeats 800000 in
theorem parts_any {w : World} {V : Value} {l : List S40} (h : PairsC w V l) : Calls Tryz.prog 77 #[V] w fun e w' => e = .returned (.int .i64 (partsM l)) ∧ Below w.heap.size w w' := by
  have HL := Lib.hid (has_long h)
  have HBd : Hid (∀ w', Below w.heap.size w w' → Calls Tryz.prog 104 #[V, .func (.func 103) #[] #[]] w' fun e w2 => e = .returned (.bool (l.any badB)) ∧ Below w'.heap.size w' w2) := Lib.hid (fun w' hb => has_bad (h.below hb))
  obtain ⟨A, c, rfl, hc, hC⟩ := h
  have hmx := hC.2.1
  clear hC
  by_cases h8 : 8 < l.length
  · have h8i : decide ((l.length : Int) > 8) = true := decide_eq_true (by omega)
    have hp : partsM l = 5 := by unfold partsM; rw [if_pos (Or.inl h8)]
    rw [hp]
    have h8j : (8 : Int) < (l.length : Int) := by omega
    clear hp
    go_enter Tryz.func77, Tryz.ntmps77
    go_wp2
    go_ret
    exact ⟨rfl, Below.refl _ _⟩
  · have h8i : decide ((l.length : Int) > 8) = false := decide_eq_false (by omega)
    have h8j : ¬ (8 : Int) < (l.length : Int) := by omega
    cases hl : l.any longB
    · cases hbd : l.any badB
      · have HP := Lib.hid (show partsM l = 0 by unfold partsM; rw [if_neg (by simp [hl, h8]), if_neg (by simp [hbd])])
        rw [hl] at HL
        rw [hbd] at HBd
        clear hl hbd
        go_enter Tryz.func77, Tryz.ntmps77
        go_wp2_with (first | (refine HL.out.mono ?_; rintro e w2 ⟨rfl, hb2⟩) | (refine (HBd.out _ hb2).mono ?_; rintro e w3 ⟨rfl, hb3⟩))
        go_ret
        exact ⟨by rw [HP.out]; rfl, hb2.trans (hb3.mono hb2.size)⟩
      · have HP := Lib.hid (show partsM l = 6 by unfold partsM; rw [if_neg (by simp [hl, h8]), if_pos hbd])
        rw [hl] at HL
        rw [hbd] at HBd
        clear hl hbd
        go_enter Tryz.func77, Tryz.ntmps77
        go_wp2_with (first | (refine HL.out.mono ?_; rintro e w2 ⟨rfl, hb2⟩) | (refine (HBd.out _ hb2).mono ?_; rintro e w3 ⟨rfl, hb3⟩))
        go_ret
        exact ⟨by rw [HP.out]; rfl, hb2.trans (hb3.mono hb2.size)⟩
    · have HP := Lib.hid (show partsM l = 5 by unfold partsM; rw [if_pos (Or.inr hl)])
      rw [hl] at HL
      clear hl
      go_enter Tryz.func77, Tryz.ntmps77
      go_wp2_with (first | (refine HL.out.mono ?_; rintro e w2 ⟨rfl, hb2⟩))
      go_ret
      exact ⟨by rw [HP.out]; rfl, hb2⟩
def cmpM (x y : S40) : Int := Lib.compareBytes (bts x.f0) (bts y.f0)
theorem byName_any (x y : S40) (w : World) : Calls Tryz.prog 78 #[.agg #[.string x.f0, .string x.f1], .agg #[.string y.f0, .string y.f1]] w fun e w' => e = .returned (.int .i64 (cmpM x y)) ∧ Below w.heap.size w w' := by
  have HC := Lib.hid (fun w => Any.strings_Compare Tryz.laysCompare x.f0 y.f0 w)
  obtain ⟨r, hr⟩ : ∃ r, cmpM x y = r := ⟨_, rfl⟩
  have hr2 : Lib.compareBytes x.f0.data.toList y.f0.data.toList = r := hr
  rw [hr]
  rw [hr2] at HC
  clear hr hr2
  go_enter Tryz.func78, Tryz.ntmps78
  go_wp2_with fail
  refine (HC.out _).mono ?_
  rintro e w2 ⟨rfl, rfl⟩
  go_wp2
  go_ret
  exact ⟨rfl, below_alloc (below_alloc (Below.refl _ _) _) _⟩
/-- Are pairs in their order, so far? -/
def sortedTo (l : List S40) (n : Nat) : Prop := ∀ j (h : j < l.length) (h0 : 0 < j), j < n → cmpM (l[j - 1]'(by omega)) l[j] < 0
open Classical in
/-- label.Check's answer. -/
noncomputable def checkM (l : List S40) : Int := if partsM l ≠ 0 then partsM l else if sortedTo l l.length then 0 else 4
def ChRel (w : World) (l : List S40) (v : Value) (wr : World) : Prop := ∃ n : Nat, v = .int .i64 n ∧ n ≤ l.length ∧ Below w.heap.size w wr ∧ sortedTo l n
set_option maxRecDepth 100000 in
set_option maxHeartbeats 800000 in
theorem check_any {w : World} {V : Value} {l : List S40} (h : PairsC w V l) : Calls Tryz.prog 45 #[V] w fun e w' => e = .returned (.int .i64 (checkM l)) ∧ Below w.heap.size w w' := by
  have HP := Lib.hid (parts_any h)
  obtain ⟨A, c, rfl, hc, hC⟩ := h
  have hmx := hC.2.1
  have HC := Lib.hid hC
  clear hC
  obtain ⟨pm, hpm⟩ : ∃ p, partsM l = p := ⟨_, rfl⟩
  rw [hpm] at HP
  have HPm := Lib.hid hpm
  clear hpm
  by_cases hp0 : pm = 0
  · subst hp0
    go_enter Tryz.func45, Tryz.ntmps45
    go_wp2_with (first | (go_at_call 77; (refine HP.out.mono ?_); rintro e w2 ⟨rfl, hb2⟩))
    go_loopw [12] (fun v wr => ChRel w l v wr) (fun v _ => match v with | .int _ k => l.length - k.toNat | _ => 0)
    case atStart => exact ⟨0, rfl, Nat.zero_le _, hb2, fun j h h0 hj => by omega⟩
    case round =>
      obtain ⟨n, rfl, hn, hb, hso⟩ := hrel
      have HB := Lib.hid hb
      have HSo := Lib.hid hso
      clear hso
      by_cases hlt : n < l.length
      · have hw1 : IntKind.i64.wrap ((n : Int) + 1) = ((n + 1 : Nat) : Int) := by rw [IntKind.wrap_i64]; omega
        have hni : (n : Int) < (l.length : Int) := by omega
        have hn0 : (0 : Int) ≤ (n : Int) := by omega
        by_cases hz : n = 0
        · subst hz
          clear hb
          go_wp2
          repeat (go_quiet (fail); try go_wp2)
          go_roundw
          case rel => exact ⟨1, rfl, by omega, by first | exact HB.out.drew | exact HB.out | exact below_drewN HB.out _, fun j h h0 hj => by omega⟩
          case measure => simp; omega
        · have hz1 : (0 : Int) < (n : Int) := by omega
          have hz3 : 0 < n := by omega
          have hz2 : decide ((n : Int) > 0) = true := decide_eq_true (by omega)
          obtain ⟨ad, rfl, hx0, hx1⟩ := pair_at HC.out hb (n := n - 1) (by omega)
          obtain ⟨ad2, had2, hy0, hy1⟩ := pair_at HC.out hb hlt
          injection had2 with had2
          subst had2
          have hw2 : IntKind.i64.wrap ((n : Int) - 1) = ((n - 1 : Nat) : Int) := by rw [IntKind.wrap_i64]; omega
          have hm0 : (0 : Int) ≤ ((n - 1 : Nat) : Int) := by omega
          have hm1 : ((n - 1 : Nat) : Int) < (l.length : Int) := by omega
          obtain ⟨x, hx⟩ : ∃ x, l[n - 1] = x := ⟨_, rfl⟩
          obtain ⟨y, hy⟩ : ∃ y, l[n] = y := ⟨_, rfl⟩
          rw [hx] at hx0 hx1
          rw [hy] at hy0 hy1
          have HBy := Lib.hid (byName_any x y)
          obtain ⟨r, hr⟩ : ∃ r, cmpM x y = r := ⟨_, rfl⟩
          rw [hr] at HBy
          have HXY : Hid (cmpM l[n - 1] l[n] = r) := Lib.hid (by rw [hx, hy, hr])
          clear hx hy hr hb
          go_upto_region 7 with (fail)
          refine wp_region_held_drew (S := fun wv : World => wv.cell? (ad.add ((n - 1) * 2)) = some (.string x.f0) ∧ wv.cell? ⟨(ad.add ((n - 1) * 2)).block, (ad.add ((n - 1) * 2)).off + 1, none⟩ = some (.string x.f1) ∧ wv.cell? (ad.add (n * 2)) = some (.string y.f0) ∧ wv.cell? ⟨(ad.add (n * 2)).block, (ad.add (n * 2)).off + 1, none⟩ = some (.string y.f1)) (by kernel_rfl) ⟨hx0, hx1, hy0, hy1⟩ (fun hHeld => ?_)
          refine wpAnyH_take (i := 0) (oi := _) (v := ?_) rfl (by kernel_rfl) (by kernel_rfl) (by kernel_rfl) (fun _ _ _ h => h) (Or.inl ⟨by rfl, ?_⟩) (by assumption) ?_
          rotate_left 1
          · intro w hSw; (try dsimp only at hSw); go_simp; (try with_reducible rfl)
          try simp only [Act.put, List.setIfInBounds_toArray, List.set_cons_zero, List.set_cons_succ, List.getElem_toArray, List.getElem_cons_zero, List.getElem_cons_succ]
          refine wpAnyH_take (i := 1) (oi := _) (v := ?_) rfl (by kernel_rfl) (by kernel_rfl) (by kernel_rfl) (fun _ _ _ h => h) (Or.inl ⟨by rfl, ?_⟩) (by assumption) ?_
          rotate_left 1
          · intro w hSw; (try dsimp only at hSw); go_simp; (try with_reducible rfl)
          try simp only [Act.put, List.setIfInBounds_toArray, List.set_cons_zero, List.set_cons_succ, List.getElem_toArray, List.getElem_cons_zero, List.getElem_cons_succ]
          refine wpAnyH_take (i := 2) (oi := _) (v := ?_) rfl (by kernel_rfl) (by kernel_rfl) (by kernel_rfl) (fun _ _ _ h => h) (Or.inl ⟨by rfl, ?_⟩) (by assumption) ?_
          rotate_left 1
          · intro w hSw; (try dsimp only at hSw); go_simp; (try with_reducible rfl)
          try simp only [Act.put, List.setIfInBounds_toArray, List.set_cons_zero, List.set_cons_succ, List.getElem_toArray, List.getElem_cons_zero, List.getElem_cons_succ]
          refine wpAnyH_take (i := 3) (oi := _) (v := ?_) rfl (by kernel_rfl) (by kernel_rfl) (by kernel_rfl) (fun _ _ _ h => h) (Or.inl ⟨by rfl, ?_⟩) (by assumption) ?_
          rotate_left 1
          · intro w hSw; (try dsimp only at hSw); go_simp; (try with_reducible rfl)
          try simp only [Act.put, List.setIfInBounds_toArray, List.set_cons_zero, List.set_cons_succ, List.getElem_toArray, List.getElem_cons_zero, List.getElem_cons_succ]
          refine wpAnyH_take (i := 4) (oi := _) (v := ?_) rfl (by kernel_rfl) (by kernel_rfl) (by kernel_rfl) (fun _ _ _ h => h) (Or.inl ⟨by rfl, ?_⟩) (by assumption) ?_
          rotate_left 1
          · intro w hSw; (try dsimp only at hSw); go_simp; (try with_reducible rfl)
          try simp only [Act.put, List.setIfInBounds_toArray, List.set_cons_zero, List.set_cons_succ, List.getElem_toArray, List.getElem_cons_zero, List.getElem_cons_succ]
          refine wpAnyH_take (i := 5) (oi := _) (v := ?_) rfl (by kernel_rfl) (by kernel_rfl) (by kernel_rfl) (fun _ _ _ h => h) (Or.inl ⟨by rfl, ?_⟩) (by assumption) ?_
          rotate_left 1
          · intro w hSw; (try dsimp only at hSw); go_simp; (try with_reducible rfl)
          try simp only [Act.put, List.setIfInBounds_toArray, List.set_cons_zero, List.set_cons_succ, List.getElem_toArray, List.getElem_cons_zero, List.getElem_cons_succ]
          refine wpAnyH_take (i := 6) (oi := _) (v := ?_) rfl (by kernel_rfl) (by kernel_rfl) (by kernel_rfl) (fun _ _ _ h => h) (Or.inl ⟨by rfl, ?_⟩) (by assumption) ?_
          rotate_left 1
          · intro w hSw; (try dsimp only at hSw); go_simp; (try with_reducible rfl)
          try simp only [Act.put, List.setIfInBounds_toArray, List.set_cons_zero, List.set_cons_succ, List.getElem_toArray, List.getElem_cons_zero, List.getElem_cons_succ]
          refine wpAnyH_take (i := 7) (oi := _) (v := ?_) rfl (by kernel_rfl) (by kernel_rfl) (by kernel_rfl) (fun _ _ _ h => h) (Or.inl ⟨by rfl, ?_⟩) (by assumption) ?_
          rotate_left 1
          · intro w hSw; (try dsimp only at hSw); go_simp; (try with_reducible rfl)
          try simp only [Act.put, List.setIfInBounds_toArray, List.set_cons_zero, List.set_cons_succ, List.getElem_toArray, List.getElem_cons_zero, List.getElem_cons_succ]
          refine wpAnyH_take (i := 8) (oi := _) (v := ?_) rfl (by kernel_rfl) (by kernel_rfl) (by kernel_rfl) (fun _ _ _ h => h) (Or.inl ⟨by rfl, ?_⟩) (by assumption) ?_
          rotate_left 1
          · intro w hSw; (try dsimp only at hSw); go_simp; (try with_reducible rfl)
          try simp only [Act.put, List.setIfInBounds_toArray, List.set_cons_zero, List.set_cons_succ, List.getElem_toArray, List.getElem_cons_zero, List.getElem_cons_succ]
          refine wpAnyH_take (i := 9) (oi := _) (v := ?_) rfl (by kernel_rfl) (by kernel_rfl) (by kernel_rfl) (fun _ _ _ h => h) (Or.inl ⟨by rfl, ?_⟩) (by assumption) ?_
          rotate_left 1
          · intro w hSw; (try dsimp only at hSw); go_simp; (try with_reducible rfl)
          try simp only [Act.put, List.setIfInBounds_toArray, List.set_cons_zero, List.set_cons_succ, List.getElem_toArray, List.getElem_cons_zero, List.getElem_cons_succ]
          refine wpAnyH_take (i := 10) (oi := _) (v := ?_) rfl (by kernel_rfl) (by kernel_rfl) (by kernel_rfl) (fun _ _ _ h => h) (Or.inl ⟨by rfl, ?_⟩) (by assumption) ?_
          rotate_left 1
          · intro w hSw; (try dsimp only at hSw); go_simp; (try with_reducible rfl)
          try simp only [Act.put, List.setIfInBounds_toArray, List.set_cons_zero, List.set_cons_succ, List.getElem_toArray, List.getElem_cons_zero, List.getElem_cons_succ]
          refine wpAnyH_take (i := 11) (oi := _) (v := ?_) rfl (by kernel_rfl) (by kernel_rfl) (by kernel_rfl) (fun _ _ _ h => h) (Or.inl ⟨by rfl, ?_⟩) (by assumption) ?_
          rotate_left 1
          · intro w hSw; (try dsimp only at hSw); go_simp; (try with_reducible rfl)
          try simp only [Act.put, List.setIfInBounds_toArray, List.set_cons_zero, List.set_cons_succ, List.getElem_toArray, List.getElem_cons_zero, List.getElem_cons_succ]
          refine wpAnyH_ready (rs := [12]) (by kernel_rfl) (by simp) ?_
          refine AllReadyH.cons (o := _) rfl (fun K hK => ?_) AllReadyH.nil
          go_simp
          refine (HBy.out _).mono ?_
          rintro e w3 ⟨rfl, hb3⟩
          refine hK.out _ _ ⟨pw_cell_below hb3 hx0, pw_cell_below hb3 hx1, pw_cell_below hb3 hy0, pw_cell_below hb3 hy1⟩ (fun hHeld => ?_)
          clear hK K
          have HB3 := Lib.hid (HB.out.trans (((below_drew (Below.refl _ _)).trans hb3).mono HB.out.size))
          clear hb3
          by_cases hr0 : 0 ≤ r
          · have hri : decide (r ≥ (0 : Int)) = true := decide_eq_true hr0
            refine wpAnyH_take (i := 13) (oi := _) (v := ?_) rfl (by kernel_rfl) (by kernel_rfl) (by kernel_rfl) (fun _ _ _ h => h) (Or.inl ⟨by rfl, ?_⟩) (by assumption) ?_
            rotate_left 1
            · intro w hSw; (try dsimp only at hSw); go_simp; (try with_reducible rfl)
            try simp only [Act.put, List.setIfInBounds_toArray, List.set_cons_zero, List.set_cons_succ, List.getElem_toArray, List.getElem_cons_zero, List.getElem_cons_succ]
            refine wpAnyH_take (i := 14) (oi := _) (v := ?_) rfl (by kernel_rfl) (by kernel_rfl) (by kernel_rfl) (fun _ _ _ h => h) (Or.inl ⟨by rfl, ?_⟩) (by assumption) ?_
            rotate_left 1
            · intro w hSw; (try dsimp only at hSw); go_simp; (try with_reducible rfl)
            try simp only [Act.put, List.setIfInBounds_toArray, List.set_cons_zero, List.set_cons_succ, List.getElem_toArray, List.getElem_cons_zero, List.getElem_cons_succ]
            refine wpAnyH_done (by kernel_rfl) ?_ _
            go_wp2
            go_ret
            refine ⟨?_, HB3.out⟩
            have : checkM l = 4 := by
              unfold checkM
              rw [HPm.out, if_neg (by simp), if_neg]
              intro h
              have h9 := h n hlt (by omega) hlt
              have e := HXY.out
              omega
            rw [this]
            rfl
          · have hri : decide (r ≥ (0 : Int)) = false := decide_eq_false hr0
            refine wpAnyH_take (i := 13) (oi := _) (v := ?_) rfl (by kernel_rfl) (by kernel_rfl) (by kernel_rfl) (fun _ _ _ h => h) (Or.inl ⟨by rfl, ?_⟩) (by assumption) ?_
            rotate_left 1
            · intro w hSw; (try dsimp only at hSw); go_simp; (try with_reducible rfl)
            try simp only [Act.put, List.setIfInBounds_toArray, List.set_cons_zero, List.set_cons_succ, List.getElem_toArray, List.getElem_cons_zero, List.getElem_cons_succ]
            refine wpAnyH_take (i := 14) (oi := _) (v := ?_) rfl (by kernel_rfl) (by kernel_rfl) (by kernel_rfl) (fun _ _ _ h => h) (Or.inl ⟨by rfl, ?_⟩) (by assumption) ?_
            rotate_left 1
            · intro w hSw; (try dsimp only at hSw); go_simp; (try with_reducible rfl)
            try simp only [Act.put, List.setIfInBounds_toArray, List.set_cons_zero, List.set_cons_succ, List.getElem_toArray, List.getElem_cons_zero, List.getElem_cons_succ]
            refine wpAnyH_done (by kernel_rfl) ?_ _
            go_wp2
            go_roundw
            case rel =>
              refine ⟨n + 1, rfl, by omega, HB3.out, fun j h h0 hj => ?_⟩
              by_cases hjn : j = n
              · subst hjn
                have e := HXY.out
                omega
              · exact HSo.out j h h0 (by omega)
            case measure => simp; omega
      · have hni : ¬ (n : Int) < (l.length : Int) := by omega
        have HN := Lib.hid (show n = l.length by omega)
        clear hb
        go_wp2
        go_ret
        refine ⟨?_, HB.out⟩
        have : checkM l = 0 := by
          unfold checkM
          rw [HPm.out, if_neg (by simp), if_pos (by have := HSo.out; rw [HN.out] at this; exact this)]
        rw [this]
        rfl
  · have hp1 : (pm != 0) = true := by rw [bne_iff_ne]; exact hp0
    have hcm : checkM l = pm := by unfold checkM; rw [HPm.out, if_pos hp0]
    rw [hcm]
    clear hcm
    go_enter Tryz.func45, Tryz.ntmps45
    go_wp2_with (first | (go_at_call 77; (refine HP.out.mono ?_); rintro e w2 ⟨rfl, hb2⟩))
    go_ret
    exact ⟨rfl, hb2⟩
end Go.Proofs.YtllhpkpckjacfaaGreatDoor
