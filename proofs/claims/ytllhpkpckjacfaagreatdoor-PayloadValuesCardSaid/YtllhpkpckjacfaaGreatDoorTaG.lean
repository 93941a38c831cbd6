/- template's parser: is one of a place's filters none? -/
import Derived.Test.YtllhpkpckjacfaaGreatDoorTaE
namespace Go.Proofs.YtllhpkpckjacfaaGreatDoor
open Go.RowKit Go.Proofs.YtllhpkpckjacfaaGreatDoorW.PrintWords PTemplateFilters
set_option linter.unusedVariables false
set_option linter.unusedSimpArgs false

theorem bad_any {ok : Nat → Prop} {w : World} {V : Value} {f : List Bytes} (h : SsK ok w V f) (hm : ∀ b ∈ f, b.length ≤ maxLen) :
    Calls Tryz.prog 142 #[V] w fun e w' => e = .returned (.bool (!filtersM f)) ∧ Below w.heap.size w w' := by
  have HF := Lib.hid (filters_any h.ss hm)
  clear h hm
  go_enter Tryz.func142, Tryz.ntmps142
  go_wp2_with fail
  refine HF.out.mono ?_
  rintro e w2 ⟨rfl, hb⟩
  have HB := Lib.hid hb
  clear hb HF
  go_wp2
  go_ret
  exact ⟨rfl, HB.out⟩
/-- The first filter that is none. -/
def badAt (L : List (List Bytes)) : Int := match L.findIdx? (fun f => !filtersM f) with | none => -1 | some i => i
theorem badAt_some {L : List (List Bytes)} {n : Nat} {f : List Bytes} (hlt : n < L.length) (h : ∀ j f, j < n → L[j]? = some f → filtersM f = true) (hf : L[n]? = some f) (hff : filtersM f = false) : badAt L = n := by
  unfold badAt
  have : L.findIdx? (fun f => !filtersM f) = some n := by
    rw [List.findIdx?_eq_some_iff_getElem]
    refine ⟨hlt, ?_, ?_⟩
    · rw [List.getElem?_eq_getElem hlt] at hf
      injection hf with hf
      rw [hf, hff]; rfl
    · intro j hj
      have := h j _ hj (List.getElem?_eq_getElem (by omega))
      simp [this]
  rw [this]
theorem badAt_none {L : List (List Bytes)} (h : ∀ j f, j < L.length → L[j]? = some f → filtersM f = true) : badAt L = -1 := by
  unfold badAt
  have : L.findIdx? (fun f => !filtersM f) = none := by
    rw [List.findIdx?_eq_none_iff]
    intro x hx
    obtain ⟨j, hj, rfl⟩ := List.mem_iff_getElem.1 hx
    simp [h j _ hj (List.getElem?_eq_getElem hj)]
  rw [this]
theorem badAt_all (L : List (List Bytes)) : decide (badAt L ≥ 0) = !L.all filtersM := by
  unfold badAt
  cases h : L.findIdx? (fun f => !filtersM f) with
  | none =>
    rw [List.findIdx?_eq_none_iff] at h
    have : L.all filtersM = true := by
      rw [List.all_eq_true]
      intro x hx
      simpa using h x hx
    rw [this]; rfl
  | some i =>
    rw [List.findIdx?_eq_some_iff_getElem] at h
    obtain ⟨hi, hp, _⟩ := h
    have : L.all filtersM = false := by
      rw [List.all_eq_false]
      exact ⟨L[i], List.getElem_mem hi, by simpa using hp⟩
    rw [this]
    simp
def BadRel (w : World) (L : List (List Bytes)) (v8 : Value) (wr : World) : Prop := ∃ n : Nat, v8 = .int .i64 n ∧ n ≤ L.length ∧ Below w.heap.size w wr ∧ ∀ j f, j < n → L[j]? = some f → filtersM f = true
set_option maxHeartbeats 1000000 in
theorem index_func {ok : Nat → Prop} {w : World} {V : Value} {L : List (List Bytes)} (h : RowK ok w (fun v f => SsK ok w v f) V L) (hl : L.length ≤ 1000000) (hm : ∀ f ∈ L, ∀ b ∈ f, b.length ≤ maxLen) :
    Calls Tryz.prog 163 #[V, .func (.func 142) #[] #[]] w fun e w' => e = .returned (.int .i64 (badAt L)) ∧ Below w.heap.size w w' := by
  obtain ⟨A, c, rfl, hc⟩ := h.form
  have HH := Lib.hid h
  have HM := Lib.hid hm
  clear h hm
  go_enter Tryz.func163, Tryz.ntmps163
  go_wp2_with fail
  go_loopw [8] (fun v8 wr => BadRel w L v8 wr) (fun v _ => L.length - (intOf v).toNat)
  case atStart => exact ⟨0, rfl, Nat.zero_le _, Below.refl _ _, fun j f hj => absurd hj (Nat.not_lt_zero _)⟩
  case round =>
    obtain ⟨n, rfl, hn, hb, hall⟩ := hrel
    have HB := Lib.hid hb
    have HAll := Lib.hid hall
    clear hall
    by_cases hlt : n < L.length
    · obtain ⟨f, hf⟩ : ∃ f, L[n] = f := ⟨_, rfl⟩
      obtain ⟨ad, c2, v, e, _, hcell, hv⟩ := HH.out.at hlt
      injection e with e1 _ e3
      subst e1 e3
      have hcell2 := (hb.cell (World.block_lt_of_cell? w _ hcell)).trans hcell
      rw [hf] at hv
      have HV := Lib.hid (RowK.move hv (same_below hb (Nat.le_refl _)))
      have HMf := Lib.hid (HM.out f (by rw [← hf]; exact List.getElem_mem hlt))
      have HFe := Lib.hid (show L[n]? = some f by rw [List.getElem?_eq_getElem hlt, hf])
      clear hf hv hcell hb
      go_wp2_with fail
      refine (bad_any HV.out HMf.out).mono ?_
      rintro e w2 ⟨rfl, hb2⟩
      have HB2 := Lib.hid (HB.out.trans (hb2.mono HB.out.size))
      clear hb2
      cases hfm : filtersM f with
      | false =>
        have HFm := Lib.hid hfm
        clear hfm
        rw [Bool.not_false]
        go_wp2
        go_ret
        refine ⟨?_, HB2.out⟩
        rw [badAt_some hlt HAll.out HFe.out HFm.out]
        rfl
      | true =>
        have HFm := Lib.hid hfm
        clear hfm
        rw [Bool.not_true]
        go_wp2
        go_roundw
        case measure => simp [intOf]; omega
        case rel =>
          refine ⟨n + 1, by go_num, by omega, HB2.out, ?_⟩
          intro j g hj hg
          by_cases hjn : j = n
          · subst hjn
            rw [HFe.out] at hg
            injection hg with hg
            rw [← hg]; exact HFm.out
          · exact HAll.out j g (by omega) hg
    · have hne : n = L.length := by omega
      have HN := Lib.hid hne
      clear hne hb
      go_wp2
      go_ret
      refine ⟨?_, HB.out⟩
      rw [badAt_none (by have := HAll.out; rw [HN.out] at this; exact this)]
      rfl
theorem contains_func {ok : Nat → Prop} {w : World} {V : Value} {L : List (List Bytes)} (h : RowK ok w (fun v f => SsK ok w v f) V L) (hl : L.length ≤ 1000000) (hm : ∀ f ∈ L, ∀ b ∈ f, b.length ≤ maxLen) :
    Calls Tryz.prog 144 #[V, .func (.func 142) #[] #[]] w fun e w' => e = .returned (.bool (!L.all filtersM)) ∧ Below w.heap.size w w' := by
  have HI := Lib.hid (index_func h hl hm)
  have hb := badAt_all L
  obtain ⟨r, hr⟩ : ∃ r, badAt L = r := ⟨_, rfl⟩
  rw [hr] at HI hb
  have HB := Lib.hid hb
  clear h hm hr hb
  go_enter Tryz.func144, Tryz.ntmps144
  go_wp2_with fail
  refine HI.out.mono ?_
  rintro e w2 ⟨rfl, hb⟩
  have HBl := Lib.hid hb
  clear hb HI
  go_wp2
  go_ret
  refine ⟨?_, HBl.out⟩
  rw [← HB.out]
  rfl
end Go.Proofs.YtllhpkpckjacfaaGreatDoor
