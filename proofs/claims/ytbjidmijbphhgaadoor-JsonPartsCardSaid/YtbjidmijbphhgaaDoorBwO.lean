/- Words for the laws over values: json's lists as the print's, the laws' calls. -/
import Derived.Test.YtbjidmijbphhgaaDoorKiO
import Derived.Test.YtbjidmijbphhgaaDoorBkE
namespace Go.Proofs.YtbjidmijbphhgaaDoor
open Go.RowKit Go.Proofs.YtbjidmijbphhgaaDoorW.PrintWords PJsonKids
set_option linter.unusedVariables false
set_option linter.unusedSimpArgs false

def ofV (v : Val) : S36 := ⟨v.parent, v.kind, str v.name, str v.text⟩
theorem toV_ofV (v : Val) : toV (ofV v) = v := by
  cases v
  simp [toV, ofV, str]
theorem ofV_toV {x : S36} (h : okV x) : ofV (toV x) = x := by
  have := okV_kind h
  cases x
  simp only [ofV, toV, str_of]
  simp only at this
  congr 1; omega
theorem map_ofV {l : List S36} (h : ∀ x ∈ l, okV x) : (l.map toV).map ofV = l := by
  rw [List.map_map]
  conv => rhs; rw [← List.map_id l]
  exact List.map_congr_left (fun x hx => ofV_toV (h x hx))
theorem kdC_lst {w : World} {V : Value} {m : List Val} (L : Lst w V m) (hm : m.length ≤ 9223372036854775807) : ∃ A c, V = .slice A m.length c ∧ Kd.C k36 w A (m.map ofV).length (m.map ofV) := by
  obtain ⟨A, c, rfl⟩ := L.form
  refine ⟨A, c, rfl, rfl, by rw [List.length_map]; exact hm, fun hn => ?_⟩
  rw [List.length_map] at hn
  obtain ⟨a, n, cap, e, hc⟩ := L.cells (by rintro rfl; simp at hn)
  cases e
  refine ⟨a, rfl, fun j p hj => ?_⟩
  rw [List.getElem?_map] at hj
  cases hx : m[j]? with
  | none => rw [hx] at hj; cases hj
  | some x =>
    rw [hx] at hj
    simp only [Option.map_some, Option.some.injEq] at hj
    subst hj
    refine ⟨_, rfl, k36_mk w (ofV x), fun i u hu => ?_⟩
    have hi4 : i < 4 := (List.getElem?_eq_some_iff.1 hu).1
    have := vcells_get hx hi4
    refine hc (j * 4 + i) u ?_
    rw [this]
    exact hu
theorem own_slice {w : World} {B : Nat} {V : Value} {m : List Val} (h : Own w B V m) : ∃ A c, V = .slice A m.length c ∧ m.length ≤ c := by
  obtain ⟨hl, hn | ⟨g, cap, cur, hV, hb, hg, hc, _⟩⟩ := h
  · obtain ⟨rfl, hn⟩ := hn
    rw [hn]
    exact ⟨none, 0, rfl, Nat.le_refl _⟩
  · exact ⟨_, cap, hV, hc⟩
theorem wrap_small' (n : Int) (h0 : -9223372036854775808 ≤ n) (h : n < 9223372036854775808) : wrap64 n = n := by unfold wrap64; omega
theorem jsame_self (l : List S36) (hl : l.length ≤ 600) : ∀ (n i : Nat), i + n = l.length → api_Value_37.l0 (n + 1) l l (l.length : Int) (i : Int) = some true
  | 0, i, h => by rw [api_Value_37.l0, if_neg (by omega)]
  | n + 1, i, h => by
    have w1 : wrap64 ((i : Int) + 1) = ((i + 1 : Nat) : Int) := wrap_small' ((i : Int) + 1) (by omega) (by omega)
    have ih := jsame_self l hl n (i + 1) (by omega)
    rw [api_Value_37.l0, if_pos (by omega)]
    simp only [w1, ih]
    rw [if_pos (by omega), if_pos (by omega)]
    simp; omega
theorem jsame_f (l : List S36) (hl : l.length ≤ 600) : ∃ k, json_Same.f k l l = some true := by
  refine ⟨l.length + 1, ?_⟩
  have h := jsame_self l hl l.length 0 (by omega)
  unfold json_Same.f api_Value_37.f
  rw [if_pos (by omega)]
  first
    | (rw [show (0 : Int) = ((0 : Nat) : Int) by rfl, h]; rfl)
    | (simp only [show (0 : Int) = ((0 : Nat) : Int) by rfl, h]; rfl)
theorem okV_val' {x : S36} (h : okV x) : (toV x).ok := by
  have h2 := okV_kind h
  refine ⟨⟨?_, ?_, ?_⟩, h.1⟩
  · have : (toV x).name.length = x.f2.size := by show x.f2.data.toList.length = _; rw [← str_size, str_of]
    rw [this]; exact h.2.2.1
  · have : (toV x).text.length = x.f3.size := by show x.f3.data.toList.length = _; rw [← str_size, str_of]
    rw [this]; exact h.2.2.2
  · show x.f1.toNat < 256; omega
theorem bulk_vol (l : List S36) : vol (l.map toV) = (l.map bulk).sum := by
  induction l with
  | nil => rfl
  | cons a l ih =>
    have e : vol ((a :: l).map toV) = a.f2.data.toList.length + a.f3.data.toList.length + vol (l.map toV) := by simp [vol, toV]
    have e2 : a.f2.data.toList.length = a.f2.size := by rw [← str_size, str_of]
    have e3 : a.f3.data.toList.length = a.f3.size := by rw [← str_size, str_of]
    rw [e, ih, e2, e3]
    simp only [List.map_cons, List.sum_cons, bulk]
/-- What putM says. -/
theorem putM_ok {l : List Val} (h : checkM l = 0) : putM l = (textM l, 0) := by unfold putM; rw [if_pos h]
theorem putM_no {l : List Val} (h : checkM l ≠ 0) : putM l = ([], checkM l) := by unfold putM; rw [if_neg h]
/-- The values of a right list may be. -/
theorem vol_mem {l : List Val} {v : Val} (h : v ∈ l) : v.name.length + v.text.length ≤ vol l := by
  induction l with
  | nil => cases h
  | cons a l ih =>
    have e : vol (a :: l) = a.name.length + a.text.length + vol l := by simp [vol]
    rw [e]
    rcases List.mem_cons.1 h with rfl | h
    · omega
    · have := ih h; omega
theorem next_par_le {l : List Val} {o o' : List Nat} {i : Nat} {v : Val} (hlow : ∀ m ∈ o, m < i) (h : nextM l o i v = some o') : -1 ≤ v.parent ∧ v.parent ≤ (i : Int) := by
  by_cases hi : i = 0
  · unfold nextM at h
    rw [if_pos hi] at h
    split at h
    · rename_i c; omega
    · cases h
  · obtain ⟨p, hp, he⟩ := next_mem (by omega) h
    have := hlow p hp
    omega
theorem shape_par {l : List Val} : ∀ (r : List Val) (i : Nat) (o : List Nat), (∀ m ∈ o, m < i) → shapeGo l i o r = true → ∀ v ∈ r, -1 ≤ v.parent ∧ v.parent ≤ (i : Int) + r.length
  | [], _, _, _, _, v, h => by simp at h
  | a :: r, i, o, hlow, hs, v, h => by
    simp only [shapeGo] at hs
    cases hn : nextM l o i a with
    | none => rw [hn] at hs; cases hs
    | some o' =>
      rw [hn] at hs
      simp only [Bool.and_eq_true] at hs
      rcases List.mem_cons.1 h with rfl | h
      · have := next_par_le hlow hn
        simp only [List.length_cons]; omega
      · have := shape_par r (i + 1) o' (next_low hn hlow) hs.2 v h
        simp only [List.length_cons]; omega
theorem check_ok {l : List Val} (h : checkM l = 0) (hv : vol l ≤ 1000000) : ∀ v ∈ l, v.ok := by
  intro v hm
  obtain ⟨h1, h2, h3, h4⟩ := checkM_zero h
  have hp := shape_par l 0 [] (by simp) h3 v hm
  have hone := one_form (shapeGo_one l 0 [] h3 v hm)
  have hvol := vol_mem hm
  have h5 := hone.1
  refine ⟨⟨by unfold maxLen; omega, by unfold maxLen; omega, by omega⟩, ?_⟩
  simp [Lit.wf, IntKind.min, IntKind.max, IntKind.signed, IntKind.bits]
  omega
/-- What reading comes to, else. -/
def isErr (n : Nat) : Prop := n = 4 ∨ n = 5 ∨ n = 7
theorem errs (f : Nat) : (∀ s l nest name p n, valueM f s l nest name p = .error n → isErr n) ∧ (∀ s l nest i e n, manyM f s l nest i e = .error n → isErr n) ∧ (∀ s l nest i e n, loopM f s l nest i e = .error n → isErr n) := by
  induction f with
  | zero =>
    refine ⟨fun s l nest name p n h => ?_, fun s l nest i e n h => ?_, fun s l nest i e n h => ?_⟩
    · simp only [valueM, Except.error.injEq] at h; exact .inl h.symm
    · simp only [manyM, Except.error.injEq] at h; exact .inl h.symm
    · simp only [loopM, Except.error.injEq] at h; exact .inl h.symm
  | succ f ih =>
    obtain ⟨ih1, ih2, ih3⟩ := ih
    refine ⟨fun s l nest name p n h => ?_, fun s l nest i e n h => ?_, fun s l nest i e n h => ?_⟩
    · simp only [valueM] at h
      split at h
      · simp only [Except.error.injEq] at h; exact .inl h.symm
      repeat' split at h
      all_goals first
        | (simp only [Except.error.injEq] at h; unfold isErr; omega)
        | exact ih2 _ _ _ _ _ _ h
        | cases h
    · simp only [manyM] at h
      repeat' split at h
      all_goals first
        | exact ih3 _ _ _ _ _ _ h
        | cases h
    · simp only [loopM] at h
      split at h
      · rename_i n' hn
        simp only [Except.error.injEq] at h
        subst h
        repeat' split at hn
        all_goals first
          | (simp only [Except.error.injEq] at hn; unfold isErr; omega)
          | cases hn
      · split at h
        · rename_i n' hn
          simp only [Except.error.injEq] at h
          subst h
          exact ih1 _ _ _ _ _ _ hn
        · repeat' split at h
          all_goals first
            | (simp only [Except.error.injEq] at h; unfold isErr; omega)
            | exact ih3 _ _ _ _ _ _ h
            | cases h
theorem read_err {s : Bytes} {n : Nat} (h : readM s = .error n) : isErr n := by
  unfold readM at h
  split at h
  · simp only [Except.error.injEq] at h; unfold isErr; omega
  split at h
  · rename_i m hm
    simp only [Except.error.injEq] at h
    subst h
    exact (errs _).1 _ _ _ _ _ _ hm
  · split at h
    · cases h
    · simp only [Except.error.injEq] at h; unfold isErr; omega
end Go.Proofs.YtbjidmijbphhgaaDoor
