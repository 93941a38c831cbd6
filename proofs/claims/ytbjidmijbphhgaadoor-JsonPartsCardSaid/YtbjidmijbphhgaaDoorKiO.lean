/- The arguments of the laws over values, opened; and what reads for the print reads for json's walks. -/
import Derived.Test.YtbjidmijbphhgaaDoorKdL
import Derived.Test.YtbjidmijbphhgaaDoorOpens
namespace Go.Proofs.YtbjidmijbphhgaaDoor
open Go.RowKit Go.Proofs.YtbjidmijbphhgaaDoorW.PrintWords PJsonKids Go.Proofs.YtbjidmijbphhgaaDoorOp
set_option linter.unusedVariables false

/-- A value as it may come. -/
def okV (x : S36) : Prop := (Lit.int .i64 x.f0).wf = true ∧ (Lit.int .u8 x.f1).wf = true ∧ x.f2.size ≤ maxLen ∧ x.f3.size ≤ maxLen
set_option maxRecDepth 100000 in
theorem opens_value : Opens Tryd.prog 36 k36 okV := by
  have h := opens_struct Tryd.underlying36 (by kernel_rfl) (OpensF.cons rfl (by kernel_rfl) (opens_int Tryd.underlying3) rfl (OpensF.cons rfl (by kernel_rfl) (opens_int Tryd.underlying5) rfl
    (OpensF.cons rfl (by kernel_rfl) (opens_string Tryd.underlying9) rfl (OpensF.one rfl (by kernel_rfl) (opens_string Tryd.underlying9)))))
  exact opens_iso h (fun x : S36 => (x.f0, x.f1, x.f2, x.f3)) (fun t => ⟨t.1, t.2.1, t.2.2.1, t.2.2.2⟩) (fun _ => rfl)
set_option maxRecDepth 100000 in
theorem opens_values : Opens Tryd.prog 22 (Kd.slice 36 k36) (fun xs => (∀ x ∈ xs, okV x) ∧ xs.length ≤ maxLen) := opens_slice Tryd.underlying22 (by kernel_rfl) opens_value
set_option maxRecDepth 100000 in
theorem opens_spot : Opens Tryd.prog 45 (Kd.pair (Kd.int .i64) Kd.string) (fun x => (Lit.int .i64 x.1).wf = true ∧ x.2.size ≤ maxLen) := by
  have h := opens_struct Tryd.underlying45 (by kernel_rfl) (OpensF.cons rfl (by kernel_rfl) (opens_int Tryd.underlying3) rfl (OpensF.one rfl (by kernel_rfl) (opens_string Tryd.underlying9)))
  exact h
theorem spot_arg {H : Type} {enc : TypeId × Value → H} {w : World} {base : Nat} {sp : Nat → Bool} {held : Bool} {v : Value} {x : DataW H} {ps : List MemPlace} (hv : ∃ cs, v = .agg cs ∧ cs.size = Tryd.prog.cellsOf 45)
    (hx : DataW.Trod enc Tryd.prog w base sp held 45 v x ps) : ∃ (i : Int) (s : ByteArray), v = .agg #[.int .i64 i, .string s] ∧ s.size ≤ maxLen := by
  obtain ⟨cs, rfl, -⟩ := hv
  obtain ⟨fuel, hf⟩ := hx
  obtain ⟨⟨i, s⟩, hK, -, hs⟩ := opens_spot.opened hf
  obtain ⟨_, _, he, rfl, rfl⟩ := hK
  have he' : cs.toList = [.int .i64 i, .string s] := he
  exact ⟨i, s, by rw [← Array.toArray_toList (xs := cs), he'], hs⟩

theorem okV_kind {x : S36} (h : okV x) : 0 ≤ x.f1 ∧ x.f1 < 256 := by
  have := h.2.1
  simp [Lit.wf, IntKind.min, IntKind.max, IntKind.signed, IntKind.bits] at this
  omega
theorem toV_cells {x : S36} (h : okV x) : (toV x).cells = [.int .i64 x.f0, .int .u8 x.f1, .string x.f2, .string x.f3] := by
  have := okV_kind h
  simp only [toV, Val.cells, str_of, Int.toNat_of_nonneg this.1]
theorem lst_of {w : World} {A : Option Addr} {l : List S36} (h : Kd.C k36 w A l.length l) (hk : ∀ x ∈ l, okV x) (cap : Nat) : Lst w (.slice A l.length cap) (l.map toV) := by
  refine ⟨⟨A, cap, by simp⟩, fun hne => ?_⟩
  have hp : 0 < l.length := by
    rcases l with _ | ⟨a, l⟩
    · exact absurd rfl hne
    · simp
  obtain ⟨ad, rfl, -⟩ := at_T36 h 0 (by omega) (by omega)
  refine ⟨ad, l.length, cap, rfl, fun j u hj => ?_⟩
  have hj4 : j < (l.map toV).length * 4 := by
    rw [← vcells_len]
    exact (List.getElem?_eq_some_iff.1 hj).1
  rw [List.length_map] at hj4
  have hi : j / 4 < l.length := by omega
  have hv : (l.map toV)[j / 4]? = some (toV l[j / 4]) := by simp [hi]
  have he := vcells_get hv (j := j % 4) (by omega)
  rw [show j / 4 * 4 + j % 4 = j by omega, hj, toV_cells (hk _ (List.getElem_mem hi))] at he
  obtain ⟨ad', e, c0, c1, c2, c3⟩ := at_T36 h ((j / 4 : Nat) : Int) (by omega) (by omega)
  cases e
  rw [rd_at l (j / 4) hi, Int.toNat_natCast] at c0 c1 c2 c3
  have ha : ad.add j = ⟨(ad.add (j / 4 * 4)).block, (ad.add (j / 4 * 4)).off + j % 4, none⟩ ∨ (j % 4 = 0 ∧ ad.add j = ad.add (j / 4 * 4)) := by
    by_cases h0 : j % 4 = 0
    · exact .inr ⟨h0, by congr 1; omega⟩
    · left
      rw [← add_field _ _ (j % 4) (by omega)]
      congr 1; omega
  have hr : j % 4 = 0 ∨ j % 4 = 1 ∨ j % 4 = 2 ∨ j % 4 = 3 := by omega
  rcases hr with hr | hr | hr | hr
  · rw [hr] at he
    rcases ha with ha | ⟨_, ha⟩
    · rw [show j = j / 4 * 4 by omega]
      rw [Option.some.inj he]; exact c0
    · rw [ha, Option.some.inj he]; exact c0
  all_goals
    rcases ha with ha | ⟨h0, _⟩
    · rw [ha, hr]
      rw [hr] at he
      rw [Option.some.inj he]
      first | exact c1 | exact c2 | exact c3
    · omega
end Go.Proofs.YtbjidmijbphhgaaDoor
