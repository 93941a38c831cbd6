/- The document's Light, Kids, Get and Same, plainly; and json's Kids and Same. -/
import Derived.Test.YtbjidmijbphhgaaDoorLsP
import Derived.Test.YtbjidmijbphhgaaDoorJh
namespace Go.Proofs.YtbjidmijbphhgaaDoor
open Go.RowKit Go.Proofs.YtbjidmijbphhgaaDoorW.PrintWords PJsonKids
set_option linter.unusedVariables false
set_option linter.unusedSimpArgs false
def toV (x : S36) : Val := ⟨x.f0, x.f1.toNat, x.f2.data.toList, x.f3.data.toList⟩
/-- The bytes of a value. -/
def bulk (x : S36) : Nat := x.f2.size + x.f3.size
theorem rd_at (l : List S36) (i : Nat) (h : i < l.length) : rd_T36 l (i : Int) = l[i] := by
  unfold rd_T36
  rw [Int.toNat_natCast, List.getD_eq_getElem?_getD, List.getElem?_eq_getElem h]; rfl
theorem wrap_small (n : Int) (h0 : -9223372036854775808 ≤ n) (h : n < 9223372036854775808) : wrap64 n = n := by unfold wrap64; omega

/-! ### Light -/
theorem light_l0 (l : List S36) (hl : l.length ≤ 600) : ∀ (n i s : Nat), i + n = l.length → s ≤ 4000 →
    ∃ r, watchfireref24_Light.l0 (n + 1) l 4000 (s : Int) (i : Int) = some r ∧ (r = true → s + ((l.drop i).map bulk).sum ≤ 4000)
  | 0, i, s, h, hs => by
    refine ⟨true, ?_, fun _ => ?_⟩
    · rw [watchfireref24_Light.l0, if_neg (by omega)]
    · rw [List.drop_eq_nil_of_le (by omega)]; simpa using hs
  | n + 1, i, s, h, hs => by
    have hi : i < l.length := by omega
    rw [watchfireref24_Light.l0, if_pos (by omega), if_pos (by omega), rd_at l i hi, List.drop_eq_getElem_cons hi, wrap_small (4000 + 1) (by omega) (by omega), wrap_small ((i : Int) + 1) (by omega) (by omega)]
    have m1 : ∀ z : Nat, ∃ y : Nat, mn (z : Int) (4000 + 1) = (y : Int) ∧ y ≤ 4001 ∧ (y ≤ 4000 → y = z) := by
      intro z
      unfold mn
      split
      all_goals first | exact ⟨z, rfl, by omega, fun _ => rfl⟩ | exact ⟨4001, rfl, by omega, fun hh => by omega⟩
    obtain ⟨y, ey, y1, y2⟩ := m1 l[i].f2.size
    obtain ⟨z, ez, z1, z2⟩ := m1 l[i].f3.size
    rw [ey, ez, wrap_small ((s : Int) + y) (by omega) (by omega), wrap_small ((s : Int) + y + z) (by omega) (by omega)]
    by_cases c1 : (s : Int) + y > 4000
    · rw [if_pos c1]; exact ⟨false, rfl, fun h => by cases h⟩
    rw [if_neg c1]
    by_cases c2 : (s : Int) + y + z > 4000
    · rw [if_pos c2]; exact ⟨false, rfl, fun h => by cases h⟩
    rw [if_neg c2]
    obtain ⟨r, hr, hr2⟩ := light_l0 l hl n (i + 1) (s + y + z) (by omega) (by omega)
    refine ⟨r, ?_, fun hh => ?_⟩
    · rw [← hr]; congr 1
    · have := hr2 hh
      have e1 := y2 (by omega)
      have e2 := z2 (by omega)
      have eb : bulk l[i] = l[i].f2.size + l[i].f3.size := rfl
      simp only [List.map_cons, List.sum_cons]
      omega
theorem light_f (l : List S36) : ∃ k r, watchfireref24_Light.f k l 4000 = some r ∧ (r = true → l.length ≤ 600 ∧ (l.map bulk).sum ≤ 4000) := by
  by_cases h : l.length ≤ 600
  · obtain ⟨r, hr, hr2⟩ := light_l0 l h l.length 0 0 (by omega) (by omega)
    refine ⟨l.length + 1, r, ?_, fun hh => ⟨h, ?_⟩⟩
    · unfold watchfireref24_Light.f; rw [if_neg (by omega)]; exact hr
    · simpa using hr2 hh
  · exact ⟨0, false, by unfold watchfireref24_Light.f; rw [if_pos (by omega)], fun h => by cases h⟩

/-! ### Kids -/
theorem same_eq (l m : List S36) (hlm : l.length = m.length) (hl : l.length ≤ 600) : ∀ (n i : Nat), i + n = l.length → ∃ r, watchfireref24_Same.l0 (n + 1) l m (i : Int) = some r ∧ api_Value_37.l0 (n + 1) l m (l.length : Int) (i : Int) = some r
  | 0, i, h => ⟨true, by rw [watchfireref24_Same.l0, if_neg (by omega)], by rw [api_Value_37.l0, if_neg (by omega)]⟩
  | n + 1, i, h => by
    obtain ⟨r, h1, h2⟩ := same_eq l m hlm hl n (i + 1) (by omega)
    have w1 : wrap64 ((i : Int) + 1) = ((i + 1 : Nat) : Int) := wrap_small ((i : Int) + 1) (by omega) (by omega)
    have a1 : (i : Int) < (l.length : Int) := by omega
    have a2 : (0 : Int) ≤ (i : Int) := by omega
    have a3 : (i : Int) < (m.length : Int) := by omega
    have e1 := watchfireref24_Same.l0.eq_2 l m (i : Int) (n + 1)
    have e2 := api_Value_37.l0.eq_2 l m (l.length : Int) (i : Int) (n + 1)
    rw [if_pos a1, if_pos a2, if_pos a3, w1, h1] at e1
    rw [if_pos a1, if_pos a2, if_pos a1, if_pos a3, w1, h2] at e2
    by_cases c : (!((rd_T36 l (i : Int)).f0 == (rd_T36 m (i : Int)).f0) || (!((rd_T36 l (i : Int)).f1 == (rd_T36 m (i : Int)).f1) || (!((rd_T36 l (i : Int)).f2.toList == (rd_T36 m (i : Int)).f2.toList) || !((rd_T36 l (i : Int)).f3.toList == (rd_T36 m (i : Int)).f3.toList)))) = true
    · rw [if_pos c] at e1 e2
      exact ⟨false, e1, e2⟩
    · rw [if_neg c] at e1 e2
      exact ⟨r, e1, e2⟩
theorem same_f (l m : List S36) (hl : l.length ≤ 600) : ∃ k r, watchfireref24_Same.f k l m = some r ∧ json_Same.f k l m = some r := by
  by_cases h : l.length = m.length
  · obtain ⟨r, h1, h2⟩ := same_eq l m h hl l.length 0 (by omega)
    refine ⟨l.length + 1, r, ?_, ?_⟩
    · unfold watchfireref24_Same.f; rw [if_pos (by omega)]; exact h1
    · unfold json_Same.f api_Value_37.f; rw [if_pos (by omega)]
      exact (congrArg (fun o => Option.bind o fun t => some t) h2)
  · refine ⟨0, false, ?_, ?_⟩
    · unfold watchfireref24_Same.f; rw [if_neg (by omega)]
    · unfold json_Same.f api_Value_37.f; rw [if_neg (by omega)]; rfl
end Go.Proofs.YtbjidmijbphhgaaDoor
