/- The document's Light, Kids, Get and Same, plainly; and json's Kids and Same. -/
import Derived.Test.YtbjidmijbphhgaaDoorPJsonKidsx2
import Derived.Test.YtbjidmijbphhgaaDoorPJsonKidsx3
import Derived.Test.YtbjidmijbphhgaaDoorPJsonKidsx4
import Derived.Test.YtbjidmijbphhgaaDoorJh
namespace Go.Proofs.YtbjidmijbphhgaaDoor
open Go.RowKit Go.Proofs.YtbjidmijbphhgaaDoorW.PrintWords PJsonKids
set_option linter.unusedVariables false
set_option linter.unusedSimpArgs false

def toV (x : S36) : Val := ⟨x.f0, x.f1.toNat, x.f2.data.toList, x.f3.data.toList⟩
/-- The bytes of a value. -/
def bulk (x : S36) : Nat := x.f2.size + x.f3.size
theorem rd_at (l : List S36) (i : Nat) (h : i < l.length) : rd_T36 l (i : Int) = l[i] := by
  unfold rd_T36
  rw [Int.toNat_natCast, List.getD_eq_getElem?_getD, List.getElem?_eq_getElem h]; rfl
theorem wrap_small (n : Int) (h0 : -9223372036854775808 ≤ n) (h : n < 9223372036854775808) : wrap64 n = n := by unfold wrap64; omega

/-! ### Light -/
theorem light_l0 (l : List S36) (hl : l.length ≤ 600) : ∀ (n i s : Nat), i + n = l.length → s ≤ 4000 →
    ∃ r, watchfireref24_Light.l0 (n + 1) l 4000 (s : Int) (i : Int) = some r ∧ (r = true → s + ((l.drop i).map bulk).sum ≤ 4000)
  | 0, i, s, h, hs => by
    refine ⟨true, ?_, fun _ => ?_⟩
    · rw [watchfireref24_Light.l0, if_neg (by omega)]
    · rw [List.drop_eq_nil_of_le (by omega)]; simpa using hs
  | n + 1, i, s, h, hs => by
    have hi : i < l.length := by omega
    rw [watchfireref24_Light.l0, if_pos (by omega), if_pos (by omega), rd_at l i hi, List.drop_eq_getElem_cons hi, wrap_small (4000 + 1) (by omega) (by omega), wrap_small ((i : Int) + 1) (by omega) (by omega)]
    have m1 : ∀ z : Nat, ∃ y : Nat, mn (z : Int) (4000 + 1) = (y : Int) ∧ y ≤ 4001 ∧ (y ≤ 4000 → y = z) := by
      intro z
      unfold mn
      split
      all_goals first | exact ⟨z, rfl, by omega, fun _ => rfl⟩ | exact ⟨4001, rfl, by omega, fun hh => by omega⟩
    obtain ⟨y, ey, y1, y2⟩ := m1 l[i].f2.size
    obtain ⟨z, ez, z1, z2⟩ := m1 l[i].f3.size
    rw [ey, ez, wrap_small ((s : Int) + y) (by omega) (by omega), wrap_small ((s : Int) + y + z) (by omega) (by omega)]
    by_cases c1 : (s : Int) + y > 4000
    · rw [if_pos c1]; exact ⟨false, rfl, fun h => by cases h⟩
    rw [if_neg c1]
    by_cases c2 : (s : Int) + y + z > 4000
    · rw [if_pos c2]; exact ⟨false, rfl, fun h => by cases h⟩
    rw [if_neg c2]
    obtain ⟨r, hr, hr2⟩ := light_l0 l hl n (i + 1) (s + y + z) (by omega) (by omega)
    refine ⟨r, ?_, fun hh => ?_⟩
    · rw [← hr]; congr 1
    · have := hr2 hh
      have e1 := y2 (by omega)
      have e2 := z2 (by omega)
      have eb : bulk l[i] = l[i].f2.size + l[i].f3.size := rfl
      simp only [List.map_cons, List.sum_cons]
      omega
theorem light_f (l : List S36) : ∃ k r, watchfireref24_Light.f k l 4000 = some r ∧ (r = true → l.length ≤ 600 ∧ (l.map bulk).sum ≤ 4000) := by
  by_cases h : l.length ≤ 600
  · obtain ⟨r, hr, hr2⟩ := light_l0 l h l.length 0 0 (by omega) (by omega)
    refine ⟨l.length + 1, r, ?_, fun hh => ⟨h, ?_⟩⟩
    · unfold watchfireref24_Light.f; rw [if_neg (by omega)]; exact hr
    · simpa using hr2 hh
  · exact ⟨0, false, by unfold watchfireref24_Light.f; rw [if_pos (by omega)], fun h => by cases h⟩

/-! ### Kids -/
def kidsFrom (l : List S36) (a : Int) : Nat → Nat → List Int
  | 0, _ => []
  | n + 1, i => if (rd_T36 l (i : Int)).f0 = a then (i : Int) :: kidsFrom l a n (i + 1) else kidsFrom l a n (i + 1)
theorem kids_ref (l : List S36) (a : Int) (hl : l.length ≤ 600) : ∀ (n i : Nat) (acc : List Int), i + n = l.length → acc.length ≤ i →
    watchfireref24_Kids.l0 (n + 1) l a acc (i : Int) = some (acc ++ kidsFrom l a n i)
  | 0, i, acc, h, ha => by rw [watchfireref24_Kids.l0, if_neg (by omega)]; simp [kidsFrom]
  | n + 1, i, acc, h, ha => by
    rw [watchfireref24_Kids.l0, if_pos (by omega), if_pos (by omega), wrap_small ((i : Int) + 1) (by omega) (by omega)]
    unfold kidsFrom
    by_cases c : (rd_T36 l (i : Int)).f0 = a
    · rw [if_pos c, if_pos c, if_pos (by omega)]
      have := kids_ref l a hl n (i + 1) (acc ++ [(i : Int)]) (by omega) (by simp; omega)
      rw [List.append_assoc] at this
      exact this
    · rw [if_neg c, if_neg c]
      exact kids_ref l a hl n (i + 1) acc (by omega) (by omega)
theorem kids_json (l : List S36) (a : Int) (hl : l.length ≤ 600) : ∀ (n i : Nat) (acc : List Int), i + n = l.length → acc.length ≤ i →
    json_Kids.l0 (n + 1) a acc l (l.length : Int) (i : Int) = some (acc ++ kidsFrom l a n i)
  | 0, i, acc, h, ha => by rw [json_Kids.l0, if_neg (by omega)]; simp [kidsFrom]
  | n + 1, i, acc, h, ha => by
    rw [json_Kids.l0, if_pos (by omega), if_pos (by omega), if_pos (by omega), wrap_small ((i : Int) + 1) (by omega) (by omega)]
    unfold kidsFrom
    by_cases c : (rd_T36 l (i : Int)).f0 = a
    · rw [if_pos c, if_pos c, if_pos (by omega)]
      have := kids_json l a hl n (i + 1) (acc ++ [(i : Int)]) (by omega) (by simp; omega)
      rw [List.append_assoc] at this
      exact this
    · rw [if_neg c, if_neg c]
      exact kids_json l a hl n (i + 1) acc (by omega) (by omega)
def kidsM (l : List S36) (a : Int) : List Int := kidsFrom l a l.length 0
theorem kids_ref_f (l : List S36) (a : Int) (hl : l.length ≤ 600) : watchfireref24_Kids.f (l.length + 1) l a = some (kidsM l a) := kids_ref l a hl l.length 0 [] (by omega) (by simp)
theorem kids_json_f (l : List S36) (a : Int) (hl : l.length ≤ 600) : json_Kids.f (l.length + 1) l a = some (kidsM l a) := kids_json l a hl l.length 0 [] (by omega) (by simp)
theorem kidsFrom_len (l : List S36) (a : Int) : ∀ n i, (kidsFrom l a n i).length ≤ n
  | 0, i => by simp [kidsFrom]
  | n + 1, i => by
    have := kidsFrom_len l a n (i + 1)
    unfold kidsFrom
    split <;> simp <;> omega

/-! ### Get -/
/-- The first place that has the name. -/
def pickL (l : List S36) (name : ByteArray) : List Int → Option Int
  | [] => none
  | k :: ks => if (rd_T36 l k).f2.toList = name.toList then some k else pickL l name ks
def outG : Option Int → Int × Bool
  | some k => (k, true)
  | none => (0, false)
theorem get_l0 (l : List S36) (name : ByteArray) (ks : List Int) (hk : ∀ k ∈ ks, 0 ≤ k ∧ k < (l.length : Int)) (hlen : ks.length ≤ 600) : ∀ (n j : Nat), j + n = ks.length →
    watchfireref24_Get.l0 (n + 1) l name ks (j : Int) = some (outG (pickL l name (ks.drop j)))
  | 0, j, h => by rw [watchfireref24_Get.l0, if_neg (by omega), List.drop_eq_nil_of_le (by omega)]; rfl
  | n + 1, j, h => by
    have hj : j < ks.length := by omega
    have hr : rd ks (j : Int) = ks[j] := by
      unfold rd
      rw [Int.toNat_natCast, List.getD_eq_getElem?_getD, List.getElem?_eq_getElem hj]; rfl
    have hb := hk ks[j] (List.getElem_mem hj)
    rw [watchfireref24_Get.l0, if_pos (by omega), if_pos (by omega), hr, if_pos hb.1, if_pos hb.2, List.drop_eq_getElem_cons hj, wrap_small ((j : Int) + 1) (by omega) (by omega)]
    unfold pickL
    by_cases c : (rd_T36 l ks[j]).f2.toList = name.toList
    · rw [if_pos c, if_pos c]; rfl
    · rw [if_neg c, if_neg c]
      exact get_l0 l name ks hk hlen n (j + 1) (by omega)
theorem kidsFrom_in (l : List S36) (a : Int) : ∀ n i, i + n = l.length → ∀ k ∈ kidsFrom l a n i, 0 ≤ k ∧ k < (l.length : Int)
  | 0, i, _, k, hk => by simp [kidsFrom] at hk
  | n + 1, i, h, k, hk => by
    unfold kidsFrom at hk
    split at hk
    · rcases List.mem_cons.1 hk with rfl | hk
      · omega
      · exact kidsFrom_in l a n (i + 1) (by omega) k hk
    · exact kidsFrom_in l a n (i + 1) (by omega) k hk
theorem pick_getM (l : List S36) (a : Int) (name : Bytes) : ∀ n i, i + n = l.length →
    pickL l (str name) (kidsFrom l a n i) = ((((l.drop i).map toV).findIdx? (fun v => v.parent = a ∧ v.name = name)).map fun k => ((i + k : Nat) : Int))
  | 0, i, h => by rw [List.drop_eq_nil_of_le (by omega)]; simp [kidsFrom, pickL]
  | n + 1, i, h => by
    have hi : i < l.length := by omega
    have hn : ((rd_T36 l (i : Int)).f2.toList = (str name).toList) = ((toV l[i]).name = name) := by
      rw [rd_at l i hi, ByteArray.toList_eq, ByteArray.toList_eq, str_toList]; rfl
    have ih := pick_getM l a name n (i + 1) (by omega)
    rw [List.drop_eq_getElem_cons hi, List.map_cons, List.findIdx?_cons]
    unfold kidsFrom
    have hp : (rd_T36 l (i : Int)).f0 = (toV l[i]).parent := by rw [rd_at l i hi]; rfl
    by_cases c : (rd_T36 l (i : Int)).f0 = a
    · rw [if_pos c]
      unfold pickL
      by_cases d : (rd_T36 l (i : Int)).f2.toList = (str name).toList
      · rw [if_pos d, if_pos (by rw [hp] at c; rw [hn] at d; simp [c, d])]; simp
      · rw [if_neg d, if_neg (by rw [hn] at d; simp [d]), ih, Option.map_map]
        congr 1; funext k; simp; omega
    · rw [if_neg c, if_neg (by rw [hp] at c; simp [c]), ih, Option.map_map]
      congr 1; funext k; simp; omega
def outM : Option Nat → Int × Bool
  | some k => ((k : Int), true)
  | none => (0, false)
theorem get_ref_f (l : List S36) (a : Int) (name : Bytes) (hl : l.length ≤ 600) : watchfireref24_Get.f (l.length + 1) l a (str name) = some (outM (getM (l.map toV) a name)) := by
  unfold watchfireref24_Get.f
  rw [kids_ref_f l a hl, Option.bind_some]
  have hln := kidsFrom_len l a l.length 0
  have hmono : ∀ m n : Nat, n ≤ m → ∀ r, watchfireref24_Get.l0 (n + 1) l (str name) (kidsM l a) 0 = some r → watchfireref24_Get.l0 (m + 1) l (str name) (kidsM l a) 0 = some r := by
    intro m n hmn r hr
    induction m with
    | zero => obtain rfl : n = 0 := by omega
              exact hr
    | succ m ih =>
      by_cases e : n = m + 1
      · subst e; exact hr
      · exact watchfireref24_Get.mono_l _ _ _ _ _ _ (ih (by omega))
  have h := get_l0 l (str name) (kidsM l a) (kidsFrom_in l a l.length 0 (by omega)) (by unfold kidsM; omega) (kidsM l a).length 0 (by omega)
  refine hmono l.length _ hln _ ?_
  refine h.trans ?_
  rw [List.drop_zero]
  unfold kidsM
  rw [pick_getM l a name l.length 0 (by omega), List.drop_zero]
  unfold getM
  cases (l.map toV).findIdx? (fun v => v.parent = a ∧ v.name = name) <;> simp [outG, outM]

/-! ### Same -/
theorem same_eq (l m : List S36) (hlm : l.length = m.length) (hl : l.length ≤ 600) : ∀ (n i : Nat), i + n = l.length → ∃ r, watchfireref24_Same.l0 (n + 1) l m (i : Int) = some r ∧ api_Value_37.l0 (n + 1) l m (l.length : Int) (i : Int) = some r
  | 0, i, h => ⟨true, by rw [watchfireref24_Same.l0, if_neg (by omega)], by rw [api_Value_37.l0, if_neg (by omega)]⟩
  | n + 1, i, h => by
    obtain ⟨r, h1, h2⟩ := same_eq l m hlm hl n (i + 1) (by omega)
    have w1 : wrap64 ((i : Int) + 1) = ((i + 1 : Nat) : Int) := wrap_small ((i : Int) + 1) (by omega) (by omega)
    have a1 : (i : Int) < (l.length : Int) := by omega
    have a2 : (0 : Int) ≤ (i : Int) := by omega
    have a3 : (i : Int) < (m.length : Int) := by omega
    have e1 := watchfireref24_Same.l0.eq_2 l m (i : Int) (n + 1)
    have e2 := api_Value_37.l0.eq_2 l m (l.length : Int) (i : Int) (n + 1)
    rw [if_pos a1, if_pos a2, if_pos a3, w1, h1] at e1
    rw [if_pos a1, if_pos a2, if_pos a1, if_pos a3, w1, h2] at e2
    by_cases c : (!((rd_T36 l (i : Int)).f0 == (rd_T36 m (i : Int)).f0) || (!((rd_T36 l (i : Int)).f1 == (rd_T36 m (i : Int)).f1) || (!((rd_T36 l (i : Int)).f2.toList == (rd_T36 m (i : Int)).f2.toList) || !((rd_T36 l (i : Int)).f3.toList == (rd_T36 m (i : Int)).f3.toList)))) = true
    · rw [if_pos c] at e1 e2
      exact ⟨false, e1, e2⟩
    · rw [if_neg c] at e1 e2
      exact ⟨r, e1, e2⟩
theorem same_f (l m : List S36) (hl : l.length ≤ 600) : ∃ k r, watchfireref24_Same.f k l m = some r ∧ json_Same.f k l m = some r := by
  by_cases h : l.length = m.length
  · obtain ⟨r, h1, h2⟩ := same_eq l m h hl l.length 0 (by omega)
    refine ⟨l.length + 1, r, ?_, ?_⟩
    · unfold watchfireref24_Same.f; rw [if_pos (by omega)]; exact h1
    · unfold json_Same.f api_Value_37.f; rw [if_pos (by omega)]
      exact (congrArg (fun o => Option.bind o fun t => some t) h2)
  · refine ⟨0, false, ?_, ?_⟩
    · unfold watchfireref24_Same.f; rw [if_neg (by omega)]
    · unfold json_Same.f api_Value_37.f; rw [if_neg (by omega)]; rfl
end Go.Proofs.YtbjidmijbphhgaaDoor
