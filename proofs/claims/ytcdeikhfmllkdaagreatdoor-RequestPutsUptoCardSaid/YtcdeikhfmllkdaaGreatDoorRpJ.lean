/- request: strconv's two, and what the law's parts answer. -/
import Derived.Test.YtcdeikhfmllkdaaGreatDoorRpI
import Derived.Test.YtcdeikhfmllkdaaGreatDoorRpG
import Derived.Test.YtcdeikhfmllkdaaGreatDoorRpD
import Derived.Test.YtcdeikhfmllkdaaGreatDoorRwG
import Derived.Test.YtcdeikhfmllkdaaGreatDoorShJ
namespace Go.Proofs.YtcdeikhfmllkdaaGreatDoor
open Go.RowKit Go.Sort
set_option linter.unusedVariables false
set_option linter.unusedSimpArgs false
theorem itoa_ok {w : World} (hI : TabI w) : ItoaOk w := by
  intro n hn
  obtain ⟨h0, h1⟩ := wf_i64' hn
  refine (Any.strconv_Itoa Tryz.laysItoa n h0 h1 w hI).mono ?_
  rintro e w' ⟨rfl, k, os, rfl⟩
  exact ⟨rfl, below_grow _ _ _⟩
theorem atoi_ok (w : World) : AtoiOk w := by
  intro n hn
  obtain ⟨h0, h1⟩ := wf_i64' hn
  have hz := itoa_len n h0 h1
  refine (Any.strconv_Atoi_ok Tryz.laysAtoi (str (Lib.itoa n)) (by rw [str_size]; omega) n (by rw [str_toList]; exact atoi_itoa n h0 h1) w).mono ?_
  rintro e w' ⟨he, hw⟩
  refine ⟨he, ?_⟩
  rcases hw with rfl | ⟨t, rfl⟩
  · exact Below.refl _ _
  · exact Lib.bytesWorld_below _ _ _
theorem alert_ok (w : World) {l : List AlM} (K : FewAl l) : AlertOk w l := by
  intro w1 r p V hb R hp
  obtain ⟨j, hj⟩ := List.getElem?_of_mem hp
  have hjl : j < l.length := by rw [← places_len l 1]; exact (List.getElem?_eq_some_iff.1 hj).1
  have hx : l[j]? = some l[j] := List.getElem?_eq_getElem hjl
  have hm := List.getElem_mem hjl
  have A := (al_at hx hj).2
  have hl := K.len
  refine (ralert_any R (by omega) (fun w2 _ => atoi_ok w2) A (K.ok _ hm).s0 (K.ok _ hm).s1).mono ?_
  rintro e w' ⟨⟨pL, n, cL, rfl⟩, hb'⟩
  exact ⟨⟨pL, n, cL, _, _, rfl⟩, hb'⟩
theorem als_ok {l : List AlM} (K : FewAl l) : AlsOk l := ⟨K.few, K.labs, fun a ha => (K.ok a ha).s0, fun a ha => (K.ok a ha).s1⟩
end Go.Proofs.YtcdeikhfmllkdaaGreatDoor
