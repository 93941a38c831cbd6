import Derived.Test.YtcdeikhfmllkdaaGreatDoorJp
import Derived.Test.YtcdeikhfmllkdaaGreatDoorJf
/- json's Put and Quote. -/
namespace Go.Proofs.YtcdeikhfmllkdaaGreatDoor
open Go.RowKit
set_option linter.unusedVariables false

/-- What Put tells. -/
def putM (l : List Val) : Bytes × Nat := if checkM l = 0 then (textM l, 0) else ([], checkM l)

theorem intM_ne {s : Bytes} (h : intM s = true) : s ≠ [] := by
  rintro rfl
  revert h
  decide
theorem checkM_zero {l : List Val} (h : checkM l = 0) : l.length ≤ 512 ∧ l ≠ [] ∧ shapeGo l 0 [] l = true ∧ dupGo l 0 [] l = false := by
  unfold checkM at h
  split at h
  · cases h
  · split at h
    · cases h
    · split at h
      · split at h
        · cases h
        · rename_i h1 h2 h3 h4
          exact ⟨by omega, h2, h3, by simpa using h4⟩
      · cases h
theorem shapeGo_one {l : List Val} : ∀ (r : List Val) (i : Nat) (o : List Nat), shapeGo l i o r = true → ∀ v ∈ r, oneM v = true
  | [], _, _, _, v, h => by simp at h
  | a :: r, i, o, hs, v, h => by
    simp only [shapeGo] at hs
    cases hn : nextM l o i a with
    | none => rw [hn] at hs; cases hs
    | some o' =>
      rw [hn] at hs
      simp only [Bool.and_eq_true] at hs
      rcases List.mem_cons.1 h with rfl | h
      · exact hs.1
      · exact shapeGo_one r (i + 1) o' hs.2 v h
theorem textM_ne {l : List Val} (h : checkM l = 0) : textM l ≠ [] := by
  obtain ⟨h1, h2, h3, _⟩ := checkM_zero h
  cases l with
  | nil => exact absurd rfl h2
  | cons v r =>
    have ho := shapeGo_one _ _ _ h3 v (by simp)
    unfold oneM at ho
    unfold textM
    simp only [valW, List.getElem?_cons_zero]
    by_cases k3 : v.kind = 3
    · have hv : intM v.text = true := by
        by_cases hd : Lib.validD v.name = false
        · simp [hd, k3] at ho
        · simpa [hd, k3] using ho
      simp [k3, intM_ne hv]
    · by_cases k6 : 6 < v.kind
      · simp [k6] at ho
      · repeat' split
        all_goals first
          | (simp; done)
          | (simp [quoteM]; done)
          | (exfalso; omega)

set_option maxRecDepth 100000 in
set_option maxHeartbeats 2000000 in
theorem put_any {w : World} (hT : Tabs w) {V : Value} {l : List Val} (L : Lst w V l) (hm : l.length ≤ maxLen) (hok : ∀ v ∈ l, v.ok) (hroom : wt l ≤ 140737488350000) :
    Calls Tryz.prog 27 #[V] w fun e w' => e = .returned (.tuple #[.string (str (putM l).1), .int .i64 (putM l).2]) ∧ Below w.heap.size w w' := by
  obtain ⟨p, cap, rfl⟩ := L.form
  have HC : Hid (Calls Tryz.prog 73 #[.slice p l.length cap] w fun e w' => e = .returned (.int .i64 (checkM l : Nat)) ∧ Below w.heap.size w w') := check_calls hT L hm hok
  have HL := Lib.hid L
  clear hT L hm hok
  by_cases h0 : checkM l = 0
  · have hne := textM_ne h0
    have hck := checkM_zero h0
    have hp : putM l = (textM l, 0) := by unfold putM; rw [if_pos h0]
    rw [hp]
    have hlen := (writes_len (2 * l.length + 1)).1
    have H0 := Lib.hid (And.intro h0 (And.intro hne hck))
    have hl5 := hck.1
    have hlp := List.length_pos_iff.2 hck.2.1
    clear h0 hne hck hp hlen
    go_enter Tryz.func27, Tryz.ntmps27
    go_wp2_with fail
    refine HC.out.mono ?_
    rintro e w1 ⟨rfl, hb⟩
    rw [H0.out.1]
    have W := wr_start HL.out hb
    have HW := Lib.hid W
    clear hb W
    go_wp2_with fail
    refine ((whyps (2 * l.length + 1)).1 w _ _ _ l 0 [] 140737488350000 HW.out hlp (by omega) (by omega) (fun v _ => by simp; omega) (Nat.le_refl _)).mono ?_
    rintro e w2 ⟨rfl, h2⟩
    have H2 := Lib.hid h2
    clear h2
    go_wp2_with fail
    refine (string_w headB57 rfl H2.out.wb (by simpa [textM] using H0.out.2.1)).mono ?_
    rintro e w3 ⟨rfl, h3⟩
    have H3 := Lib.hid h3
    clear h3
    go_wp2
    go_ret2
    exact ⟨by simp [textM], H2.out.below.trans H3.out⟩
  · have hp : putM l = ([], checkM l) := by unfold putM; rw [if_neg h0]
    rw [hp]
    have hne : ((checkM l : Int) != 0) = true := by rw [bne_iff_ne]; omega
    obtain ⟨c, hc⟩ : ∃ c, checkM l = c := ⟨_, rfl⟩
    rw [hc] at HC hne ⊢
    clear h0 hp hc
    go_enter Tryz.func27, Tryz.ntmps27
    go_wp2_with fail
    refine HC.out.mono ?_
    rintro e w1 ⟨rfl, hb⟩
    have HB := Lib.hid hb
    clear hb
    go_wp2
    go_ret2
    exact ⟨rfl, HB.out⟩

end Go.Proofs.YtcdeikhfmllkdaaGreatDoor
