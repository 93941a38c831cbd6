import Derived.Test.YtbjidmijbphhgaaDoorJp
import Derived.Test.YtbjidmijbphhgaaDoorJf
/- json's Put and Quote. -/
namespace Go.Proofs.YtbjidmijbphhgaaDoor
open Go.RowKit
set_option linter.unusedVariables false

/-- What Put tells. -/
def putM (l : List Val) : Bytes × Nat := if checkM l = 0 then (textM l, 0) else ([], checkM l)

theorem intM_ne {s : Bytes} (h : intM s = true) : s ≠ [] := by
  rintro rfl
  revert h
  decide
theorem checkM_zero {l : List Val} (h : checkM l = 0) : l.length ≤ 512 ∧ l ≠ [] ∧ shapeGo l 0 [] l = true ∧ dupGo l 0 [] l = false := by
  unfold checkM at h
  split at h
  · cases h
  · split at h
    · cases h
    · split at h
      · split at h
        · cases h
        · rename_i h1 h2 h3 h4
          exact ⟨by omega, h2, h3, by simpa using h4⟩
      · cases h
theorem shapeGo_one {l : List Val} : ∀ (r : List Val) (i : Nat) (o : List Nat), shapeGo l i o r = true → ∀ v ∈ r, oneM v = true
  | [], _, _, _, v, h => by simp at h
  | a :: r, i, o, hs, v, h => by
    simp only [shapeGo] at hs
    cases hn : nextM l o i a with
    | none => rw [hn] at hs; cases hs
    | some o' =>
      rw [hn] at hs
      simp only [Bool.and_eq_true] at hs
      rcases List.mem_cons.1 h with rfl | h
      · exact hs.1
      · exact shapeGo_one r (i + 1) o' hs.2 v h
theorem textM_ne {l : List Val} (h : checkM l = 0) : textM l ≠ [] := by
  obtain ⟨h1, h2, h3, _⟩ := checkM_zero h
  cases l with
  | nil => exact absurd rfl h2
  | cons v r =>
    have ho := shapeGo_one _ _ _ h3 v (by simp)
    unfold oneM at ho
    unfold textM
    simp only [valW, List.getElem?_cons_zero]
    by_cases k3 : v.kind = 3
    · have hv : intM v.text = true := by
        by_cases hd : Lib.validD v.name = false
        · simp [hd, k3] at ho
        · simpa [hd, k3] using ho
      simp [k3, intM_ne hv]
    · by_cases k6 : 6 < v.kind
      · simp [k6] at ho
      · repeat' split
        all_goals first
          | (simp; done)
          | (simp [quoteM]; done)
          | (exfalso; omega)

set_option maxRecDepth 100000 in
set_option maxHeartbeats 2000000 in
theorem put_any {w : World} (hT : Tabs w) {V : Value} {l : List Val} (L : Lst w V l) (hm : l.length ≤ maxLen) (hok : ∀ v ∈ l, v.ok) (hroom : wt l ≤ 140737488350000) :
    Calls Tryd.prog 11 #[V] w fun e w' => e = .returned (.tuple #[.string (str (putM l).1), .int .i64 (putM l).2]) ∧ Below w.heap.size w w' := by
  obtain ⟨p, cap, rfl⟩ := L.form
  have HC : Hid (Calls Tryd.prog 13 #[.slice p l.length cap] w fun e w' => e = .returned (.int .i64 (checkM l : Nat)) ∧ Below w.heap.size w w') := check_calls hT L hm hok
  have HL := Lib.hid L
  clear hT L hm hok
  by_cases h0 : checkM l = 0
  · have hne := textM_ne h0
    have hck := checkM_zero h0
    have hp : putM l = (textM l, 0) := by unfold putM; rw [if_pos h0]
    rw [hp]
    have hlen := (writes_len (2 * l.length + 1)).1
    have H0 := Lib.hid (And.intro h0 (And.intro hne hck))
    have hl5 := hck.1
    have hlp := List.length_pos_iff.2 hck.2.1
    clear h0 hne hck hp hlen
    go_enter Tryd.func11, Tryd.ntmps11
    go_wp2_with fail
    refine HC.out.mono ?_
    rintro e w1 ⟨rfl, hb⟩
    rw [H0.out.1]
    have W := wr_start HL.out hb
    have HW := Lib.hid W
    clear hb W
    go_wp2_with fail
    refine ((whyps (2 * l.length + 1)).1 w _ _ _ l 0 [] 140737488350000 HW.out hlp (by omega) (by omega) (fun v _ => by simp; omega) (Nat.le_refl _)).mono ?_
    rintro e w2 ⟨rfl, h2⟩
    have H2 := Lib.hid h2
    clear h2
    go_wp2_with fail
    refine (string_w headB57 rfl H2.out.wb (by simpa [textM] using H0.out.2.1)).mono ?_
    rintro e w3 ⟨rfl, h3⟩
    have H3 := Lib.hid h3
    clear h3
    go_wp2
    go_ret2
    exact ⟨by simp [textM], H2.out.below.trans H3.out⟩
  · have hp : putM l = ([], checkM l) := by unfold putM; rw [if_neg h0]
    rw [hp]
    have hne : ((checkM l : Int) != 0) = true := by rw [bne_iff_ne]; omega
    obtain ⟨c, hc⟩ : ∃ c, checkM l = c := ⟨_, rfl⟩
    rw [hc] at HC hne ⊢
    clear h0 hp hc
    go_enter Tryd.func11, Tryd.ntmps11
    go_wp2_with fail
    refine HC.out.mono ?_
    rintro e w1 ⟨rfl, hb⟩
    have HB := Lib.hid hb
    clear hb
    go_wp2
    go_ret2
    exact ⟨rfl, HB.out⟩

/-- What Quote tells. -/
def quoteP (s : Bytes) : Bytes × Nat := if Lib.validD s then (quoteM s, 0) else ([], 4)

set_option maxRecDepth 100000 in
set_option maxHeartbeats 2000000 in
theorem Quote_any {w : World} (hT : Tabs w) (s : Bytes) (hs : 6 * s.length + 2 ≤ 140737488355328) :
    Calls Tryd.prog 15 #[.string (str s)] w fun e w' => e = .returned (.tuple #[.string (str (quoteP s).1), .int .i64 (quoteP s).2]) ∧ Below w.heap.size w w' := by
  have HT := Lib.hid hT
  clear hT
  cases hv : Lib.validD s with
  | false =>
    have hp : quoteP s = ([], 4) := by simp [quoteP, hv]
    rw [hp]
    have HV := Lib.hid hv
    clear hv hp
    go_enter Tryd.func15, Tryd.ntmps15
    go_wp2_with fail
    refine (valid_any HT.out (by unfold maxLen; omega)).mono ?_
    rw [HV.out]
    rintro e w1 ⟨rfl, hb⟩
    have HB := Lib.hid hb
    clear hb
    go_wp2
    go_ret2
    exact ⟨rfl, HB.out⟩
  | true =>
    have hp : quoteP s = (quoteM s, 0) := by simp [quoteP, hv]
    rw [hp]
    have HV := Lib.hid hv
    clear hv hp
    go_enter Tryd.func15, Tryd.ntmps15
    go_wp2_with fail
    refine (valid_any HT.out (by unfold maxLen; omega)).mono ?_
    rw [HV.out]
    rintro e w1 ⟨rfl, hb⟩
    have hwb : Wb (w1.alloc (.cells #[.pointer none, .slice none 0 0] 55)) w1.heap.size w.heap.size 55 [] [] :=
      ⟨.pointer none, .slice none 0 0, .inl rfl, hb.size, heap_alloc_new _ _, World.ownsRowF_nil _ _ _ _, by simp [Value.ownBlock]⟩
    have HB := Lib.hid (And.intro (hb.trans ((Below.refl _ _).alloc hb.size (.cells #[.pointer none, .slice none 0 0] 55))) hwb)
    have hsz := hb.size
    clear hb hwb
    go_wp2_with fail
    refine (quote_w headB55 rfl HB.out.2 s (by simp; omega) (by simp; omega)).mono ?_
    rintro e w2 ⟨rfl, h2, f2⟩
    have H2 := Lib.hid (And.intro h2 f2)
    clear h2 f2
    go_wp2_with fail
    refine (string_w headB55 rfl H2.out.1 (by simp [quoteM])).mono ?_
    rintro e w3 ⟨rfl, h3⟩
    have H3 := Lib.hid h3
    clear h3
    go_wp2
    go_ret2
    exact ⟨by simp, (HB.out.1.trans H2.out.2.below).trans H3.out⟩
end Go.Proofs.YtbjidmijbphhgaaDoor

/- What every right program reads and writes. -/
namespace Go.Proofs.YtbjidmijbphhgaaDoor
open Go.RowKit
set_option linter.unusedVariables false

def L0 : List Val := [⟨-1, 6, [], []⟩, ⟨0, 5, [97], []⟩, ⟨1, 3, [], [49]⟩, ⟨1, 4, [], [195, 169]⟩]
theorem read0 : readM rd0 = .ok L0 := by kernel_rfl
theorem put0 : putM L0 = ([123, 34, 97, 34, 58, 91, 49, 44, 34, 195, 169, 34, 93, 125], 0) := by kernel_rfl
theorem read1 : readM [48, 49] = .error 4 := by kernel_rfl
theorem read2 : readM [123, 34, 97, 34, 58, 49, 44, 34, 97, 34, 58, 50, 125] = .error 7 := by kernel_rfl
theorem ok0 : ∀ v ∈ L0, v.ok := by
  intro v hv
  simp only [L0, List.mem_cons, List.not_mem_nil, or_false] at hv
  rcases hv with rfl | rfl | rfl | rfl <;> exact ⟨⟨by unfold maxLen; simp, by unfold maxLen; simp, by simp⟩, by decide⟩

set_option maxRecDepth 100000 in
set_option maxHeartbeats 2000000 in
theorem awake_any {w : World} (hT : Tabs w) : Calls Tryd.prog 10 #[] w fun e w' => e = .returned (.bool true) ∧ Below w.heap.size w w' := by
  have HT := Lib.hid hT
  clear hT
  go_enter Tryd.func10, Tryd.ntmps10
  go_wp2_with fail
  have h0 := read_any HT.out (s := rd0) (by unfold maxLen; simp [rd0])
  rw [read0] at h0
  refine h0.mono ?_
  clear h0
  rintro e w1 ⟨b1, V, rfl, own, hl⟩
  obtain ⟨p, cap, rfl⟩ := own.form
  have H1 := Lib.hid (And.intro b1 own.lst)
  clear b1 own hl
  go_wp2_with fail
  have h1 := put_any (tabs_below HT.out H1.out.1) H1.out.2 (by unfold maxLen; simp [L0]) ok0 (by decide)
  rw [put0] at h1
  refine h1.mono ?_
  clear h1
  rintro e w2 ⟨rfl, b2⟩
  have H2 : Hid (Below w.heap.size w w2) := Lib.hid (H1.out.1.trans (b2.mono H1.out.1.size))
  clear b2
  go_wp2_with fail
  have h2 := read_any (tabs_below HT.out H2.out) (s := [48, 49]) (by unfold maxLen; simp)
  rw [read1] at h2
  refine h2.mono ?_
  clear h2
  rintro e w3 ⟨b3, rfl⟩
  have H3 : Hid (Below w.heap.size w w3) := Lib.hid (H2.out.trans (b3.mono H2.out.size))
  clear b3
  go_wp2_with fail
  have h3 := read_any (tabs_below HT.out H3.out) (s := [123, 34, 97, 34, 58, 49, 44, 34, 97, 34, 58, 50, 125]) (by unfold maxLen; simp)
  rw [read2] at h3
  refine h3.mono ?_
  clear h3
  rintro e w4 ⟨b4, rfl⟩
  have H4 : Hid (Below w.heap.size w w4) := Lib.hid (H3.out.trans (b4.mono H3.out.size))
  clear b4
  have el : ((L0.length : Int) == 4) = true := rfl
  have es : (str [123, 34, 97, 34, 58, 91, 49, 44, 34, 195, 169, 34, 93, 125]).toList = [123, 34, 97, 34, 58, 91, 49, 44, 34, 195, 169, 34, 93, 125] := by rw [ByteArray.toList_eq, str_toList]
  go_wp2
  go_ret
  exact ⟨rfl, H4.out⟩
end Go.Proofs.YtbjidmijbphhgaaDoor
