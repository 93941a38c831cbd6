/- The reference's width, Right, quote and Quote: what they compute. -/
import Derived.Test.YtllhpkpckjacfaaGreatDoorTsS
import Derived.Test.YtllhpkpckjacfaaGreatDoorTaD
import Derived.Lib.TrimUEq

namespace Go.Proofs.YtllhpkpckjacfaaGreatDoor
open Go.RowKit Go.Proofs.YtllhpkpckjacfaaGreatDoorW.PrintWords PTemplateFilters
set_option linter.unusedVariables false
set_option linter.unusedSimpArgs false

def wN (n b0 b1 b2 b3 : Int) : Int :=
  if b0 < 128 then 1
  else if 194 ≤ b0 ∧ b0 < 224 ∧ 2 ≤ n ∧ 128 ≤ b1 ∧ b1 ≤ 191 then 2
  else if 224 ≤ b0 ∧ b0 < 240 ∧ 3 ≤ n ∧ 128 ≤ b1 ∧ b1 ≤ 191 ∧ 128 ≤ b2 ∧ b2 ≤ 191 ∧ ¬ (b0 = 224 ∧ b1 < 160) ∧ ¬ (b0 = 237 ∧ 159 < b1) then 3
  else if 240 ≤ b0 ∧ b0 < 245 ∧ 4 ≤ n ∧ 128 ≤ b1 ∧ b1 ≤ 191 ∧ 128 ≤ b2 ∧ b2 ≤ 191 ∧ 128 ≤ b3 ∧ b3 ≤ 191 ∧ ¬ (b0 = 240 ∧ b1 < 144) ∧ ¬ (b0 = 244 ∧ 143 < b1) then 4
  else 0

theorem wr1 : wrap64 (1 + 1) = 2 := by kernel_rfl
theorem wr2 : wrap64 (2 + 1) = 3 := by kernel_rfl
theorem wr3 : wrap64 (3 + 1) = 4 := by kernel_rfl


theorem j2_2 (k : Nat) (s : ByteArray) : watchfireref24_width.j2 (k + 6) s 2 = if (s.size : Int) < 2 then some 0 else watchfireref24_width.l0 (k + 4) s 2 1 := by
  simp only [watchfireref24_width.j2, watchfireref24_width.j3, decide_eq_true_eq, if_neg (show ¬ ((2 : Int) = 0) by decide)]
theorem j2_3 (k : Nat) (s : ByteArray) : watchfireref24_width.j2 (k + 6) s 3 = if (s.size : Int) < 3 then some 0 else watchfireref24_width.l0 (k + 4) s 3 1 := by
  simp only [watchfireref24_width.j2, watchfireref24_width.j3, decide_eq_true_eq, if_neg (show ¬ ((3 : Int) = 0) by decide)]
theorem j2_4 (k : Nat) (s : ByteArray) : watchfireref24_width.j2 (k + 6) s 4 = if (s.size : Int) < 4 then some 0 else watchfireref24_width.l0 (k + 4) s 4 1 := by
  simp only [watchfireref24_width.j2, watchfireref24_width.j3, decide_eq_true_eq, if_neg (show ¬ ((4 : Int) = 0) by decide)]
theorem j2_0 (k : Nat) (s : ByteArray) : watchfireref24_width.j2 (k + 6) s 0 = some 0 := by
  simp [watchfireref24_width.j2, watchfireref24_width.j3]
/-- The end of the loop. -/
def wEndN (n b0 b1 : Int) : Int := if b0 = 224 ∧ b1 < 160 then 0 else if b0 = 237 ∧ 159 < b1 then 0 else if b0 = 240 ∧ b1 < 144 then 0 else if b0 = 244 ∧ 143 < b1 then 0 else n
theorem l0_end (k : Nat) (s : ByteArray) (n i : Int) (h : ¬ i < n) (hs : 1 < (s.size : Int)) : watchfireref24_width.l0 (k + 1) s n i = some (wEndN n (bt s 0) (bt s 1)) := by
  have h0 : (0 : Int) < (s.size : Int) := by omega
  simp only [watchfireref24_width.l0, if_neg h, if_pos hs, if_pos h0]
  generalize bt s 0 = b0
  generalize bt s 1 = b1
  unfold wEndN
  repeat' split
  all_goals first | rfl | (exfalso; omega)
theorem l0_go (k : Nat) (s : ByteArray) (n i : Int) (h : i < n) (h0 : 0 ≤ i) (hs : i < (s.size : Int)) (hw : wrap64 (i + 1) = i + 1) : watchfireref24_width.l0 (k + 1) s n i = if bt s i < 128 ∨ 191 < bt s i then some 0 else watchfireref24_width.l0 k s n (i + 1) := by
  simp only [watchfireref24_width.l0, if_pos h, if_pos hs, if_pos h0, hw]
  repeat' split
  all_goals first | rfl | (exfalso; omega)

set_option maxHeartbeats 4000000 in
theorem width_f (k : Nat) (s : ByteArray) (hs : 0 < s.size) : watchfireref24_width.f (k + 8) s = some (wN s.size (bt s 0) (bt s 1) (bt s 2) (bt s 3)) := by
  have r0 := bt_range s 0
  have r1 := bt_range s 1
  have r2 := bt_range s 2
  have r3 := bt_range s 3
  have hs' : (0 : Int) < (s.size : Int) := by omega
  have e1 : watchfireref24_width.f (k + 8) s = if bt s 0 < 128 then some 1 else if bt s 0 < 194 then some 0 else if bt s 0 < 224 then watchfireref24_width.j2 (k + 6 + 1) s 2 else if bt s 0 < 240 then watchfireref24_width.j2 (k + 6) s 3 else if bt s 0 < 245 then watchfireref24_width.j2 (k + 6) s 4 else some 0 := by
    simp only [watchfireref24_width.f, if_pos hs', watchfireref24_width.j0, watchfireref24_width.j1, decide_eq_true_eq, if_neg (show ¬ (false = true) by decide), j2_0]
    repeat' split
    all_goals first | rfl | (exfalso; omega) | (simp only [show k + 7 = (k + 1) + 6 by omega, j2_0])
  rw [e1]
  unfold wN
  by_cases h1 : bt s 0 < 128
  · rw [if_pos h1, if_pos h1]
  rw [if_neg h1, if_neg h1]
  by_cases h2 : bt s 0 < 194
  · rw [if_pos h2, if_neg (by omega), if_neg (by omega), if_neg (by omega)]
  rw [if_neg h2]
  by_cases h3 : bt s 0 < 224
  · rw [if_pos h3, show k + 6 + 1 = (k + 1) + 6 by omega, j2_2]
    by_cases hz : (s.size : Int) < 2
    · rw [if_pos hz]
      congr 1
      repeat' split
      all_goals first | rfl | (exfalso; omega)
    rw [if_neg hz, show k + 1 + 4 = (k + 4) + 1 by omega, l0_go _ s 2 1 (by decide) (by decide) (by omega) wr1]
    by_cases hb : bt s 1 < 128 ∨ 191 < bt s 1
    · rw [if_pos hb]
      congr 1
      repeat' split
      all_goals first | rfl | (exfalso; omega)
    rw [if_neg hb, l0_end _ s 2 _ (by decide) (by omega)]
    unfold wEndN
    repeat' split
    all_goals first | rfl | (exfalso; omega)
  rw [if_neg h3]
  by_cases h4 : bt s 0 < 240
  · rw [if_pos h4, j2_3]
    by_cases hz : (s.size : Int) < 3
    · rw [if_pos hz]
      congr 1
      repeat' split
      all_goals first | rfl | (exfalso; omega)
    rw [if_neg hz, show k + 4 = (k + 3) + 1 by omega, l0_go _ s 3 1 (by decide) (by decide) (by omega) wr1]
    by_cases hb : bt s 1 < 128 ∨ 191 < bt s 1
    · rw [if_pos hb]
      congr 1
      repeat' split
      all_goals first | rfl | (exfalso; omega)
    rw [if_neg hb, show (1 : Int) + 1 = 2 by decide, show k + 3 = (k + 2) + 1 by omega, l0_go _ s 3 2 (by decide) (by decide) (by omega) wr2]
    by_cases hc : bt s 2 < 128 ∨ 191 < bt s 2
    · rw [if_pos hc]
      congr 1
      repeat' split
      all_goals first | rfl | (exfalso; omega)
    rw [if_neg hc, l0_end _ s 3 _ (by decide) (by omega)]
    unfold wEndN
    repeat' split
    all_goals first | rfl | (exfalso; omega)
  rw [if_neg h4]
  by_cases h5 : bt s 0 < 245
  · rw [if_pos h5, j2_4]
    by_cases hz : (s.size : Int) < 4
    · rw [if_pos hz]
      congr 1
      repeat' split
      all_goals first | rfl | (exfalso; omega)
    rw [if_neg hz, show k + 4 = (k + 3) + 1 by omega, l0_go _ s 4 1 (by decide) (by decide) (by omega) wr1]
    by_cases hb : bt s 1 < 128 ∨ 191 < bt s 1
    · rw [if_pos hb]
      congr 1
      repeat' split
      all_goals first | rfl | (exfalso; omega)
    rw [if_neg hb, show (1 : Int) + 1 = 2 by decide, show k + 3 = (k + 2) + 1 by omega, l0_go _ s 4 2 (by decide) (by decide) (by omega) wr2]
    by_cases hc : bt s 2 < 128 ∨ 191 < bt s 2
    · rw [if_pos hc]
      congr 1
      repeat' split
      all_goals first | rfl | (exfalso; omega)
    rw [if_neg hc, show (2 : Int) + 1 = 3 by decide, show k + 2 = (k + 1) + 1 by omega, l0_go _ s 4 3 (by decide) (by decide) (by omega) wr3]
    by_cases hd : bt s 3 < 128 ∨ 191 < bt s 3
    · rw [if_pos hd]
      congr 1
      repeat' split
      all_goals first | rfl | (exfalso; omega)
    rw [if_neg hd, l0_end _ s 4 _ (by decide) (by omega)]
    unfold wEndN
    repeat' split
    all_goals first | rfl | (exfalso; omega)
  rw [if_neg h5]
  congr 1
  repeat' split
  all_goals first | rfl | (exfalso; omega)

/-- Of the decoder: no rune, or its width. -/
theorem wN_decode (n b0 b1 b2 b3 : Nat) (hn : 0 < n) (h0 : b0 < 256) (h1 : b1 < 256) (h2 : b2 < 256) (h3 : b3 < 256) :
    wN n b0 b1 b2 b3 = if (Lib.decodeN n b0 b1 b2 b3).1 = 65533 ∧ (Lib.decodeN n b0 b1 b2 b3).2 = 1 then 0 else ((Lib.decodeN n b0 b1 b2 b3).2 : Int) := by
  unfold wN Lib.decodeN
  repeat' split
  all_goals first | rfl | omega | (simp at *; omega)
end Go.Proofs.YtllhpkpckjacfaaGreatDoor

/- The document's Right and quote. -/
namespace Go.Proofs.YtllhpkpckjacfaaGreatDoor
open Go.RowKit Go.Proofs.YtllhpkpckjacfaaGreatDoorW.PrintWords PTemplateFilters
set_option linter.unusedVariables false
set_option linter.unusedSimpArgs false

theorem bt_strR (l : Bytes) (k : Nat) : bt (str l) (k : Int) = ((l.getD k 0).toNat : Int) := by
  unfold bt
  rw [Int.toNat_natCast]
  split
  · rename_i h
    rw [str_size] at h
    rw [str_get l k h, List.getD_eq_getElem?_getD, List.getElem?_eq_getElem h]; rfl
  · rename_i h
    rw [str_size] at h
    rw [List.getD_eq_getElem?_getD, List.getElem?_eq_none (by omega)]; rfl
theorem width_str (k : Nat) (l : Bytes) (hl : l ≠ []) : watchfireref24_width.f (k + 8) (str l) = some (if (Lib.decodeL l).1 = 65533 ∧ (Lib.decodeL l).2 = 1 then 0 else ((Lib.decodeL l).2 : Int)) := by
  have hp : 0 < l.length := List.length_pos_iff.2 hl
  rw [width_f k (str l) (by rw [str_size]; exact hp)]
  rw [show (0 : Int) = ((0 : Nat) : Int) by rfl, show (1 : Int) = ((1 : Nat) : Int) by rfl, show (2 : Int) = ((2 : Nat) : Int) by rfl, show (3 : Int) = ((3 : Nat) : Int) by rfl, bt_strR, bt_strR, bt_strR, bt_strR, str_size,
    wN_decode l.length _ _ _ _ hp (UInt8.toNat_lt _) (UInt8.toNat_lt _) (UInt8.toNat_lt _) (UInt8.toNat_lt _), Lib.decodeL_N]
  rfl
theorem right_l0 : ∀ (n : Nat) (l : Bytes), l.length ≤ n → watchfireref24_Right.l0 (n + 9) (str l) = some (Lib.validD l)
  | n, [], _ => by
    simp [watchfireref24_Right.l0, str_size, Lib.validD_nil]
  | 0, c :: l, h => by simp at h
  | n + 1, c :: l, h => by
    have hs : (((str (c :: l)).size : Nat) : Int) > 0 := by rw [str_size]; simp
    rw [Lib.validD_step _ (by simp)]
    rw [show n + 1 + 9 = (n + 9) + 1 by omega]
    rw [watchfireref24_Right.l0, if_pos hs]
    rw [show n + 9 = (n + 1) + 8 by omega, width_str _ _ (by simp), Option.bind_some]
    have hw := Lib.decodeL_width (c :: l)
    have hle := Lib.decodeL_le (c :: l) (by simp)
    by_cases hc : (Lib.decodeL (c :: l)).1 = 65533 ∧ (Lib.decodeL (c :: l)).2 = 1
    · rw [if_pos hc, if_pos hc, if_pos rfl]
    · rw [if_neg hc, if_neg hc, if_neg (by omega), if_pos (by omega), if_pos (by rw [str_size]; omega), Int.toNat_natCast, str_drop]
      rw [show n + 1 + 8 = n + 9 by omega]
      exact right_l0 n _ (by rw [List.length_drop]; simp only [List.length_cons] at h ⊢; omega)
theorem right_any (l : Bytes) (w : World) : Calls Tryz.prog 75 #[.string (str l)] w fun e w' => e = .returned (.bool (Lib.validD l)) ∧ Drawn0 w w' :=
  watchfireref24_Right.calls (l.length + 9) (str l) _ w (right_l0 _ _ (Nat.le_refl _))

def numsB (l : Bytes) : List Int := l.map fun b => (b.toNat : Int)
theorem numsB_app (a b : Bytes) : numsB (a ++ b) = numsB a ++ numsB b := by simp [numsB]
theorem nums_str (l : Bytes) : strOfNums (numsB l) = str l := by
  simp [strOfNums, numsB, str, Function.comp_def]
theorem hex_bt (i : Nat) (h : i < 16) : bt (⟨#[48, 49, 50, 51, 52, 53, 54, 55, 56, 57, 97, 98, 99, 100, 101, 102]⟩ : ByteArray) (i : Int) = ((hexDs.getD i 0).toNat : Int) := bt_strR hexDs i
theorem quote_step (k : Nat) (l : Bytes) (out : Bytes) (i : Nat) (hi : i < l.length) (hl : l.length < 4611686018427387904) (ho : out.length + 6 < 140737488355328) :
    watchfireref24_quote.l0 (k + 2) (str l) (numsB out) (i : Int) = watchfireref24_quote.l0 k (str l) (numsB (out ++ quoteB (l.getD i 0))) ((i + 1 : Nat) : Int) := by
  have hn : (numsB out).length = out.length := by simp [numsB]
  have hb : bt (str l) (i : Int) = ((l.getD i 0).toNat : Int) := bt_strR l i
  have hw : wrap64 ((i : Int) + 1) = ((i + 1 : Nat) : Int) := by unfold wrap64; omega
  simp only [watchfireref24_quote.l0, str_size, if_pos (show (i : Int) < (l.length : Int) by omega), if_pos (show (0 : Int) ≤ (i : Int) by omega), hb, watchfireref24_quote.j1, hw, Option.bind_some, hn, List.length_cons, List.length_nil]
  have hc := UInt8.toNat_lt (l.getD i 0)
  generalize l.getD i 0 = c at hc ⊢
  by_cases h34 : c = 34
  · subst h34
    rw [if_pos (by rfl), if_pos trivial, if_pos (by omega)]
    congr 1
    rw [numsB_app]; rfl
  have n34 : ¬ ((c.toNat : Int) = 34) := fun e => h34 (UInt8.toNat_inj.1 (by simpa using (show c.toNat = 34 by omega)))
  rw [if_neg n34]
  by_cases h92 : c = 92
  · subst h92
    rw [if_pos (by rfl), if_pos (by omega)]
    congr 1
    rw [numsB_app]; rfl
  have n92 : ¬ ((c.toNat : Int) = 92) := fun e => h92 (UInt8.toNat_inj.1 (by simpa using (show c.toNat = 92 by omega)))
  rw [if_neg (by simpa using n92)]
  by_cases h32 : c.toNat < 32
  · have hd : (c.toNat : Int).tdiv 16 % 256 = ((c.toNat / 16 : Nat) : Int) := by rw [Int.tdiv_eq_ediv_of_nonneg (by omega)]; omega
    have hm : (c.toNat : Int).tmod 16 = ((c.toNat % 16 : Nat) : Int) := by rw [Int.tmod_eq_emod_of_nonneg (by omega)]; omega
    rw [if_pos (by omega), hd, hm, if_pos (by omega), if_pos (by omega), if_pos (by omega), if_pos (by omega), if_pos (by omega), hex_bt _ (by omega), hex_bt _ (by omega)]
    congr 1
    rw [numsB_app]
    simp [quoteB, h34, h92, h32, numsB]
  · rw [if_neg (by omega), if_pos (by omega)]
    congr 1
    rw [numsB_app]
    simp [quoteB, h34, h92, h32, numsB]
theorem quote_l0 (l : Bytes) (hl : 6 * l.length + 20 < 140737488355328) : ∀ (m i : Nat) (out : Bytes), i + m = l.length → out.length ≤ 1 + 6 * i →
    watchfireref24_quote.l0 (2 * m + 1) (str l) (numsB out) (i : Int) = some (str (out ++ (l.drop i).flatMap quoteB ++ [34]))
  | 0, i, out, h, ho => by
    have hn : (numsB out).length = out.length := by simp [numsB]
    simp only [Nat.mul_zero, Nat.zero_add, watchfireref24_quote.l0, str_size]
    rw [if_neg (by omega), hn, if_pos (by omega), List.drop_eq_nil_of_le (by omega), show numsB out ++ [34] = numsB (out ++ [34]) by simp [numsB]]
    rw [nums_str]
    simp
  | m + 1, i, out, h, ho => by
    rw [show 2 * (m + 1) + 1 = (2 * m + 1) + 2 by omega, quote_step _ l out i (by omega) (by omega) (by omega)]
    have hq := quoteB_len (l.getD i 0)
    rw [quote_l0 l hl m (i + 1) _ (by omega) (by rw [List.length_append]; omega)]
    rw [List.drop_eq_getElem_cons (show i < l.length by omega), List.getD_eq_getElem?_getD, List.getElem?_eq_getElem (show i < l.length by omega)]
    simp only [List.flatMap_cons, List.append_assoc, Option.getD_some]
theorem quote_ref (l : Bytes) (hl : 6 * l.length + 20 < 140737488355328) (w : World) : Calls Tryz.prog 76 #[.string (str l)] w fun e w' => e = .returned (.string (str (quoteM l))) ∧ Below w.heap.size w w' := by
  refine watchfireref24_quote.calls (2 * l.length + 1) (str l) _ w ?_
  have h := quote_l0 l hl l.length 0 [34] (by omega) (by simp)
  exact h

set_option maxRecDepth 100000 in
set_option maxHeartbeats 2000000 in
theorem Quote_ref (l : Bytes) (hl : 6 * l.length + 20 < 140737488355328) (w : World) : Calls Tryz.prog 42 #[.string (str l)] w fun e w' => e = .returned (.tuple #[.string (str (quoteP l).1), .int .i64 (quoteP l).2]) ∧ Below w.heap.size w w' := by
  cases hv : Lib.validD l with
  | false =>
    have hp : quoteP l = ([], 4) := by simp [quoteP, hv]
    rw [hp]
    have HV := Lib.hid hv
    clear hv hp
    go_enter Tryz.func42, Tryz.ntmps42
    go_wp2_with fail
    refine (right_any l w).mono ?_
    rw [HV.out]
    rintro e w1 ⟨rfl, hb⟩
    have HB := Lib.hid hb
    clear hb
    go_wp2
    go_ret2
    exact ⟨rfl, HB.out.below⟩
  | true =>
    have hp : quoteP l = (quoteM l, 0) := by simp [quoteP, hv]
    rw [hp]
    have HV := Lib.hid hv
    clear hv hp
    go_enter Tryz.func42, Tryz.ntmps42
    go_wp2_with fail
    refine (right_any l w).mono ?_
    rw [HV.out]
    rintro e w1 ⟨rfl, hb⟩
    have HB := Lib.hid hb
    clear hb
    go_wp2_with fail
    refine (quote_ref l hl w1).mono ?_
    rintro e w2 ⟨rfl, hb⟩
    have HC := Lib.hid hb
    clear hb
    go_wp2
    go_ret2
    exact ⟨by simp, HB.out.below.trans (HC.out.mono HB.out.below.size)⟩
end Go.Proofs.YtllhpkpckjacfaaGreatDoor
