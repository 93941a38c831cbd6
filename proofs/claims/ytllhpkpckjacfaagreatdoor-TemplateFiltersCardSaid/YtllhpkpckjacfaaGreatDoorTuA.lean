/- The reference's filters: what they compute is what template.Filter computes. -/
import Derived.Test.YtllhpkpckjacfaaGreatDoorTuR
import Derived.Test.YtllhpkpckjacfaaGreatDoorTaE
namespace Go.Proofs.YtllhpkpckjacfaaGreatDoor
open Go.RowKit Go.Proofs.YtllhpkpckjacfaaGreatDoorW.PrintWords Go.Proofs.YtllhpkpckjacfaaGreatDoorW.PrintMore PTemplateFilters
set_option linter.unusedVariables false
set_option linter.unusedSimpArgs false

def numR (s : Bytes) : Int := match numberM s with | some n => n | none => -1
theorem dec_lt : ∀ (l : Bytes) (n : Nat), l.all isDg = true → l.foldl (fun n c => n * 10 + (c.toNat - 48)) n + 1 ≤ (n + 1) * 10 ^ l.length
  | [], n, _ => by simp
  | c :: l, n, h => by
    rw [List.all_cons, Bool.and_eq_true] at h
    have hc := h.1
    unfold isDg at hc
    rw [Bool.and_eq_true, decide_eq_true_eq, decide_eq_true_eq] at hc
    have ih := dec_lt l (n * 10 + (c.toNat - 48)) h.2
    rw [List.foldl_cons, List.length_cons, Nat.pow_succ]
    refine Nat.le_trans ih ?_
    have : (n + 1) * (10 ^ l.length * 10) = ((n + 1) * 10) * 10 ^ l.length := by
      rw [Nat.mul_comm (10 ^ l.length) 10, Nat.mul_assoc]
    rw [this]
    exact Nat.mul_le_mul_right _ (by omega)
theorem dec_take (s : Bytes) {i : Nat} (h : i < s.length) : decV (s.take (i + 1)) = decV (s.take i) * 10 + (s[i].toNat - 48) := by
  unfold decV
  rw [List.take_add_one, List.getElem?_eq_getElem h, List.foldl_append]
  rfl
theorem num_l0 (s : Bytes) : ∀ (m i : Nat), i + m = min s.length 5 → (s.take i).all isDg = true → watchfireref28_number.l0 (2 * m + 2) (str s) (decV (s.take i) : Nat) i = some (numR s)
  | 0, i, h, hd => by
    rw [show 2 * 0 + 2 = 0 + 1 + 1 from rfl, watchfireref28_number.l0, str_size]
    have hb : (if (i : Int) < (s.length : Int) then watchfireref28_number.j1 (0 + 1) (str s) (decV (s.take i) : Nat) i (decide ((i : Int) < 5)) else watchfireref28_number.j1 (0 + 1) (str s) (decV (s.take i) : Nat) i false) = watchfireref28_number.j1 (0 + 1) (str s) (decV (s.take i) : Nat) i false := by
      by_cases hl : i < s.length
      · rw [if_pos (by omega), decide_eq_false (by omega)]
      · rw [if_neg (by omega)]
    rw [hb, watchfireref28_number.j1, if_neg (by simp), str_size]
    by_cases h0 : s.length < 1
    · rw [if_pos (by omega)]
      have : s = [] := List.length_eq_zero_iff.1 (by omega)
      subst this
      rfl
    · rw [if_neg (by omega)]
      by_cases h4 : 4 < s.length
      · rw [if_pos (by omega)]
        have : numberM s = none := by unfold numberM; rw [if_pos (Or.inr (Or.inl h4))]
        unfold numR
        rw [this]
      · rw [if_neg (by omega)]
        have hi : s.take i = s := List.take_of_length_le (by omega)
        rw [hi] at hd ⊢
        have : numberM s = some (decV s) := by
          unfold numberM
          rw [if_neg]
          rintro (h | h | h)
          · rw [h] at h0; simp at h0
          · exact h4 h
          · exact h hd
        unfold numR
        rw [this]
  | m + 1, i, h, hd => by
    have hl : i < s.length := by omega
    have hbt : bt (str s) (i : Int) = (s[i].toNat : Int) := by rw [bt_strR, List.getD_eq_getElem?_getD, List.getElem?_eq_getElem hl]; rfl
    rw [show 2 * (m + 1) + 2 = (2 * m + 2) + 1 + 1 by omega, watchfireref28_number.l0, str_size, if_pos (by omega), decide_eq_true (by omega), watchfireref28_number.j1, if_pos rfl, if_pos (by omega), str_size, if_pos (by omega), hbt]
    have hno : ¬ isDg s[i] = true → numR s = -1 := by
      intro hn
      have : numberM s = none := by
        unfold numberM
        rw [if_pos]
        refine Or.inr (Or.inr fun ha => hn ?_)
        exact List.all_eq_true.1 ha _ (List.getElem_mem hl)
      unfold numR
      rw [this]
    by_cases h1 : s[i].toNat < 48
    · rw [if_pos (by omega), hno (by unfold isDg; simp; omega)]
    · rw [if_neg (by omega)]
      by_cases h2 : 57 < s[i].toNat
      · rw [if_pos (by omega), hno (by unfold isDg; simp; omega)]
      · rw [if_neg (by omega)]
        have hdg : isDg s[i] = true := by unfold isDg; simp; omega
        have hd2 : (s.take (i + 1)).all isDg = true := by
          rw [List.take_add_one, List.getElem?_eq_getElem hl, List.all_append, hd]
          simp [hdg]
        have hb := dec_lt (s.take i) 0 hd
        have hlen : (s.take i).length ≤ 5 := by rw [List.length_take]; omega
        have hp : 10 ^ (s.take i).length ≤ 10 ^ 5 := Nat.pow_le_pow_right (by omega) hlen
        have hv : decV (s.take i) ≤ 100000 := by unfold decV; omega
        have hw : wrap64 (wrap64 (10 * ((decV (s.take i) : Nat) : Int)) + (((s[i].toNat : Int) - 48) % 256)) = ((decV (s.take (i + 1)) : Nat) : Int) := by
          rw [dec_take s hl, w64_in (10 * _) (by omega), w64_in _ (by omega)]
          omega
        have hw2 : wrap64 ((i : Int) + 1) = ((i + 1 : Nat) : Int) := by rw [w64_in _ (by omega)]; simp
        rw [hw, hw2]
        exact num_l0 s m (i + 1) (by omega) hd2
theorem num_ref (s : Bytes) {k : Nat} (hk : 12 ≤ k) : watchfireref28_number.f k (str s) = some (numR s) := by
  refine at_rounds (fun k => watchfireref28_number.mono (str s) k) (k := 2 * min s.length 5 + 2) (by omega) ?_
  exact num_l0 s (min s.length 5) 0 (by omega) rfl
theorem filt_ref (w : List Bytes) {k : Nat} (hk : 12 ≤ k) : watchfireref28_filter.f k (w.map str) = some (filtersM w) := by
  unfold watchfireref28_filter.f
  rw [List.length_map]
  match w with
  | [] => rfl
  | [a] =>
    have h0 : (rdOf ByteArray.empty ([a].map str) 0).toList = a := by simp [rdOf, str_tl]
    rw [if_pos (by simp), if_pos (by simp), h0]
    show (if a = wUpper then some true else if a = wLower then some true else some (a == wQuote)) = some (a == wUpper || a == wLower || a == wQuote)
    by_cases h1 : a = wUpper
    · rw [if_pos h1, h1]; rfl
    · rw [if_neg h1]
      by_cases h2 : a = wLower
      · rw [if_pos h2, h2]; rfl
      · rw [if_neg h2, beq_eq_false_iff_ne.2 h1, beq_eq_false_iff_ne.2 h2]; rfl
  | [a, b] =>
    have h0 : (rdOf ByteArray.empty ([a, b].map str) 0).toList = a := by simp [rdOf, str_tl]
    have h1 : rdOf ByteArray.empty ([a, b].map str) 1 = str b := by simp [rdOf]
    rw [if_neg (by simp), if_pos (by simp), if_pos (by simp), h0, h1, num_ref b hk]
    show (if a = wLimit then (if 1 < (([a, b].length : Nat) : Int) then (some (numR b)).bind (fun t => if t ≥ 0 then some true else some (a == wDefault)) else none) else some (a == wDefault)) = some (if a = wLimit then (numberM b).isSome else a == wDefault)
    by_cases h2 : a = wLimit
    · rw [if_pos h2, if_pos h2, if_pos (by simp), Option.bind_some]
      unfold numR
      cases numberM b with
      | none => rw [if_neg (by simp), h2]; rfl
      | some n => rw [if_pos (by simp)]; rfl
    · rw [if_neg h2, if_neg h2]
  | a :: b :: c :: r => rw [if_neg (by simp; omega), if_neg (by simp; omega)]; rfl
theorem turn_l0 (s : Bytes) (f t : Nat) (hf : f + 26 ≤ 255) (ht : t + 26 ≤ 255) (hs : s.length ≤ 1000000) : ∀ (m i : Nat), i + m = s.length → watchfireref28_turned.l0 (m + 1) (str s) f ((t : Int) - f) (numsB (turnM f t (s.take i))) i = some (str (turnM f t s))
  | 0, i, h => by
    rw [watchfireref28_turned.l0, str_size, if_neg (by omega), List.take_of_length_le (by omega), nums_str]
  | m + 1, i, h => by
    have hl : i < s.length := by omega
    have hbt : bt (str s) (i : Int) = (s[i].toNat : Int) := by rw [bt_strR, List.getD_eq_getElem?_getD, List.getElem?_eq_getElem hl]; rfl
    have hn : (numsB (turnM f t (s.take i))).length < 140737488355328 := by simp [numsB, turnM]; omega
    have hw2 : wrap64 ((i : Int) + 1) = ((i + 1 : Nat) : Int) := by rw [w64_in _ (by omega)]; simp
    have hc := UInt8.toNat_lt s[i]
    have hnx : numsB (turnM f t (s.take (i + 1))) = numsB (turnM f t (s.take i)) ++ [((turnB f t s[i]).toNat : Int)] := by
      rw [List.take_add_one, List.getElem?_eq_getElem hl, Option.toList_some]
      unfold turnM
      rw [List.map_append, numsB_app]
      rfl
    have ih := turn_l0 s f t hf ht hs m (i + 1) (by omega)
    rw [hnx] at ih
    rw [watchfireref28_turned.l0, str_size, if_pos (by omega), if_pos (by omega), hbt, hw2]
    by_cases h1 : f ≤ s[i].toNat
    · rw [if_pos (by omega)]
      by_cases h2 : s[i].toNat < f + 26
      · rw [if_pos (by omega), if_pos hn]
        have hB : (turnB f t s[i]).toNat = s[i].toNat - f + t := by
          unfold turnB
          rw [if_pos ⟨h1, h2⟩]
          simp
          omega
        have hv : (wrap64 ((wrap64 (s[i].toNat : Int)) + ((t : Int) - f))) % 256 = ((turnB f t s[i]).toNat : Int) := by
          rw [hB, w64_in (s[i].toNat : Int) (by omega), w64_in _ (by omega)]
          omega
        rw [hv]
        exact ih
      · rw [if_neg (by omega), if_pos hn]
        have hB : turnB f t s[i] = s[i] := by unfold turnB; rw [if_neg (fun h => h2 h.2)]
        rw [hB] at ih
        exact ih
    · rw [if_neg (by omega), if_pos hn]
      have hB : turnB f t s[i] = s[i] := by unfold turnB; rw [if_neg (fun h => h1 h.1)]
      rw [hB] at ih
      exact ih
theorem str_take' (l : Bytes) (k : Nat) : (str l).extract 0 k = str (l.take k) := by
  have h : ((str l).extract 0 k).data.toList = l.take k := by rw [Lib.extract_from_zero, str_toList]
  rw [← h, str_of]
theorem turned_ref (s : Bytes) (f t : Nat) (hf : f + 26 ≤ 255) (ht : t + 26 ≤ 255) (hs : s.length ≤ 1000000) {d : Int} (hd : d = (t : Int) - f) {k : Nat} (hk : s.length + 1 ≤ k) : watchfireref28_turned.f k (str s) f d = some (str (turnM f t s)) := by
  subst hd
  refine at_rounds (fun k => watchfireref28_turned.mono (str s) f ((t : Int) - f) k) (k := s.length + 1) hk ?_
  exact turn_l0 s f t hf ht hs s.length 0 (by omega)
theorem Quote_f (s : Bytes) (hl : 6 * s.length + 20 < 140737488355328) {k : Nat} (hk : 2 * s.length + 9 ≤ k) : watchfireref24_Quote.f k (str s) = some (str (quoteP s).1, ((quoteP s).2 : Int)) := by
  unfold watchfireref24_Quote.f
  have h1 : watchfireref24_Right.f k (str s) = some (Lib.validD s) := at_rounds (fun k => watchfireref24_Right.mono (str s) k) (k := s.length + 9) (by omega) (right_l0 _ _ (Nat.le_refl _))
  have h2 : watchfireref24_quote.f k (str s) = some (str (quoteM s)) := at_rounds (fun k => watchfireref24_quote.mono (str s) k) (k := 2 * s.length + 1) (by omega) (quote_l0 s hl s.length 0 [34] (by omega) (by simp))
  rw [h1, Option.bind_some]
  unfold quoteP
  cases Lib.validD s
  · rfl
  · rw [if_pos rfl, h2, if_pos rfl]; rfl
theorem Filter_f (s : Bytes) (hs : s.length ≤ 1000000) (l : List Bytes) {k : Nat} (hk : 2 * s.length + 20 ≤ k) : watchfireref28_Filter.f k (str s) (l.map str) = some (str (filterM s l).1, ((filterM s l).2 : Int)) := by
  unfold watchfireref28_Filter.f
  rw [filt_ref l (by omega), Option.bind_some, List.length_map]
  cases hf : filtersM l with
  | false =>
    rw [if_neg (by simp)]
    unfold filterM
    rw [hf]
    rfl
  | true =>
    rw [if_pos rfl]
    match l with
    | [] => simp [filtersM] at hf
    | [a] =>
      have h0 : (rdOf ByteArray.empty ([a].map str) 0).toList = a := by simp [rdOf, str_tl]
      have hfm : filterM s [a] = (if a = wUpper then (turnM 97 65 s, 0) else if a = wLower then (turnM 65 97 s, 0) else quoteP s) := by unfold filterM; rw [if_pos hf]
      rw [if_pos (by simp), h0, hfm]
      show (if a = wUpper then _ else if a = wLower then _ else if a = wQuote then _ else _) = _
      by_cases h1 : a = wUpper
      · rw [if_pos h1, if_pos h1, show (97 : Int) = ((97 : Nat) : Int) from rfl, turned_ref s 97 65 (by omega) (by omega) hs (by omega) (by omega)]; rfl
      · rw [if_neg h1, if_neg h1]
        by_cases h2 : a = wLower
        · rw [if_pos h2, if_pos h2, show (65 : Int) = ((65 : Nat) : Int) from rfl, turned_ref s 65 97 (by omega) (by omega) hs (by omega) (by omega)]; rfl
        · have h3 : a = wQuote := by
            have : (a == wUpper || a == wLower || a == wQuote) = true := hf
            simpa [h1, h2] using this
          rw [if_neg h2, if_neg h2, if_pos h3, Quote_f s (by omega) (by omega)]; rfl
    | [a, b] =>
      have h0 : (rdOf ByteArray.empty ([a, b].map str) 0).toList = a := by simp [rdOf, str_tl]
      have h1 : rdOf ByteArray.empty ([a, b].map str) 1 = str b := by simp [rdOf]
      have hfm : filterM s [a, b] = (if a = wLimit then (s.take ((numberM b).getD 0), 0) else (if s = [] then b else s, 0)) := by unfold filterM; rw [if_pos hf]
      rw [if_pos (by simp), h0, h1, hfm]
      have hf2 : (if a = wLimit then (numberM b).isSome else a == wDefault) = true := hf
      have hn1 : ¬ a = wUpper := by intro h; subst h; simp [wUpper, wLimit, wDefault] at hf2
      have hn2 : ¬ a = wLower := by intro h; subst h; simp [wLower, wLimit, wDefault] at hf2
      have hn3 : ¬ a = wQuote := by intro h; subst h; simp [wQuote, wLimit, wDefault] at hf2
      show (if a = wUpper then _ else if a = wLower then _ else if a = wQuote then _ else if a = wLimit then _ else _) = _
      rw [if_neg hn1, if_neg hn2, if_neg hn3]
      by_cases h2 : a = wLimit
      · rw [if_pos h2, if_pos h2, if_pos (by simp), num_ref b (by omega), Option.bind_some]
        rw [if_pos h2] at hf2
        obtain ⟨n, hn⟩ := Option.isSome_iff_exists.1 hf2
        have hr : numR b = n := by unfold numR; rw [hn]
        have hm : mn ((str s).size : Int) (numR b) = ((min s.length n : Nat) : Int) := by
          rw [hr, str_size]
          unfold mn
          split <;> omega
        rw [hm, if_pos (by omega), if_pos (by rw [str_size]; omega), Int.toNat_natCast, str_take', hn]
        have ht : s.take (min s.length n) = s.take n := by
          by_cases h : n ≤ s.length
          · rw [Nat.min_eq_right h]
          · rw [Nat.min_eq_left (by omega), List.take_of_length_le (Nat.le_refl _), List.take_of_length_le (by omega)]
        rw [ht]
        rfl
      · rw [if_neg h2, if_neg h2, str_tl]
        by_cases h3 : s = []
        · rw [if_pos h3, if_pos h3, if_pos (by simp)]; rfl
        · rw [if_neg h3, if_neg h3]; rfl
    | a :: b :: c :: r => simp [filtersM] at hf
end Go.Proofs.YtllhpkpckjacfaaGreatDoor
