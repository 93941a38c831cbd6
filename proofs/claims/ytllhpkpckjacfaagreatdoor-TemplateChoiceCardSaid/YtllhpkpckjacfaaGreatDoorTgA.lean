/- Ranges and choices: what they are parsed as, and what they say. -/
import Derived.Test.YtllhpkpckjacfaaGreatDoorTpW
namespace Go.Proofs.YtllhpkpckjacfaaGreatDoor
open Go.RowKit Go.Proofs.YtllhpkpckjacfaaGreatDoorW.PrintWords PTemplateFilters
set_option linter.unusedVariables false
set_option linter.unusedSimpArgs false

/-- Has a text a bracket? -/
def hasM (t : Bytes) : Bool := t.any (fun c => c == 123 || c == 125)
theorem has_not {t : Bytes} (h : hasM t = false) : (123 : UInt8) ∉ t ∧ (125 : UInt8) ∉ t := by
  unfold hasM at h
  rw [List.any_eq_false] at h
  constructor
  · intro hm; have := h _ hm; simp at this
  · intro hm; have := h _ hm; simp at this
theorem cut_first {a r : Bytes} {c : UInt8} (h : c ∉ a) : Lib.cut (a ++ c :: c :: r) [c, c] = (a, r, true) := by
  have hi : Lib.index (a ++ c :: c :: r) [c, c] = (a.length : Int) := by
    refine Lib.index_first (by simp) ?_ ?_
    · simp [Lib.occAt]
    · intro j hj
      unfold Lib.occAt
      have hd : (a ++ c :: c :: r).drop j = a[j] :: (a ++ c :: c :: r).drop (j + 1) := by
        rw [List.drop_eq_getElem_cons (by simp; omega)]
        congr 1
        exact List.getElem_append_left hj
      rw [hd]
      have hne : (c == a[j]) = false := by
        rw [beq_eq_false_iff_ne]
        intro e
        exact h (e ▸ List.getElem_mem hj)
      simp [List.isPrefixOf, hne]
  unfold Lib.cut
  rw [hi]
  have h0 : ¬ ((a.length : Int) = -1) := by omega
  simp [h0]
theorem split_step {f p : Nat} {t a w r : Bytes} {out : List Tok} (h : t.drop p = a ++ 123 :: 123 :: (w ++ 125 :: 125 :: r)) (ha : (123 : UInt8) ∉ a) (hw : (125 : UInt8) ∉ w) (hws : ¬ wordsM w = []) :
    splitM (f + 1) t p out = splitM f t (p + a.length + (2 + w.length + 2)) ((if a = [] then out else out ++ [⟨a, [], p⟩]) ++ [⟨[], wordsM w, p + a.length⟩]) ∧ t.drop (p + a.length + (2 + w.length + 2)) = r := by
  have hlt : p < t.length := by
    have := congrArg List.length h
    rw [List.length_drop] at this
    simp at this
    omega
  refine ⟨splitM_go hlt (by rw [h]; exact cut_first ha) (cut_first hw) hws, ?_⟩
  rw [show p + a.length + (2 + w.length + 2) = p + (a.length + (2 + w.length + 2)) by omega, ← List.drop_drop, h]
  rw [List.drop_append]
  simp
  rw [List.drop_eq_nil_of_le (by omega)]
  simp
  rw [List.drop_append, List.drop_eq_nil_of_le (by omega), show 2 + w.length - w.length = 2 by omega]
  rfl
theorem split_end {f p : Nat} {t : Bytes} {out : List Tok} (h : t.drop p = []) : splitM (f + 1) t p out = (out, 0, 0) := by
  have : t.length ≤ p := by
    have := congrArg List.length h
    simp at this
    omega
  rw [splitM, if_neg (by omega)]
def litL (s : Bytes) : List Nd := if s = [] then [] else [.lit s]
def bRange : Bytes := [114, 97, 110, 103, 101, 32, 102, 105, 114, 105, 110, 103]
def bLabel : Bytes := [108, 97, 98, 101, 108, 32, 97]
def bIf : Bytes := [105, 102, 32, 103, 114, 111, 117, 112, 32, 97]
def bGroup : Bytes := [103, 114, 111, 117, 112, 32, 97]
def bEnd : Bytes := [101, 110, 100]
def bElse : Bytes := [101, 108, 115, 101]
def inB (w r : Bytes) : Bytes := 123 :: 123 :: (w ++ 125 :: 125 :: r)
def rangeT (a b : Bytes) : Bytes := inB bRange (a ++ inB bLabel (b ++ inB bEnd []))
def choiceT (a b : Bytes) : Bytes := inB bIf (a ++ inB bElse (b ++ inB bEnd []))
def shortT (a : Bytes) : Bytes := inB bIf (a ++ inB bEnd [])
def groupT : Bytes := inB bGroup []
theorem w_range : wordsM bRange = [wRange, wFiring] := by kernel_rfl
theorem w_label : wordsM bLabel = [wLabel, [97]] := by kernel_rfl
theorem w_if : wordsM bIf = [wIf, wGroup, [97]] := by kernel_rfl
theorem w_end : wordsM bEnd = [wEnd] := by kernel_rfl
theorem w_else : wordsM bElse = [wElse] := by kernel_rfl
/-- A template out of tokens. -/
def ofToks (z : List Tok × Nat × Nat) : Except (Int × Int) (List Nd) :=
  if z.2.2 ≠ 0 then .error (z.2.1, z.2.2)
  else if 256 < z.1.length then .error (0, 5)
  else
    let r := nodesM (3 * z.1.length + 1) z.1 ⟨0, 0, false, -1⟩
    if 0 ≤ (endM z.1 r).wrong then .error ((endM z.1 r).wrong, 9) else .ok r.1
theorem parse_of (t : Bytes) : parseM t = ofToks (splitT t) := rfl
theorem toks_range00 (a b : Bytes) (q0 q1 q2 q3 : Nat) : ofToks ([⟨[], [wRange, wFiring], 0⟩, ⟨[], [wLabel, [97]], q1⟩, ⟨[], [wEnd], q3⟩], 0, 0) = .ok [.loop wFiring ([] ++ .place [wLabel, [97]] [] :: [])] := by kernel_rfl
theorem toks_range01 (a b : Bytes) (q0 q1 q2 q3 : Nat) : ofToks ([⟨[], [wRange, wFiring], 0⟩, ⟨[], [wLabel, [97]], q1⟩, ⟨b, [], q2⟩, ⟨[], [wEnd], q3⟩], 0, 0) = .ok [.loop wFiring ([] ++ .place [wLabel, [97]] [] :: [.lit b])] := by kernel_rfl
theorem toks_range10 (a b : Bytes) (q0 q1 q2 q3 : Nat) : ofToks ([⟨[], [wRange, wFiring], 0⟩, ⟨a, [], q0⟩, ⟨[], [wLabel, [97]], q1⟩, ⟨[], [wEnd], q3⟩], 0, 0) = .ok [.loop wFiring ([.lit a] ++ .place [wLabel, [97]] [] :: [])] := by kernel_rfl
theorem toks_range11 (a b : Bytes) (q0 q1 q2 q3 : Nat) : ofToks ([⟨[], [wRange, wFiring], 0⟩, ⟨a, [], q0⟩, ⟨[], [wLabel, [97]], q1⟩, ⟨b, [], q2⟩, ⟨[], [wEnd], q3⟩], 0, 0) = .ok [.loop wFiring ([.lit a] ++ .place [wLabel, [97]] [] :: [.lit b])] := by kernel_rfl
theorem toks_choice00 (a b : Bytes) (q0 q1 q2 q3 : Nat) : ofToks ([⟨[], [wIf, wGroup, [97]], 0⟩, ⟨[], [wElse], q1⟩, ⟨[], [wEnd], q3⟩], 0, 0) = .ok [.choice [wGroup, [97]] [] [] []] := by kernel_rfl
theorem toks_choice01 (a b : Bytes) (q0 q1 q2 q3 : Nat) : ofToks ([⟨[], [wIf, wGroup, [97]], 0⟩, ⟨[], [wElse], q1⟩, ⟨b, [], q2⟩, ⟨[], [wEnd], q3⟩], 0, 0) = .ok [.choice [wGroup, [97]] [] [] [.lit b]] := by kernel_rfl
theorem toks_choice10 (a b : Bytes) (q0 q1 q2 q3 : Nat) : ofToks ([⟨[], [wIf, wGroup, [97]], 0⟩, ⟨a, [], q0⟩, ⟨[], [wElse], q1⟩, ⟨[], [wEnd], q3⟩], 0, 0) = .ok [.choice [wGroup, [97]] [] [.lit a] []] := by kernel_rfl
theorem toks_choice11 (a b : Bytes) (q0 q1 q2 q3 : Nat) : ofToks ([⟨[], [wIf, wGroup, [97]], 0⟩, ⟨a, [], q0⟩, ⟨[], [wElse], q1⟩, ⟨b, [], q2⟩, ⟨[], [wEnd], q3⟩], 0, 0) = .ok [.choice [wGroup, [97]] [] [.lit a] [.lit b]] := by kernel_rfl
theorem toks_short0 (a : Bytes) (q0 q1 : Nat) : ofToks ([⟨[], [wIf, wGroup, [97]], 0⟩, ⟨[], [wEnd], q1⟩], 0, 0) = .ok [.choice [wGroup, [97]] [] [] []] := by kernel_rfl
theorem toks_short1 (a : Bytes) (q0 q1 : Nat) : ofToks ([⟨[], [wIf, wGroup, [97]], 0⟩, ⟨a, [], q0⟩, ⟨[], [wEnd], q1⟩], 0, 0) = .ok [.choice [wGroup, [97]] [] [.lit a] []] := by kernel_rfl
theorem parse_range {a b : Bytes} (ha : hasM a = false) (hb : hasM b = false) (hla : a.length ≤ 100) (hlb : b.length ≤ 100) :
    parseM (rangeT a b) = .ok [.loop wFiring (litL a ++ .place [wLabel, [97]] [] :: litL b)] := by
  have hlen : (rangeT a b).length = 34 + a.length + b.length := by simp [rangeT, inB, bRange, bLabel, bEnd]; omega
  obtain ⟨k, hk⟩ : ∃ k, (rangeT a b).length + 1 = k + 1 + 1 + 1 + 1 := ⟨(rangeT a b).length - 3, by omega⟩
  obtain ⟨p1, hp1⟩ : ∃ p, 0 + ([] : Bytes).length + (2 + bRange.length + 2) = p := ⟨_, rfl⟩
  have s1 := split_step (f := k + 1 + 1 + 1) (p := 0) (t := rangeT a b) (a := []) (w := bRange) (r := a ++ inB bLabel (b ++ inB bEnd [])) (out := []) rfl (by simp) (by decide) (by rw [w_range]; simp)
  rw [hp1] at s1
  obtain ⟨p2, hp2⟩ : ∃ p, p1 + a.length + (2 + bLabel.length + 2) = p := ⟨_, rfl⟩
  have s2 := fun out => split_step (f := k + 1 + 1) (p := p1) (t := rangeT a b) (a := a) (w := bLabel) (r := b ++ inB bEnd []) (out := out) s1.2 (has_not ha).1 (by decide) (by rw [w_label]; simp)
  rw [hp2] at s2
  obtain ⟨p3, hp3⟩ : ∃ p, p2 + b.length + (2 + bEnd.length + 2) = p := ⟨_, rfl⟩
  have s3 := fun out => split_step (f := k + 1) (p := p2) (t := rangeT a b) (a := b) (w := bEnd) (r := []) (out := out) (s2 []).2 (has_not hb).1 (by decide) (by rw [w_end]; simp)
  rw [hp3] at s3
  have s4 := fun out => split_end (f := k) (p := p3) (t := rangeT a b) (out := out) (s3 []).2
  have e0 : splitT (rangeT a b) = splitM (k + 1 + 1 + 1 + 1) (rangeT a b) 0 [] := by
    unfold splitT
    rw [if_neg (by omega), hk]
  have hs := e0.trans (s1.1.trans ((s2 _).1.trans ((s3 _).1.trans (s4 _))))
  rw [parse_of, hs, w_range, w_label, w_end]
  clear e0 hs s1 s2 s3 s4
  obtain ⟨q1, hq1⟩ : ∃ q, p1 + a.length = q := ⟨_, rfl⟩
  obtain ⟨q2, hq2⟩ : ∃ q, p2 + b.length = q := ⟨_, rfl⟩
  rw [hq1, hq2]
  clear hq1 hq2 hp1 hp2 hp3 hk hlen
  unfold litL
  rw [if_pos rfl]
  by_cases h1 : a = []
  · by_cases h2 : b = []
    · rw [if_pos h1, if_pos h1, if_pos h2, if_pos h2]
      exact toks_range00 a b 0 _ 0 _
    · rw [if_pos h1, if_pos h1, if_neg h2, if_neg h2]
      exact toks_range01 a b 0 _ _ _
  · by_cases h2 : b = []
    · rw [if_neg h1, if_neg h1, if_pos h2, if_pos h2]
      exact toks_range10 a b _ _ 0 _
    · rw [if_neg h1, if_neg h1, if_neg h2, if_neg h2]
      exact toks_range11 a b _ _ _ _
theorem parse_choice {a b : Bytes} (ha : hasM a = false) (hb : hasM b = false) (hla : a.length ≤ 100) (hlb : b.length ≤ 100) :
    parseM (choiceT a b) = .ok [.choice [wGroup, [97]] [] (litL a) (litL b)] := by
  have hlen : (choiceT a b).length = 29 + a.length + b.length := by simp [choiceT, inB, bIf, bElse, bEnd]; omega
  obtain ⟨k, hk⟩ : ∃ k, (choiceT a b).length + 1 = k + 1 + 1 + 1 + 1 := ⟨(choiceT a b).length - 3, by omega⟩
  obtain ⟨p1, hp1⟩ : ∃ p, 0 + ([] : Bytes).length + (2 + bIf.length + 2) = p := ⟨_, rfl⟩
  have s1 := split_step (f := k + 1 + 1 + 1) (p := 0) (t := choiceT a b) (a := []) (w := bIf) (r := a ++ inB bElse (b ++ inB bEnd [])) (out := []) rfl (by simp) (by decide) (by rw [w_if]; simp)
  rw [hp1] at s1
  obtain ⟨p2, hp2⟩ : ∃ p, p1 + a.length + (2 + bElse.length + 2) = p := ⟨_, rfl⟩
  have s2 := fun out => split_step (f := k + 1 + 1) (p := p1) (t := choiceT a b) (a := a) (w := bElse) (r := b ++ inB bEnd []) (out := out) s1.2 (has_not ha).1 (by decide) (by rw [w_else]; simp)
  rw [hp2] at s2
  obtain ⟨p3, hp3⟩ : ∃ p, p2 + b.length + (2 + bEnd.length + 2) = p := ⟨_, rfl⟩
  have s3 := fun out => split_step (f := k + 1) (p := p2) (t := choiceT a b) (a := b) (w := bEnd) (r := []) (out := out) (s2 []).2 (has_not hb).1 (by decide) (by rw [w_end]; simp)
  rw [hp3] at s3
  have s4 := fun out => split_end (f := k) (p := p3) (t := choiceT a b) (out := out) (s3 []).2
  have e0 : splitT (choiceT a b) = splitM (k + 1 + 1 + 1 + 1) (choiceT a b) 0 [] := by
    unfold splitT
    rw [if_neg (by omega), hk]
  have hs := e0.trans (s1.1.trans ((s2 _).1.trans ((s3 _).1.trans (s4 _))))
  rw [parse_of, hs, w_if, w_else, w_end]
  clear e0 hs s1 s2 s3 s4
  obtain ⟨q1, hq1⟩ : ∃ q, p1 + a.length = q := ⟨_, rfl⟩
  obtain ⟨q2, hq2⟩ : ∃ q, p2 + b.length = q := ⟨_, rfl⟩
  rw [hq1, hq2]
  clear hq1 hq2 hp1 hp2 hp3 hk hlen
  unfold litL
  rw [if_pos rfl]
  by_cases h1 : a = []
  · by_cases h2 : b = []
    · rw [if_pos h1, if_pos h1, if_pos h2, if_pos h2]
      exact toks_choice00 a b 0 _ 0 _
    · rw [if_pos h1, if_pos h1, if_neg h2, if_neg h2]
      exact toks_choice01 a b 0 _ _ _
  · by_cases h2 : b = []
    · rw [if_neg h1, if_neg h1, if_pos h2, if_pos h2]
      exact toks_choice10 a b _ _ 0 _
    · rw [if_neg h1, if_neg h1, if_neg h2, if_neg h2]
      exact toks_choice11 a b _ _ _ _
theorem parse_short {a : Bytes} (ha : hasM a = false) (hla : a.length ≤ 100) :
    parseM (shortT a) = .ok [.choice [wGroup, [97]] [] (litL a) []] := by
  have hlen : (shortT a).length = 21 + a.length := by simp [shortT, inB, bIf, bEnd]; omega
  obtain ⟨k, hk⟩ : ∃ k, (shortT a).length + 1 = k + 1 + 1 + 1 := ⟨(shortT a).length - 2, by omega⟩
  obtain ⟨p1, hp1⟩ : ∃ p, 0 + ([] : Bytes).length + (2 + bIf.length + 2) = p := ⟨_, rfl⟩
  have s1 := split_step (f := k + 1 + 1) (p := 0) (t := shortT a) (a := []) (w := bIf) (r := a ++ inB bEnd []) (out := []) rfl (by simp) (by decide) (by rw [w_if]; simp)
  rw [hp1] at s1
  obtain ⟨p2, hp2⟩ : ∃ p, p1 + a.length + (2 + bEnd.length + 2) = p := ⟨_, rfl⟩
  have s2 := fun out => split_step (f := k + 1) (p := p1) (t := shortT a) (a := a) (w := bEnd) (r := []) (out := out) s1.2 (has_not ha).1 (by decide) (by rw [w_end]; simp)
  rw [hp2] at s2
  have s4 := fun out => split_end (f := k) (p := p2) (t := shortT a) (out := out) (s2 []).2
  have e0 : splitT (shortT a) = splitM (k + 1 + 1 + 1) (shortT a) 0 [] := by
    unfold splitT
    rw [if_neg (by omega), hk]
  have hs := e0.trans (s1.1.trans ((s2 _).1.trans (s4 _)))
  rw [parse_of, hs, w_if, w_end]
  clear e0 hs s1 s2 s4
  obtain ⟨q1, hq1⟩ : ∃ q, p1 + a.length = q := ⟨_, rfl⟩
  rw [hq1]
  clear hq1 hp1 hp2 hk hlen
  unfold litL
  rw [if_pos rfl]
  by_cases h1 : a = []
  · rw [if_pos h1, if_pos h1]
    exact toks_short0 a 0 _
  · rw [if_neg h1, if_neg h1]
    exact toks_short1 a _ _
theorem parse_group : parseM groupT = .ok [.place [wGroup, [97]] []] := by kernel_rfl

/-- Good messages: their lists are short, and sorted. -/
theorem chk_zero {m : MsgM} (h : chkM m = 0) : m.firing.length ≤ 64 ∧ m.resolved.length ≤ 64 ∧ checkM m.group = 0 ∧ chkAll m.firing = 0 := by
  unfold chkM at h
  split at h
  · simp at h
  · split at h
    · simp at h
    · split at h
      · contradiction
      · split at h
        · contradiction
        · rename_i h1 h2 h3 h4
          exact ⟨by omega, by omega, by omega, by omega⟩
theorem chkAll_mem {L : List (List S40)} (h : chkAll L = 0) : ∀ l ∈ L, checkM l = 0 := by
  induction L with
  | nil => simp
  | cons a L ih =>
    rw [chkAll] at h
    split at h
    · contradiction
    · rename_i h0
      intro l hl
      rcases List.mem_cons.1 hl with rfl | hl
      · omega
      · exact ih h l hl
theorem check_zero {l : List S40} (h : checkM l = 0) : l.length ≤ 8 ∧ (∀ p ∈ l, p.f1.size ≤ 64) ∧ sortedTo l l.length := by
  unfold checkM at h
  split at h
  · contradiction
  · rename_i h0
    split at h
    · rename_i h1
      have hp : partsM l = 0 := by omega
      unfold partsM at hp
      split at hp
      · simp at hp
      · rename_i h2
        refine ⟨by omega, fun p hp => ?_, h1⟩
        have h3 : l.any longB = false := by
          cases hx : l.any longB with
          | false => rfl
          | true => exact absurd (Or.inr hx) h2
        rw [List.any_eq_false] at h3
        have := h3 p hp
        simp [longB] at this
        exact this
    · simp at h
theorem cmp_trans : ∀ {a b c : Bytes}, Lib.compareBytes a b < 0 → Lib.compareBytes b c < 0 → Lib.compareBytes a c < 0
  | [], [], c, h, _ => by simp [Lib.compareBytes] at h
  | [], _ :: _, [], _, h => by simp [Lib.compareBytes] at h
  | [], _ :: _, _ :: _, _, _ => by simp [Lib.compareBytes]
  | _ :: _, [], c, h, _ => by simp [Lib.compareBytes] at h
  | _ :: _, _ :: _, [], _, h => by simp [Lib.compareBytes] at h
  | x :: a, y :: b, z :: c, h1, h2 => by
    have ih := @cmp_trans a b c
    simp only [Lib.compareBytes] at h1 h2 ⊢
    split at h1
    · rename_i hxy
      split at h2
      · rename_i hyz
        rw [if_pos (UInt8.lt_trans hxy hyz)]; decide
      · rename_i hyz
        split at h2
        · simp at h2
        · rename_i hzy
          have : y = z := UInt8.toNat_inj.1 (by rw [UInt8.lt_iff_toNat_lt] at hyz hzy; omega)
          subst this
          rw [if_pos hxy]; decide
    · rename_i hxy
      split at h1
      · simp at h1
      · rename_i hyx
        have : x = y := UInt8.toNat_inj.1 (by rw [UInt8.lt_iff_toNat_lt] at hxy hyx; omega)
        subst this
        split at h2
        · rename_i hyz
          rw [if_pos hyz]; decide
        · rename_i hyz
          split at h2
          · simp at h2
          · rename_i hzy
            rw [if_neg hyz, if_neg hzy]
            exact ih h1 h2
theorem cmp_self : ∀ a : Bytes, Lib.compareBytes a a = 0
  | [] => rfl
  | x :: a => by
    simp only [Lib.compareBytes]
    rw [if_neg (by simp), if_neg (by simp), cmp_self a]
theorem sorted_lt {l : List S40} (h : sortedTo l l.length) : ∀ {i j : Nat} (hij : i < j) (hj : j < l.length), cmpM (l[i]'(by omega)) l[j] < 0 := by
  intro i j hij hj
  induction j with
  | zero => omega
  | succ j ih =>
    have h1 := h (j + 1) hj (by omega) hj
    simp only [Nat.add_sub_cancel] at h1
    by_cases he : i = j
    · subst he; exact h1
    · exact cmp_trans (ih (by omega) (by omega)) h1
/-- The last one of a name. -/
def lastM (l : List S40) (n : Bytes) : Bytes := l.foldl (fun v p => if bts p.f0 = n then bts p.f1 else v) []
theorem fold_none (l : List S40) (n v : Bytes) (h : ∀ p ∈ l, bts p.f0 ≠ n) : l.foldl (fun v p => if bts p.f0 = n then bts p.f1 else v) v = v := by
  induction l generalizing v with
  | nil => rfl
  | cons a l ih =>
    rw [List.foldl_cons, if_neg (h a (List.mem_cons_self ..))]
    exact ih v (fun p hp => h p (List.mem_cons_of_mem _ hp))
theorem last_get {l : List S40} (h : sortedTo l l.length) (n : Bytes) : lastM l n = getM l n := by
  have hne : ∀ i j (hij : i < j) (hj : j < l.length), bts (l[i]'(by omega)).f0 ≠ bts l[j].f0 := by
    intro i j hij hj he
    have := sorted_lt h hij hj
    unfold cmpM at this
    rw [he, cmp_self] at this
    omega
  clear h
  unfold lastM
  induction l with
  | nil => rfl
  | cons a l ih =>
    rw [List.foldl_cons, getM]
    by_cases ha : bts a.f0 = n
    · rw [if_pos ha, if_pos ha]
      refine fold_none l n _ (fun p hp he => ?_)
      obtain ⟨j, hj, rfl⟩ := List.getElem_of_mem hp
      have := hne 0 (j + 1) (by omega) (by simpa using hj)
      simp at this
      exact this (ha.trans he.symm)
    · rw [if_neg ha, if_neg ha]
      exact ih (fun i j hij hj => by have := hne (i + 1) (j + 1) (by omega) (by simpa using hj); simpa using this)
theorem get_short {l : List S40} {B : Nat} (h : ∀ p ∈ l, p.f1.size ≤ B) (n : Bytes) : (getM l n).length ≤ B := by
  induction l with
  | nil => simp [getM]
  | cons a l ih =>
    rw [getM]
    split
    · exact h a (List.mem_cons_self ..)
    · exact ih (fun p hp => h p (List.mem_cons_of_mem _ hp))
/-- What a range says. -/
def rangeM (m : MsgM) (a b : Bytes) : Bytes := m.firing.flatMap (fun al => a ++ getM al [97] ++ b)
theorem rend_lits (m : MsgM) (al : List S40) (s : Bytes) (d : Nat) : (litL s).flatMap (rendM m (d + 1) al) = s := by
  unfold litL
  by_cases h : s = []
  · rw [if_pos h, h]; rfl
  · rw [if_neg h]; simp [rendM]
theorem good_lits (m : MsgM) (al : List S40) (s : Bytes) (d : Nat) : ∀ x ∈ litL s, goodM m (d + 1) al x := by
  intro x hx
  unfold litL at hx
  by_cases h : s = []
  · rw [if_pos h] at hx; simp at hx
  · rw [if_neg h] at hx
    rw [List.mem_singleton.1 hx]
    trivial
theorem lits_len (s : Bytes) : (litL s).length ≤ 1 := by unfold litL; split <;> simp
theorem rend_range (m : MsgM) (a b : Bytes) : rendsM m 2 [] [.loop wFiring (litL a ++ .place [wLabel, [97]] [] :: litL b)] = rangeM m a b := by
  unfold rendsM rangeM
  simp only [List.flatMap_cons, List.flatMap_nil, List.append_nil, rendM]
  rw [show listsM m wFiring = m.firing from rfl]
  congr 1
  funext al
  rw [List.flatMap_append, rend_lits m al a 0, List.flatMap_cons, rend_lits m al b 0]
  rw [show rendM m 1 al (.place [wLabel, [97]] []) = getM al [97] from rfl, List.append_assoc]
theorem flat_len {α : Type} (L : List α) (f : α → Bytes) (B : Nat) (h : ∀ x ∈ L, (f x).length ≤ B) : (L.flatMap f).length ≤ L.length * B := by
  induction L with
  | nil => simp
  | cons a L ih =>
    rw [List.flatMap_cons, List.length_append, List.length_cons, Nat.add_mul]
    have h1 := h a (List.mem_cons_self ..)
    have h2 := ih (fun x hx => h x (List.mem_cons_of_mem _ hx))
    omega
theorem get_64 {m : MsgM} (h : chkM m = 0) {al : List S40} (hal : al ∈ m.firing) : (getM al [97]).length ≤ 64 := get_short (check_zero (chkAll_mem (chk_zero h).2.2.2 al hal)).2.1 _
theorem range_len {m : MsgM} (h : chkM m = 0) {a b : Bytes} (hla : a.length ≤ 100) (hlb : b.length ≤ 100) : (rangeM m a b).length ≤ 16896 := by
  have h1 := flat_len m.firing (fun al => a ++ getM al [97] ++ b) 264 (fun al hal => by
    have := get_64 h hal
    simp; omega)
  have h2 := (chk_zero h).1
  unfold rangeM
  have h3 : m.firing.length * 264 ≤ 64 * 264 := Nat.mul_le_mul_right _ h2
  omega
theorem good_range {m : MsgM} (h : chkM m = 0) (a b : Bytes) : ∀ x ∈ [Nd.loop wFiring (litL a ++ .place [wLabel, [97]] [] :: litL b)], goodM m 2 [] x := by
  intro x hx
  rw [List.mem_singleton.1 hx]
  refine ⟨rfl, ?_, (chk_zero h).1, ?_⟩
  · have h1 := lits_len a
    have h2 := lits_len b
    simp; omega
  · intro al hal x hx
    rcases List.mem_append.1 hx with hx | hx
    · exact good_lits m al a 0 x hx
    · rcases List.mem_cons.1 hx with rfl | hx
      · refine ⟨by kernel_rfl, rfl, ?_, by decide, by simp, by simp⟩
        have := get_64 h hal
        show (getM al [97]).length ≤ 65536
        omega
      · exact good_lits m al b 0 x hx
theorem get_group {m : MsgM} (h : chkM m = 0) : (getM m.group [97]).length ≤ 64 := get_short (check_zero (chk_zero h).2.2.1).2.1 _
theorem rend_group (m : MsgM) : rendsM m 1 [] [.place [wGroup, [97]] []] = getM m.group [97] := by
  unfold rendsM
  simp only [List.flatMap_cons, List.flatMap_nil, List.append_nil]
  rfl
theorem good_group {m : MsgM} (h : chkM m = 0) : goodP m [] [wGroup, [97]] [] := by
  refine ⟨by kernel_rfl, rfl, ?_, by decide, by simp, by simp⟩
  have := get_group h
  show (getM m.group [97]).length ≤ 65536
  omega
theorem rend_choice (m : MsgM) (a b : Bytes) : rendsM m 2 [] [.choice [wGroup, [97]] [] (litL a) (litL b)] = if getM m.group [97] = [] then b else a := by
  unfold rendsM
  simp only [List.flatMap_cons, List.flatMap_nil, List.append_nil, rendM]
  rw [rend_lits m [] a 0, rend_lits m [] b 0]
  rfl
theorem good_choice {m : MsgM} (h : chkM m = 0) (a b : Bytes) : ∀ x ∈ [Nd.choice [wGroup, [97]] [] (litL a) (litL b)], goodM m 2 [] x := by
  intro x hx
  rw [List.mem_singleton.1 hx]
  have h1 := lits_len a
  have h2 := lits_len b
  exact ⟨good_group h, by omega, by omega, good_lits m [] a 0, good_lits m [] b 0⟩

theorem byte_125 {c : UInt8} : (c = 125) ↔ ((c.toNat : Int) = 125) := by
  constructor
  · rintro rfl; rfl
  · intro h
    have : c.toNat = (125 : UInt8).toNat := by show c.toNat = 125; omega
    exact UInt8.toNat_inj.1 this
def HasRel (w : World) (t : Bytes) (v : Value) (wr : World) : Prop := ∃ i : Nat, v = .int .i64 i ∧ i ≤ t.length ∧ wr = w ∧ hasM (t.take i) = false
theorem has_step {t : Bytes} {i : Nat} (h : hasM (t.take i) = false) (hi : i < t.length) (h1 : ¬ ((t[i].toNat : Int) = 123)) (h2 : ¬ ((t[i].toNat : Int) = 125)) : hasM (t.take (i + 1)) = false := by
  unfold hasM at h ⊢
  rw [List.take_succ_eq_append_getElem hi, List.any_append, h]
  have h3 : ¬ t[i] = 123 := fun e => h1 (byte_123.1 e)
  have h4 : ¬ t[i] = 125 := fun e => h2 (byte_125.1 e)
  simp [h3, h4]
theorem has_yes {t : Bytes} {i : Nat} (hi : i < t.length) (h : ((t[i].toNat : Int) = 123) ∨ ((t[i].toNat : Int) = 125)) : hasM t = true := by
  unfold hasM
  rw [List.any_eq_true]
  refine ⟨t[i], List.getElem_mem hi, ?_⟩
  rcases h with h | h
  · rw [byte_123.2 h]; rfl
  · rw [byte_125.2 h]; rfl
set_option maxRecDepth 100000 in
set_option maxHeartbeats 800000 in
theorem has_any (w : World) (t : Bytes) (hl : t.length ≤ 100) : Calls Tryz.prog 19 #[.string (str t)] w fun e w' => e = .returned (.bool (hasM t)) ∧ w' = w := by
  have hz := str_size t
  go_enter Tryz.func19, Tryz.ntmps19
  go_wp2_with fail
  go_loopw [3] (fun v wr => HasRel w t v wr) (fun v _ => t.length - (intOf v).toNat)
  case atStart => exact ⟨0, rfl, Nat.zero_le _, rfl, rfl⟩
  case round =>
    obtain ⟨i, rfl, hi, rfl, hno⟩ := hrel
    by_cases hit : i < t.length
    · have hii : (i : Int) < (t.length : Int) := by omega
      have hi0 : (0 : Int) ≤ (i : Int) := by omega
      have hw1 : IntKind.i64.wrap ((i : Int) + 1) = ((i + 1 : Nat) : Int) := by rw [IntKind.wrap_i64]; omega
      go_wp2_with fail
      · rename_i h1
        have hy := has_yes hit (Or.inl h1)
        go_ret
        exact ⟨by rw [hy]; rfl, rfl⟩
      · rename_i h1 h2
        have hy : hasM t = true := by
          rcases h2 with h2 | h2
          · exact absurd (eq_of_beq h2) h1
          · exact has_yes hit (Or.inr (eq_of_beq h2))
        go_ret
        exact ⟨by rw [hy]; rfl, rfl⟩
      · rename_i h1 h2
        refine ⟨⟨i + 1, rfl, hit, rfl, has_step hno hit h1 (fun h => ?_)⟩, ?_⟩
        · have h3 := h2.2
          rw [beq_eq_false_iff_ne] at h3
          exact h3 h
        · simp [intOf]; omega
    · have hii : ¬ (i : Int) < (t.length : Int) := by omega
      have hall : hasM t = false := by rw [List.take_of_length_le (by omega)] at hno; exact hno
      go_wp2_with fail
      go_ret
      exact ⟨rfl, rfl⟩
end Go.Proofs.YtllhpkpckjacfaaGreatDoor
