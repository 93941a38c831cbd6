/- What is quoted is read as it was; a quotation that is cut off is none. -/
import Derived.Test.YtcdeikhfmllkdaaGreatDoorBkA
namespace Go.Proofs.YtcdeikhfmllkdaaGreatDoor
open Go.RowKit
set_option linter.unusedVariables false
set_option linter.unusedSimpArgs false

theorem quotM_cons (f : Nat) (c : UInt8) (t out : Bytes) : quotM (f + 1) (c :: t) out = if c.toNat < 32 then none else if c = 34 then some (out, t) else if c = 92 then (escM t).bind fun z => quotM f z.2 (out ++ z.1)
    else if (Lib.decodeGo (str (c :: t))).1 = 65533 ∧ (Lib.decodeGo (str (c :: t))).2 ≤ 1 then none
    else quotM f ((c :: t).drop (Lib.decodeGo (str (c :: t))).2) (out ++ (c :: t).take (Lib.decodeGo (str (c :: t))).2) := rfl
theorem escM_u (t : Bytes) : escM (117 :: t) = (uniM t).map (fun z => (Lib.encodeRune z.1, z.2)) := rfl
theorem hex_digit : ∀ i : Fin 16, hexV (hexDs.getD i.val 0) = some i.val := by decide +kernel
theorem hexV_d {i : Nat} (h : i < 16) : hexV (hexDs.getD i 0) = some i := hex_digit ⟨i, h⟩
theorem enc_one {c : UInt8} (h : c.toNat < 128) : Lib.encodeRune (c.toNat : Int) = [c] := by
  unfold Lib.encodeRune
  rw [Lib.encodeRuneZ_one (by omega) (by omega)]
  simp
theorem esc_low {c : UInt8} (h : c.toNat < 32) (u : Bytes) : escM (117 :: 48 :: 48 :: hexDs.getD (c.toNat / 16) 0 :: hexDs.getD (c.toNat % 16) 0 :: u) = some ([c], u) := by
  have h48 : hexV 48 = some 0 := by decide +kernel
  have hn : hexN [0, 0, c.toNat / 16, c.toNat % 16] = c.toNat := by simp only [hexN, List.foldl]; omega
  have hu : uniM (48 :: 48 :: hexDs.getD (c.toNat / 16) 0 :: hexDs.getD (c.toNat % 16) 0 :: u) = some (c.toNat, u) := by
    unfold uniM fourM
    simp only [h48, hexV_d (show c.toNat / 16 < 16 by omega), hexV_d (show c.toNat % 16 < 16 by omega), Option.bind_some, Option.map_some, hn]
    rw [if_pos (.inl (by omega))]
  rw [escM_u, hu]
  simp only [Option.map_some, enc_one (show c.toNat < 128 by omega)]

theorem quot_esc (f : Nat) (t out : Bytes) : quotM (f + 1) (92 :: t) out = (escM t).bind fun z => quotM f z.2 (out ++ z.1) := by
  rw [quotM_cons]
  rw [if_neg (by decide), if_neg (by decide), if_pos rfl]
theorem quot_plain (f : Nat) (p u out : Bytes) {r : Nat} (h : Piece p r) (h34 : p ≠ [34]) (h92 : p ≠ [92]) (h32 : ∀ c ∈ p, 32 ≤ c.toNat) : quotM (f + 1) (p ++ u) out = quotM f u (out ++ p) := by
  obtain ⟨c, t, hp⟩ : ∃ c t, p = c :: t := by
    cases p with
    | nil => exact absurd rfl h.ne
    | cons c t => exact ⟨c, t, rfl⟩
  have hm := h.more u
  have hcu : p ++ u = c :: (t ++ u) := by rw [hp]; rfl
  rw [hcu] at hm
  have hg := dec_go (c :: (t ++ u)) (by simp)
  rw [hm] at hg
  have hf := h.form
  have n34 : c ≠ 34 := by
    rintro rfl
    rcases hf with ⟨d, e, _⟩ | ⟨h1, h2, h3, _⟩
    · rw [hp] at e; simp only [List.cons.injEq] at e; rw [e.2] at hp; exact h34 hp
    · have := h3 34 (by rw [hp]; simp); simp at this
  have n92 : c ≠ 92 := by
    rintro rfl
    rcases hf with ⟨d, e, _⟩ | ⟨h1, h2, h3, _⟩
    · rw [hp] at e; simp only [List.cons.injEq] at e; rw [e.2] at hp; exact h92 hp
    · have := h3 92 (by rw [hp]; simp); simp at this
  have n32 := h32 c (by rw [hp]; simp)
  have hgood : ¬ (r = 65533 ∧ p.length ≤ 1) := fun ⟨a, b⟩ => h.good ⟨a, by have := List.length_pos_iff.2 h.ne; omega⟩
  rw [hcu]
  rw [quotM_cons]
  rw [if_neg (by omega), if_neg n34, if_neg n92, hg, if_neg hgood, ← hcu]
  congr 1
  · simp
  · congr 1; simp
theorem quot_piece (f : Nat) {p : Bytes} {r : Nat} (h : Piece p r) (u out : Bytes) : quotM (f + 1) (p.flatMap quoteB ++ u) out = quotM f u (out ++ p) := by
  rcases h.form with ⟨c, rfl, hc, rfl⟩ | ⟨h1, h2, h3, _⟩
  · by_cases c1 : c = 34 ∨ c = 92
    · have e : [c].flatMap quoteB = [92, c] := by simp only [List.flatMap_cons, List.flatMap_nil, List.append_nil, quoteB, if_pos c1]
      rw [e]
      show quotM (f + 1) (92 :: (c :: u)) out = _
      rw [quot_esc]
      have : escM (c :: u) = some ([c], u) := by
        unfold escM
        dsimp only
        rw [if_pos (by rcases c1 with h | h; exact .inl h; exact .inr (.inl h))]
      rw [this]; rfl
    by_cases c2 : c.toNat < 32
    · have e : [c].flatMap quoteB = [92, 117, 48, 48, hexDs.getD (c.toNat / 16) 0, hexDs.getD (c.toNat % 16) 0] := by simp only [List.flatMap_cons, List.flatMap_nil, List.append_nil, quoteB, if_neg c1, if_pos c2]
      rw [e]
      show quotM (f + 1) (92 :: (117 :: 48 :: 48 :: hexDs.getD (c.toNat / 16) 0 :: hexDs.getD (c.toNat % 16) 0 :: u)) out = _
      rw [quot_esc, esc_low c2 u]; rfl
    · have e : [c].flatMap quoteB = [c] := by simp only [List.flatMap_cons, List.flatMap_nil, List.append_nil, quoteB, if_neg c1, if_neg c2]
      rw [e]
      exact quot_plain f [c] u out h (fun e => c1 (.inl (by simpa using e))) (fun e => c1 (.inr (by simpa using e))) (fun d hd => by simp at hd; subst hd; omega)
  · have e : p.flatMap quoteB = p := by
      have : ∀ l : Bytes, (∀ c ∈ l, 128 ≤ c.toNat) → l.flatMap quoteB = l := by
        intro l
        induction l with
        | nil => intro _; rfl
        | cons a l ih =>
          intro hh
          have ha := hh a (by simp)
          rw [List.flatMap_cons, ih (fun c hc => hh c (by simp [hc]))]
          have n34 : ¬ (a = 34 ∨ a = 92) := by rintro (rfl | rfl) <;> simp at ha
          simp only [quoteB, if_neg n34, if_neg (show ¬ a.toNat < 32 by omega)]; rfl
      exact this p h3
    rw [e]
    exact quot_plain f p u out h (fun e => by rw [e] at h1; simp at h1) (fun e => by rw [e] at h1; simp at h1) (fun d hd => by have := h3 d hd; omega)

theorem quoteB_pos (c : UInt8) : 1 ≤ (quoteB c).length := by unfold quoteB; repeat' split <;> simp
theorem quoteBs_ge (s : Bytes) : s.length ≤ (s.flatMap quoteB).length := by
  induction s with
  | nil => simp
  | cons c s ih =>
    have := quoteB_pos c
    simp only [List.flatMap_cons, List.length_append, List.length_cons]
    omega
theorem quot_back (n : Nat) : ∀ (s : Bytes), s.length ≤ n → Lib.validD s = true → ∀ (f : Nat) (u out : Bytes), s.length + 1 ≤ f → quotM f (s.flatMap quoteB ++ (34 :: u)) out = some (out ++ s, u) := by
  induction n with
  | zero =>
    intro s hs hv f u out hf
    obtain rfl : s = [] := List.eq_nil_of_length_eq_zero (by omega)
    obtain ⟨f, rfl⟩ : ∃ k, f = k + 1 := ⟨f - 1, by omega⟩
    simp only [List.flatMap_nil, List.nil_append]
    rw [quotM_cons]
    rw [if_neg (by decide), if_pos rfl]; simp
  | succ n ih =>
    intro s hs hv f u out hf
    by_cases hne : s = []
    · subst hne; exact ih [] (by simp) hv f u out hf
    obtain ⟨p, v, r, rfl, hp, hv2⟩ := valid_split hne hv
    have hl : 1 ≤ p.length := List.length_pos_iff.2 hp.ne
    rw [List.length_append] at hs hf
    obtain ⟨f, rfl⟩ : ∃ k, f = k + 1 := ⟨f - 1, by omega⟩
    rw [List.flatMap_append, List.append_assoc, quot_piece f hp, ih v (by omega) hv2 f u (out ++ p) (by omega), List.append_assoc]
theorem skip_not {c : UInt8} (h : isBlank c = false) (t : Bytes) : skip (c :: t) = c :: t := by
  unfold skip
  rw [List.dropWhile_cons_of_neg (by simp [h])]
theorem quoted_back {s : Bytes} (hv : Lib.validD s = true) (u : Bytes) : quotedM (quoteM s ++ u) = some (s, u) := by
  have e : quoteM s ++ u = 34 :: (s.flatMap quoteB ++ (34 :: u)) := by simp [quoteM]
  unfold quotedM
  rw [e, skip_not (by decide)]
  dsimp only
  rw [if_pos rfl]
  have := quoteBs_ge s
  rw [quot_back s.length s (Nat.le_refl _) hv _ u [] (by simp only [List.length_append, List.length_cons]; omega)]
  simp

/-! ### cut off -/
theorem quot_nil (f : Nat) (out : Bytes) : quotM f [] out = none := by cases f <;> rfl
theorem quot_cut_great {p q : Bytes} {r : Nat} (h : Piece p r) (h2 : 2 ≤ p.length) (hq : q.length < p.length) (he : q = p.take q.length) (f : Nat) (out : Bytes) : quotM f q out = none := by
  cases f with
  | zero => rfl
  | succ f =>
    cases hc : q with
    | nil => rfl
    | cons c t =>
      rcases h.form with ⟨d, rfl, _⟩ | ⟨_, _, h3, h4⟩
      · simp at h2
      have hd := h4 q (by rw [hc]; simp) hq he
      rw [← dec_go q (by rw [hc]; simp), hc] at hd
      have hcm : c ∈ p := List.mem_of_mem_take (i := q.length) (by rw [← he, hc]; simp)
      have h128 := h3 c hcm
      rw [quotM_cons]
      rw [if_neg (by omega), if_neg (by rintro rfl; simp at h128), if_neg (by rintro rfl; simp at h128), hd, if_pos ⟨rfl, Nat.le_refl _⟩]
theorem esc_cut_low {c : UInt8} (q : Bytes) (hq : q.length < 5) (he : q = ([117, 48, 48, hexDs.getD (c.toNat / 16) 0, hexDs.getD (c.toNat % 16) 0] : Bytes).take q.length) : escM q = none := by
  have four : ∀ x : Bytes, x.length < 4 → fourM x = none := by
    intro x hx
    match x, hx with
    | [], _ => rfl
    | [_], _ => rfl
    | [_, _], _ => rfl
    | [_, _, _], _ => rfl
    | _ :: _ :: _ :: _ :: _, hx => simp at hx; omega
  cases hc : q with
  | nil => rfl
  | cons a t =>
    have ha : a = 117 := by rw [hc] at he; simp at he; exact he.1
    subst ha
    have ht : fourM t = none := four t (by rw [hc] at hq; simp at hq; omega)
    rw [escM_u]
    unfold uniM
    rw [ht]; rfl
theorem quot_cut_piece (f : Nat) {p q : Bytes} {r : Nat} (h : Piece p r) (hq : q.length < (p.flatMap quoteB).length) (he : q = (p.flatMap quoteB).take q.length) (out : Bytes) : quotM f q out = none := by
  cases f with
  | zero => rfl
  | succ f =>
  rcases h.form with ⟨c, rfl, hc, rfl⟩ | ⟨h1, h2, h3, _⟩
  · by_cases c1 : c = 34 ∨ c = 92
    · have e : [c].flatMap quoteB = [92, c] := by simp only [List.flatMap_cons, List.flatMap_nil, List.append_nil, quoteB, if_pos c1]
      rw [e] at hq he
      match q, hq, he with
      | [], _, _ => rfl
      | [a], _, he =>
        simp at he; subst he
        rw [quot_esc]; rfl
      | _ :: _ :: _, hq, _ => simp at hq; omega
    by_cases c2 : c.toNat < 32
    · have e : [c].flatMap quoteB = [92, 117, 48, 48, hexDs.getD (c.toNat / 16) 0, hexDs.getD (c.toNat % 16) 0] := by simp only [List.flatMap_cons, List.flatMap_nil, List.append_nil, quoteB, if_neg c1, if_pos c2]
      rw [e] at hq he
      cases hqq : q with
      | nil => rfl
      | cons a t =>
        rw [hqq] at hq he
        simp only [List.length_cons, List.take_succ_cons, List.cons.injEq, List.length_nil] at hq he
        obtain ⟨rfl, he⟩ := he
        rw [quot_esc, esc_cut_low (c := c) t (by omega) he]; rfl
    · have e : [c].flatMap quoteB = [c] := by simp only [List.flatMap_cons, List.flatMap_nil, List.append_nil, quoteB, if_neg c1, if_neg c2]
      rw [e] at hq
      obtain rfl : q = [] := List.eq_nil_of_length_eq_zero (by simp only [List.length_cons, List.length_nil] at hq; omega)
      rfl
  · have e : p.flatMap quoteB = p := by
      have : ∀ l : Bytes, (∀ c ∈ l, 128 ≤ c.toNat) → l.flatMap quoteB = l := by
        intro l
        induction l with
        | nil => intro _; rfl
        | cons a l ih =>
          intro hh
          have ha := hh a (by simp)
          rw [List.flatMap_cons, ih (fun c hc => hh c (by simp [hc]))]
          have n34 : ¬ (a = 34 ∨ a = 92) := by rintro (rfl | rfl) <;> simp at ha
          simp only [quoteB, if_neg n34, if_neg (show ¬ a.toNat < 32 by omega)]; rfl
      exact this p h3
    rw [e] at hq he
    exact quot_cut_great h h1 hq he _ _
theorem take_cut {a b : Bytes} {q : Bytes} (he : q = (a ++ b).take q.length) : (q.length < a.length ∧ q = a.take q.length) ∨ (a.length ≤ q.length ∧ ∃ q', q = a ++ q' ∧ q' = b.take q'.length) := by
  by_cases h : q.length < a.length
  · left; exact ⟨h, by rw [List.take_append_of_le_length (by omega)] at he; exact he⟩
  · right
    obtain ⟨d, hd⟩ : ∃ d, d = q.length - a.length := ⟨_, rfl⟩
    have e : q = a ++ b.take d := by rw [List.take_append, List.take_of_length_le (by omega), ← hd] at he; exact he
    have hl : (b.take d).length = d := by
      have := congrArg List.length e
      rw [List.length_append] at this; omega
    exact ⟨by omega, b.take d, e, by rw [hl]⟩
theorem quot_cut (n : Nat) : ∀ (s : Bytes), s.length ≤ n → Lib.validD s = true → ∀ (f : Nat) (q out : Bytes), q.length < (s.flatMap quoteB ++ [34]).length → q = (s.flatMap quoteB ++ [34]).take q.length → quotM f q out = none := by
  induction n with
  | zero =>
    intro s hs hv f q out hq he
    obtain rfl : s = [] := List.eq_nil_of_length_eq_zero (by omega)
    obtain rfl : q = [] := List.eq_nil_of_length_eq_zero (by simpa using hq)
    exact quot_nil _ _
  | succ n ih =>
    intro s hs hv f q out hq he
    by_cases hne : s = []
    · subst hne; exact ih [] (by simp) hv f q out hq he
    obtain ⟨p, v, r, rfl, hp, hv2⟩ := valid_split hne hv
    have hl : 1 ≤ p.length := List.length_pos_iff.2 hp.ne
    rw [List.length_append] at hs
    rw [List.flatMap_append, List.append_assoc] at hq he
    rcases take_cut he with ⟨h1, h2⟩ | ⟨h1, q', rfl, h3⟩
    · exact quot_cut_piece f hp h1 h2 out
    · cases f with
      | zero => rfl
      | succ f =>
        rw [quot_piece f hp]
        exact ih v (by omega) hv2 f q' _ (by simp only [List.length_append] at hq ⊢; omega) h3
theorem quoted_cut {s : Bytes} (hv : Lib.validD s = true) {q : Bytes} (hq : q.length < (quoteM s).length) (he : q = (quoteM s).take q.length) : quotedM q = none := by
  have e : quoteM s = 34 :: (s.flatMap quoteB ++ [34]) := by simp [quoteM]
  cases hc : q with
  | nil => rfl
  | cons a t =>
    rw [hc, e] at hq he
    simp only [List.length_cons, List.take_succ_cons, List.cons.injEq] at hq he
    obtain ⟨rfl, he⟩ := he
    unfold quotedM
    rw [skip_not (by decide)]
    dsimp only
    rw [if_pos rfl]
    exact quot_cut s.length s (Nat.le_refl _) hv _ t [] (by simp only [List.length_append, List.length_cons, List.length_nil] at hq ⊢; omega) he
end Go.Proofs.YtcdeikhfmllkdaaGreatDoor
