/- template's parser as a plain function: nodes out of tokens. -/
import Derived.Test.YtllhpkpckjacfaaGreatDoorTaF
namespace Go.Proofs.YtllhpkpckjacfaaGreatDoor
open Go.RowKit Go.Proofs.YtllhpkpckjacfaaGreatDoorW.PrintWords PTemplateFilters
set_option linter.unusedVariables false
set_option linter.unusedSimpArgs false

/-- A template's parts. -/
inductive Nd where
  | lit (s : Bytes)
  | place (value : List Bytes) (filters : List (List Bytes))
  | loop (list : Bytes) (inn : List Nd)
  | choice (value : List Bytes) (filters : List (List Bytes)) (yes less : List Nd)
def wRange : Bytes := [114, 97, 110, 103, 101]
def wIf : Bytes := [105, 102]
def wElse : Bytes := [101, 108, 115, 101]
def wEnd : Bytes := [101, 110, 100]
/-- What the parser holds, but for the tokens. -/
structure PS where
  pos : Nat
  deep : Nat
  within : Bool
  wrong : Int
def tok0 : Tok := ⟨[], [], 0⟩
def okM (w : List Bytes) (within : Bool) : Bool := standsM (barsM w).1 within && (barsM w).2.all filtersM
def failM (l : List Tok) (s : PS) (i : Nat) : PS := { s with wrong := ((l.getD i tok0).pos : Nat) }
def nextM (l : List Tok) (s : PS) (word : Bytes) : Bool × PS := if s.pos < l.length ∧ (l.getD s.pos tok0).words = [word] then (true, { s with pos := s.pos + 1 }) else (false, s)
def closeM (l : List Tok) (s : PS) (i : Nat) : Bool × PS :=
  if 0 ≤ s.wrong then (false, s)
  else if (nextM l s wEnd).1 then nextM l s wEnd
  else if s.pos < l.length then (false, failM l s s.pos)
  else (false, failM l s i)
def placeM (l : List Tok) (s : PS) (w : List Bytes) (i : Nat) : Option Nd × PS :=
  if okM w s.within then (some (.place (barsM w).1 (barsM w).2), s) else (none, failM l s i)
mutual
def nodesM : Nat → List Tok → PS → List Nd × PS
  | 0, _, s => ([], s)
  | f + 1, l, s =>
    if s.pos < l.length ∧ s.wrong < 0 then
      if (l.getD s.pos tok0).words = [wEnd] ∨ (l.getD s.pos tok0).words = [wElse] then ([], s)
      else
        ((oneM f l { s with pos := s.pos + 1 } (l.getD s.pos tok0) s.pos).1.toList ++ (nodesM f l (oneM f l { s with pos := s.pos + 1 } (l.getD s.pos tok0) s.pos).2).1,
          (nodesM f l (oneM f l { s with pos := s.pos + 1 } (l.getD s.pos tok0) s.pos).2).2)
    else ([], s)
def oneM : Nat → List Tok → PS → Tok → Nat → Option Nd × PS
  | 0, _, s, _, _ => (none, s)
  | f + 1, l, s, t, i =>
    match t.words with
    | [] => (some (.lit t.text), s)
    | a :: r =>
      if a = wRange ∧ r.length = 1 ∧ listM (r.getD 0 []) = true ∧ s.within = false ∧ s.deep < 8 then
        let b := blockM f l { s with within := true }
        let c := closeM l { b.2 with within := false } i
        (if c.1 then some (.loop (r.getD 0 []) b.1) else none, c.2)
      else if a = wIf ∧ s.deep < 8 ∧ okM r s.within = true then
        let b := blockM f l s
        let n := if b.2.wrong < 0 then nextM l b.2 wElse else (false, b.2)
        let e := if n.1 then blockM f l n.2 else ([], n.2)
        let c := closeM l e.2 i
        (if c.1 then some (.choice (barsM r).1 (barsM r).2 b.1 e.1) else none, c.2)
      else placeM l s t.words i
def blockM : Nat → List Tok → PS → List Nd × PS
  | 0, _, s => ([], s)
  | f + 1, l, s =>
    let b := nodesM f l { s with deep := s.deep + 1 }
    (b.1, { b.2 with deep := b.2.deep - 1 })
end
/-- What the parser does to its state. -/
def Goes (l : List Tok) (s s' : PS) : Prop := s.pos ≤ s'.pos ∧ s'.pos ≤ l.length ∧ s'.deep = s.deep ∧ s'.within = s.within ∧ (s'.wrong = s.wrong ∨ 0 ≤ s'.wrong)
theorem Goes.refl {l : List Tok} {s : PS} (h : s.pos ≤ l.length) : Goes l s s := ⟨Nat.le_refl _, h, rfl, rfl, Or.inl rfl⟩
theorem Goes.trans {l : List Tok} {s s1 s2 : PS} (h : Goes l s s1) (h2 : Goes l s1 s2) : Goes l s s2 := by
  obtain ⟨a1, a2, a3, a4, a5⟩ := h
  obtain ⟨b1, b2, b3, b4, b5⟩ := h2
  refine ⟨by omega, b2, by omega, by rw [b4, a4], ?_⟩
  rcases b5 with b5 | b5
  · rcases a5 with a5 | a5
    · exact Or.inl (b5.trans a5)
    · exact Or.inr (by omega)
  · exact Or.inr b5
theorem fail_goes {l : List Tok} {s : PS} (h : s.pos ≤ l.length) (i : Nat) : Goes l s (failM l s i) := ⟨Nat.le_refl _, h, rfl, rfl, Or.inr (by simp [failM])⟩
theorem next_goes {l : List Tok} {s : PS} (h : s.pos ≤ l.length) (word : Bytes) : Goes l s (nextM l s word).2 := by
  unfold nextM
  split
  · rename_i hc
    exact ⟨by simp, hc.1, rfl, rfl, Or.inl rfl⟩
  · exact Goes.refl h
theorem close_goes {l : List Tok} {s : PS} (h : s.pos ≤ l.length) (i : Nat) : Goes l s (closeM l s i).2 := by
  unfold closeM
  split
  · exact Goes.refl h
  · split
    · exact next_goes h _
    · split
      · exact fail_goes h _
      · exact fail_goes h _
theorem place_goes {l : List Tok} {s : PS} (h : s.pos ≤ l.length) (w : List Bytes) (i : Nat) : Goes l s (placeM l s w i).2 := by
  unfold placeM
  split
  · exact Goes.refl h
  · exact fail_goes h _
theorem parse_goes (l : List Tok) : ∀ f, (∀ s, s.pos ≤ l.length → Goes l s (nodesM f l s).2) ∧ (∀ s t i, s.pos ≤ l.length → Goes l s (oneM f l s t i).2) ∧ (∀ s, s.pos ≤ l.length → Goes l s (blockM f l s).2)
  | 0 => ⟨fun s h => by unfold nodesM; exact Goes.refl h, fun s t i h => by unfold oneM; exact Goes.refl h, fun s h => by unfold blockM; exact Goes.refl h⟩
  | f + 1 => by
    obtain ⟨h1, h2, h3⟩ := parse_goes l f
    refine ⟨fun s h => ?_, fun s t i h => ?_, fun s h => ?_⟩
    · unfold nodesM
      split
      · rename_i hc
        split
        · exact Goes.refl h
        · have a := h2 { s with pos := s.pos + 1 } (l.getD s.pos tok0) s.pos hc.1
          have b := h1 _ a.2.1
          have c := a.trans b
          exact ⟨by have := c.1; simp only at this ⊢; omega, c.2.1, c.2.2.1, c.2.2.2.1, c.2.2.2.2⟩
      · exact Goes.refl h
    · unfold oneM
      split
      · exact Goes.refl h
      · split
        · rename_i hc
          have a := h3 { s with within := true } h
          have b := close_goes (l := l) (s := { (blockM f l { s with within := true }).2 with within := false }) a.2.1 i
          exact ⟨Nat.le_trans a.1 b.1, b.2.1, b.2.2.1.trans a.2.2.1, b.2.2.2.1.trans hc.2.2.2.1.symm, by
            rcases b.2.2.2.2 with h | h
            · rcases a.2.2.2.2 with h' | h'
              · exact Or.inl (h.trans h')
              · exact Or.inr (by rw [h]; exact h')
            · exact Or.inr h⟩
        · split
          · have a := h3 s h
            dsimp only
            generalize hb : blockM f l s = b at *
            have n : Goes l b.2 (if b.2.wrong < 0 then nextM l b.2 wElse else (false, b.2)).2 := by
              split
              · exact next_goes a.2.1 _
              · exact Goes.refl a.2.1
            generalize (if b.2.wrong < 0 then nextM l b.2 wElse else (false, b.2)) = n2 at *
            have e : Goes l n2.2 (if n2.1 = true then blockM f l n2.2 else ([], n2.2)).2 := by
              split
              · exact h3 _ n.2.1
              · exact Goes.refl n.2.1
            generalize (if n2.1 = true then blockM f l n2.2 else ([], n2.2)) = e2 at *
            exact ((a.trans n).trans e).trans (close_goes e.2.1 _)
          · exact place_goes h _ _
    · unfold blockM
      have a := h1 { s with deep := s.deep + 1 } h
      obtain ⟨a1, a2, a3, a4, a5⟩ := a
      exact ⟨a1, a2, by simp only at a3 ⊢; omega, a4, a5⟩

/-! ### The print's contracts, told by these -/
theorem rd_toks (l : List Tok) {i : Nat} (h : i < l.length) : rd_T129 (l.map toS) (i : Int) = toS (l.getD i tok0) := by
  unfold rd_T129
  rw [Int.toNat_natCast, List.getD_eq_getElem?_getD, List.getElem?_map, List.getElem?_eq_getElem h, List.getD_eq_getElem?_getD, List.getElem?_eq_getElem h]
  rfl
theorem fail_f (l : List Tok) (s : PS) {i : Nat} (h : i < l.length) : template_parser_fail.f (l.map toS) s.pos s.deep s.within s.wrong i = some (((failM l s i).pos : Int), ((failM l s i).deep : Int), (failM l s i).within, (failM l s i).wrong) := by
  unfold template_parser_fail.f
  rw [if_pos (by omega), if_pos (by rw [List.length_map]; omega), rd_toks l h]
  rfl
theorem next_f (l : List Tok) (s : PS) (hl : l.length ≤ 100000) (word : Bytes) : template_parser_next.f (l.map toS) s.pos s.deep s.within s.wrong (str word) = some ((nextM l s word).1, ((nextM l s word).2.pos : Int), ((nextM l s word).2.deep : Int), (nextM l s word).2.within, (nextM l s word).2.wrong) := by
  unfold template_parser_next.f nextM
  rw [List.length_map]
  by_cases hlt : s.pos < l.length
  · rw [if_neg (by omega), if_pos (by omega), if_pos (by omega), rd_toks l hlt]
    have hw : ((toS (l.getD s.pos tok0)).f1) = ((l.getD s.pos tok0).words.map str) := rfl
    rw [hw, List.length_map]
    cases hws : (l.getD s.pos tok0).words with
    | nil => simp
    | cons a r =>
      cases r with
      | cons b r =>
        rw [if_neg (by simp; omega), if_neg (by simp)]
      | nil =>
        rw [if_pos (by simp), if_pos (by simp)]
        have : (rdOf ByteArray.empty ([a].map str) 0).toList = a := by simp [rdOf, str_tl]
        rw [this, str_tl]
        by_cases ha : a = word
        · subst ha
          rw [if_pos rfl, if_pos ⟨hlt, rfl⟩, w64_in _ (by omega)]
          rfl
        · rw [if_neg ha, if_neg (by simp [ha])]
  · rw [if_pos (by omega), if_neg (fun h => hlt h.1)]
theorem close_f (l : List Tok) (s : PS) (hl : l.length ≤ 100000) {i : Nat} (hi : i < l.length) : template_parser_close.f (l.map toS) s.pos s.deep s.within s.wrong i = some ((closeM l s i).1, ((closeM l s i).2.pos : Int), ((closeM l s i).2.deep : Int), (closeM l s i).2.within, (closeM l s i).2.wrong) := by
  unfold template_parser_close.f closeM
  by_cases h0 : 0 ≤ s.wrong
  · rw [if_pos h0, if_pos h0]
  · rw [if_neg h0, if_neg h0]
    have := next_f l s hl wEnd
    have hE : (⟨#[101, 110, 100]⟩ : ByteArray) = str wEnd := rfl
    rw [hE, this, Option.bind_some]
    by_cases h1 : (nextM l s wEnd).1 = true
    · rw [if_pos h1, if_pos h1, h1]
    · rw [if_neg h1, if_neg h1]
      have h2 : (nextM l s wEnd).2 = s := by
        unfold nextM at h1 ⊢
        split
        · rename_i hc; rw [if_pos hc] at h1; exact absurd rfl h1
        · rfl
      simp only [h2, List.length_map]
      by_cases h3 : s.pos < l.length
      · rw [if_pos (by omega), if_pos h3, fail_f l s h3]; rfl
      · rw [if_neg (by omega), if_neg h3, fail_f l s hi]; rfl
end Go.Proofs.YtllhpkpckjacfaaGreatDoor
