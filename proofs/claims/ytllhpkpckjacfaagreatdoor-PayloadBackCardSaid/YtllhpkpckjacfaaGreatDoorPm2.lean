import Derived.Test.YtllhpkpckjacfaaGreatDoorPm1
import Derived.Lib.Bytealg
import Derived.Lib.ValidLaws
import Derived.Lib.TrimUEq
import Derived.Lib.SlTrimSet
import Derived.Lib.IndexMore
/- payload: a quotation is read as it was; its lines are short. -/
namespace Go.Proofs.YtllhpkpckjacfaaGreatDoor
open Go.RowKit
set_option linter.unusedVariables false
set_option linter.unusedSimpArgs false

/-- A hex digit's number; below 0: it is none. -/
def hexI (c : UInt8) : Int := Lib.indexByte HEXDs c
theorem hexI_lo (c : UInt8) : -1 ≤ hexI c := Lib.indexByte_ge _ _
theorem hexI_hi (c : UInt8) : hexI c < 16 := u8_every (fun c => hexI c < 16) (by decide +kernel) c
theorem hexI_dig {d : Nat} (h : d < 16) : hexI (HEXDs.getD d 0) = (d : Int) := by
  have : ∀ d, d < 16 → hexI (HEXDs.getD d 0) = (d : Int) := by decide +kernel
  exact this d h
theorem hexI_13 : hexI 13 = -1 := by decide +kernel
def unhex (a b : UInt8) : UInt8 := UInt8.ofNat (16 * (hexI a).toNat + (hexI b).toNat)
theorem unhex_hex (c : UInt8) : unhex (HEXDs.getD (c.toNat / 16) 0) (HEXDs.getD (c.toNat % 16) 0) = c := by
  have hc := c.toNat_lt
  unfold unhex
  rw [hexI_dig (by omega), hexI_dig (by omega), Int.toNat_natCast, Int.toNat_natCast, Nat.div_add_mod, UInt8.ofNat_toNat]
/-- A mail's text, read. -/
def unqM : Bytes → Bytes
  | [] => []
  | c :: r =>
    if c = 61 ∧ r.take 2 = [13, 10] then unqM (r.drop 2)
    else if c = 13 ∧ r.take 1 = [10] then 10 :: unqM (r.drop 1)
    else if c = 61 ∧ 2 ≤ r.length ∧ 0 ≤ hexI (r.getD 0 0) ∧ 0 ≤ hexI (r.getD 1 0) then unhex (r.getD 0 0) (r.getD 1 0) :: unqM (r.drop 2)
    else c :: unqM r
termination_by s => s.length
decreasing_by all_goals (simp <;> omega)
theorem unq_soft (r : Bytes) : unqM (61 :: 13 :: 10 :: r) = unqM r := by
  rw [unqM, if_pos (by simp)]; rfl
theorem unq_nl (r : Bytes) : unqM (13 :: 10 :: r) = 10 :: unqM r := by
  rw [unqM, if_neg (by simp), if_pos (by simp)]; rfl
theorem unq_other {c : UInt8} (r : Bytes) (h1 : c ≠ 61) (h2 : c ≠ 13) : unqM (c :: r) = c :: unqM r := by
  rw [unqM, if_neg (by simp [h1]), if_neg (by simp [h2]), if_neg (by simp [h1])]
theorem hex_ne (d : Nat) (h : d < 16) : HEXDs.getD d 0 ≠ 13 := by
  have : ∀ d, d < 16 → HEXDs.getD d 0 ≠ 13 := by decide +kernel
  exact this d h
theorem unq_hex (c : UInt8) (r : Bytes) : unqM (hexB c ++ r) = c :: unqM r := by
  have hc := c.toNat_lt
  have h1 := hexI_dig (d := c.toNat / 16) (by omega)
  have h2 := hexI_dig (d := c.toNat % 16) (by omega)
  have h3 := hex_ne (c.toNat / 16) (by omega)
  have hx := unhex_hex c
  unfold hexB
  generalize HEXDs.getD (c.toNat / 16) 0 = a at *
  generalize HEXDs.getD (c.toNat % 16) 0 = b at *
  rw [List.cons_append, List.cons_append, List.cons_append, List.nil_append, unqM, if_neg (by simp [h3]), if_neg (by simp), if_pos ⟨rfl, by simp, by simp; omega, by simp; omega⟩]
  simp [hx]
theorem plain_facts (c : UInt8) : (plainB c || blankB c) = true → c ≠ 61 ∧ c ≠ 13 ∧ c ≠ 10 ∧ c.toNat ≤ 126 ∧ (c.toNat < 32 → c = 9) :=
  u8_every (fun c => (plainB c || blankB c) = true → c ≠ 61 ∧ c ≠ 13 ∧ c ≠ 10 ∧ c.toNat ≤ 126 ∧ (c.toNat < 32 → c = 9)) (by decide +kernel) c
theorem wayB_or (c : UInt8) (l : Bool) : (wayB c l = [c] ∧ (plainB c || blankB c) = true ∧ (blankB c = true → l = false)) ∨ wayB c l = hexB c := by
  unfold wayB
  cases hp : plainB c <;> cases hb : blankB c <;> cases l <;> simp
  all_goals
    revert hp hb
    exact fun a b => (u8_every (fun c => plainB c = true → blankB c = true → False) (by decide +kernel) c a b).elim
theorem unq_way (c : UInt8) (l : Bool) (r : Bytes) : unqM (wayB c l ++ r) = c :: unqM r := by
  rcases wayB_or c l with ⟨h, hp, _⟩ | h
  · obtain ⟨h1, h2, _⟩ := plain_facts c hp
    rw [h]; exact unq_other r h1 h2
  · rw [h]; exact unq_hex c r
/-- A text that is quoted is read as it was. -/
theorem unq_quot (s : Bytes) : ∀ line, unqM (quotM s line) = s := by
  induction s with
  | nil => intro line; rw [quotM, unqM]
  | cons c r ih =>
    intro line
    rw [quotM]
    split
    · subst c
      show unqM (13 :: 10 :: quotM r 0) = _
      rw [unq_nl, ih]
    · split
      · rw [List.append_assoc]
        show unqM (61 :: 13 :: 10 :: (wayB c (lastB r) ++ quotM r (wayB c (lastB r)).length)) = _
        rw [unq_soft, unq_way, ih]
      · rw [unq_way, ih]
/-- A line's length so far, of a text from its end. -/
def lenL : Bytes → Nat
  | [] => 0
  | c :: r => if c = 10 then 0 else lenL r + 1
/-- A byte may stand behind the others. -/
def okC (c : UInt8) (r : Bytes) : Prop := (c = 10 → ∃ r', r = 13 :: r' ∧ lenL r ≤ 77 ∧ ∀ d, r'.head? = some d → blankB d = false) ∧ c.toNat ≤ 126 ∧ (c.toNat < 32 → c = 9 ∨ c = 10 ∨ c = 13)
def okR : Bytes → Prop
  | [] => True
  | c :: r => okC c r ∧ okR r
theorem okR_push {c : UInt8} {r : Bytes} (h : okR r) (h10 : c ≠ 10) (h1 : c.toNat ≤ 126) (h2 : c.toNat < 32 → c = 9 ∨ c = 10 ∨ c = 13) : okR (c :: r) ∧ lenL (c :: r) = lenL r + 1 :=
  ⟨⟨⟨fun e => (h10 e).elim, h1, h2⟩, h⟩, by rw [lenL, if_neg h10]⟩
theorem okR_end {r : Bytes} (h : okR r) (hl : lenL r ≤ 76) (hb : ∀ d, r.head? = some d → blankB d = false) : okR (10 :: 13 :: r) ∧ lenL (10 :: 13 :: r) = 0 := by
  obtain ⟨h1, h2⟩ := okR_push (c := 13) h (by decide) (by decide) (by decide)
  exact ⟨⟨⟨fun _ => ⟨r, rfl, by omega, hb⟩, by decide, by decide⟩, h1⟩, by rw [lenL, if_pos rfl]⟩
theorem hexd_facts (d : Nat) (h : d < 16) : HEXDs.getD d 0 ≠ 10 ∧ (HEXDs.getD d 0).toNat ≤ 126 ∧ 32 ≤ (HEXDs.getD d 0).toNat ∧ blankB (HEXDs.getD d 0) = false := by
  have : ∀ d, d < 16 → HEXDs.getD d 0 ≠ 10 ∧ (HEXDs.getD d 0).toNat ≤ 126 ∧ 32 ≤ (HEXDs.getD d 0).toNat ∧ blankB (HEXDs.getD d 0) = false := by decide +kernel
  exact this d h
theorem okR_way {acc : Bytes} (h : okR acc) (c : UInt8) (l : Bool) : okR ((wayB c l).reverse ++ acc) ∧ lenL ((wayB c l).reverse ++ acc) = lenL acc + (wayB c l).length ∧ ∀ d, ((wayB c l).reverse ++ acc).head? = some d → blankB d = true → l = false := by
  rcases wayB_or c l with ⟨hw, hp, hb⟩ | hw
  · rw [hw]
    obtain ⟨_, _, h10, h1, h2⟩ := plain_facts c hp
    obtain ⟨a, b⟩ := okR_push h h10 h1 (fun h => Or.inl (h2 h))
    refine ⟨a, b, fun d hd hbd => ?_⟩
    simp at hd
    subst hd
    exact hb hbd
  · rw [hw]
    have hc := c.toNat_lt
    obtain ⟨a1, a2, a3, a4⟩ := hexd_facts (c.toNat / 16) (by omega)
    obtain ⟨b1, b2, b3, b4⟩ := hexd_facts (c.toNat % 16) (by omega)
    unfold hexB
    generalize HEXDs.getD (c.toNat / 16) 0 = a at *
    generalize HEXDs.getD (c.toNat % 16) 0 = b at *
    obtain ⟨p1, q1⟩ := okR_push (c := 61) h (by decide) (by decide) (by decide)
    obtain ⟨p2, q2⟩ := okR_push (c := a) p1 a1 a2 (by omega)
    obtain ⟨p3, q3⟩ := okR_push (c := b) p2 b1 b2 (by omega)
    refine ⟨p3, by simp only [List.reverse_cons, List.reverse_nil, List.nil_append, List.cons_append, List.length_cons, List.length_nil]; omega, fun d hd hbd => ?_⟩
    simp at hd
    subst hd
    rw [b4] at hbd
    cases hbd
/-- No line of a quotation has more bytes than it may, and none ends with a blank. -/
theorem quot_ok (s : Bytes) : ∀ acc line, okR acc → lenL acc = line → line ≤ 75 → (∀ d, acc.head? = some d → blankB d = true → lastB s = false) → okR ((quotM s line).reverse ++ acc) ∧ lenL ((quotM s line).reverse ++ acc) ≤ 75 := by
  induction s with
  | nil => intro acc line h hl h75 _; exact ⟨h, by simp only [quotM, List.reverse_nil, List.nil_append]; omega⟩
  | cons c r ih =>
    intro acc line h hl h75 hb
    rw [quotM]
    split
    · rename_i hc
      obtain ⟨a, b⟩ := okR_end h (by omega) (fun d hd => by
        cases hbd : blankB d with
        | false => rfl
        | true => have := hb d hd hbd; rw [hc] at this; cases this)
      have := ih (10 :: 13 :: acc) 0 a b (by omega) (fun d hd hbd => by simp at hd; subst hd; cases hbd)
      simpa using this
    · rename_i hc
      split
      · obtain ⟨a1, b1⟩ := okR_push (c := 61) h (by decide) (by decide) (by decide)
        obtain ⟨a2, b2⟩ := okR_end a1 (by omega) (fun d hd => by simp at hd; subst hd; rfl)
        obtain ⟨a3, b3, b4⟩ := okR_way a2 c (lastB r)
        have := ih _ _ a3 (by rw [b3, b2, Nat.zero_add]) (by rcases wayB_or c (lastB r) with ⟨hw, _⟩ | hw <;> rw [hw] <;> simp [hexB]) b4
        simpa using this
      · obtain ⟨a3, b3, b4⟩ := okR_way h c (lastB r)
        have := ih _ _ a3 (by rw [b3, hl]) (by omega) b4
        simpa using this
theorem okR_at : ∀ (q p : Bytes), okR (q.reverse ++ p) → ∀ i (h : i < q.length), okC q[i] ((q.take i).reverse ++ p)
  | [], _, _, i, h => absurd h (by simp)
  | c :: q, p, hq, 0, _ => by
    have : ∀ (a b : Bytes), okR (a ++ b) → okR b := by
      intro a
      induction a with
      | nil => intro b h; exact h
      | cons x a ih => intro b h; exact ih b h.2
    rw [List.reverse_cons, List.append_assoc] at hq
    exact (this _ _ hq).1
  | c :: q, p, hq, i + 1, h => by
    have := okR_at q (c :: p) (by rw [List.reverse_cons, List.append_assoc] at hq; exact hq) i (by simpa using h)
    simpa using this
/-- What the check of a quotation meets at each place. -/
theorem quot_at (s : Bytes) (i : Nat) (h : i < (quotM s 0).length) :
    ((quotM s 0)[i] = 10 → (∃ h0 : 0 < i, (quotM s 0)[i - 1] = 13) ∧ lenL ((quotM s 0).take i).reverse ≤ 77 ∧ (∀ h1 : 1 < i, blankB (quotM s 0)[i - 2] = false)) ∧ (quotM s 0)[i].toNat ≤ 126 ∧ ((quotM s 0)[i].toNat < 32 → (quotM s 0)[i] = 9 ∨ (quotM s 0)[i] = 10 ∨ (quotM s 0)[i] = 13) := by
  have h1 := (quot_ok s [] 0 trivial rfl (by omega) (fun d hd => by cases hd)).1
  obtain ⟨a, b, c⟩ := okR_at _ _ h1 i h
  rw [List.append_nil] at a
  refine ⟨fun e => ?_, b, c⟩
  obtain ⟨r', hr, hl, hd⟩ := a e
  have hi : 0 < i := by
    cases i with
    | zero => rw [List.take_zero, List.reverse_nil] at hr; cases hr
    | succ i => omega
  have ht : (quotM s 0).take i = (quotM s 0).take (i - 1) ++ [(quotM s 0)[i - 1]] := by
    have := List.take_succ_eq_append_getElem (l := quotM s 0) (i := i - 1) (by omega)
    rwa [Nat.sub_add_cancel hi] at this
  rw [ht, List.reverse_append] at hr
  have h13 : (quotM s 0)[i - 1] = 13 := by simpa using congrArg List.head? hr
  have hr2 : ((quotM s 0).take (i - 1)).reverse = r' := by simpa using congrArg List.tail hr
  refine ⟨⟨hi, h13⟩, hl, fun h1 => hd _ ?_⟩
  rw [← hr2]
  have ht2 : (quotM s 0).take (i - 1) = (quotM s 0).take (i - 2) ++ [(quotM s 0)[i - 2]] := by
    have := List.take_succ_eq_append_getElem (l := quotM s 0) (i := i - 2) (by omega)
    rwa [show i - 2 + 1 = i - 1 by omega] at this
  rw [ht2, List.reverse_append]
  rfl
theorem quot_last (s : Bytes) : lenL (quotM s 0).reverse ≤ 75 := by
  have := (quot_ok s [] 0 trivial rfl (by omega) (fun d hd => by cases hd)).2
  simpa using this
theorem unq_hexI {a b : UInt8} (r : Bytes) (ha : 0 ≤ hexI a) (hb : 0 ≤ hexI b) : unqM (61 :: a :: b :: r) = unhex a b :: unqM r := by
  have h13 : a ≠ 13 := by intro h; subst h; rw [hexI_13] at ha; omega
  rw [unqM, if_neg (by simp [h13]), if_neg (by simp), if_pos ⟨rfl, by simp, ha, hb⟩]
  rfl
theorem unhex_toNat {a b : UInt8} (ha : 0 ≤ hexI a) (hb : 0 ≤ hexI b) : ((unhex a b).toNat : Int) = 16 * hexI a + hexI b := by
  have h1 := hexI_hi a
  have h2 := hexI_hi b
  unfold unhex
  rw [UInt8.toNat_ofNat']
  omega
theorem unq_a {s : Bytes} {i : Nat} (h2 : i + 2 < s.length) (hc : s[i] = 61) (h13 : s[i + 1] = 13) (h10 : s[i + 2] = 10) : unqM (s.drop i) = unqM (s.drop (i + 3)) := by
  rw [List.drop_eq_getElem_cons (show i < s.length by omega), List.drop_eq_getElem_cons (show i + 1 < s.length by omega), List.drop_eq_getElem_cons h2, hc, h13, h10, unq_soft]
theorem unq_b {s : Bytes} {i : Nat} (h1 : i + 1 < s.length) (hc : s[i] = 13) (h10 : s[i + 1] = 10) : unqM (s.drop i) = 10 :: unqM (s.drop (i + 2)) := by
  rw [List.drop_eq_getElem_cons (show i < s.length by omega), List.drop_eq_getElem_cons h1, hc, h10, unq_nl]
theorem unq_c {s : Bytes} {i : Nat} (h2 : i + 2 < s.length) (hc : s[i] = 61) (ha : 0 ≤ hexI s[i + 1]) (hb : 0 ≤ hexI s[i + 2]) : unqM (s.drop i) = unhex s[i + 1] s[i + 2] :: unqM (s.drop (i + 3)) := by
  rw [List.drop_eq_getElem_cons (show i < s.length by omega), List.drop_eq_getElem_cons (show i + 1 < s.length by omega), List.drop_eq_getElem_cons h2, hc, unq_hexI _ ha hb]
theorem unq_d {s : Bytes} {i : Nat} (h : i < s.length) (hna : s[i] = 61 → ∀ h2 : i + 2 < s.length, ¬ (s[i + 1] = 13 ∧ s[i + 2] = 10)) (hnb : s[i] = 13 → ∀ h1 : i + 1 < s.length, ¬ s[i + 1] = 10)
    (hnc : s[i] = 61 → ∀ h2 : i + 2 < s.length, ¬ (0 ≤ hexI s[i + 1] ∧ 0 ≤ hexI s[i + 2])) : unqM (s.drop i) = s[i] :: unqM (s.drop (i + 1)) := by
  rw [List.drop_eq_getElem_cons h, unqM, if_neg, if_neg, if_neg]
  · rintro ⟨hc, hl, ha, hb⟩
    rw [List.length_drop] at hl
    have h2 : i + 2 < s.length := by omega
    refine hnc hc h2 ?_
    rw [List.drop_eq_getElem_cons (show i + 1 < s.length by omega), List.drop_eq_getElem_cons h2] at ha hb
    exact ⟨ha, hb⟩
  · rintro ⟨hc, ht⟩
    have h1 : i + 1 < s.length := by
      have := congrArg List.length ht
      simp at this
      omega
    refine hnb hc h1 ?_
    rw [List.drop_eq_getElem_cons h1, List.take_succ_cons, List.take_zero] at ht
    exact (List.cons.inj ht).1
  · rintro ⟨hc, ht⟩
    have h2 : i + 2 < s.length := by
      have := congrArg List.length ht
      simp at this
      omega
    refine hna hc h2 ?_
    rw [List.drop_eq_getElem_cons (show i + 1 < s.length by omega), List.drop_eq_getElem_cons h2, List.take_succ_cons, List.take_succ_cons, List.take_zero] at ht
    exact ⟨(List.cons.inj ht).1, (List.cons.inj (List.cons.inj ht).2).1⟩
theorem unq_len (n : Nat) : ∀ s : Bytes, s.length ≤ n → (unqM s).length ≤ s.length := by
  induction n with
  | zero => intro s h; obtain rfl : s = [] := List.eq_nil_of_length_eq_zero (by omega); rw [unqM]; simp
  | succ n ih =>
    intro s h
    cases s with
    | nil => rw [unqM]; simp
    | cons c r =>
      rw [List.length_cons] at h
      rw [unqM]
      split
      · have := ih (r.drop 2) (by rw [List.length_drop]; omega); rw [List.length_drop] at this; rw [List.length_cons]; omega
      split
      · have := ih (r.drop 1) (by rw [List.length_drop]; omega); rw [List.length_drop] at this; rw [List.length_cons, List.length_cons]; omega
      split
      · have := ih (r.drop 2) (by rw [List.length_drop]; omega); rw [List.length_drop] at this; rw [List.length_cons, List.length_cons]; omega
      · have := ih r (by omega); rw [List.length_cons, List.length_cons]; omega
def unqR (s : Bytes) : Bytes × Nat := if quotM (unqM s) 0 = s then (unqM s, 0) else ([], 4)
end Go.Proofs.YtllhpkpckjacfaaGreatDoor

/- payload: what is cut of a right text is right; what may stand in a header. -/
namespace Go.Proofs.YtllhpkpckjacfaaGreatDoor
open Go.RowKit
set_option linter.unusedVariables false
set_option linter.unusedSimpArgs false

/-- One code point's bytes. -/
structure Piece (p : Bytes) (r : Nat) : Prop where
  ne : p ≠ []
  dec : Lib.decodeL p = (r, p.length)
  good : ¬ (r = 65533 ∧ p.length = 1)

theorem decN_loc (n n' b0 b1 b2 b3 c1 c2 c3 : Nat) (hn : 1 ≤ n) (hnn : n ≤ n') (hw : (Lib.decodeN n b0 b1 b2 b3).2 = n) (hg : ¬ ((Lib.decodeN n b0 b1 b2 b3).1 = 65533 ∧ n = 1))
    (e1 : 1 < n → c1 = b1) (e2 : 2 < n → c2 = b2) (e3 : 3 < n → c3 = b3) : Lib.decodeN n' b0 c1 c2 c3 = Lib.decodeN n b0 b1 b2 b3 := by
  by_cases h2 : 2 ≤ n
  · exact Lib.decodeN_more n n' b0 b1 b2 b3 c1 c2 c3 h2 hnn hw e1 e2 e3
  · obtain rfl : n = 1 := by omega
    by_cases h : b0 < 128
    · unfold Lib.decodeN; rw [if_pos h, if_pos h]
    · exfalso
      rw [Lib.decodeN_alone 1 b0 b1 b2 b3 (by omega) (.inl (Nat.le_refl _))] at hg
      exact hg ⟨rfl, rfl⟩

theorem Piece.more {p : Bytes} {r : Nat} (h : Piece p r) (u : Bytes) : Lib.decodeL (p ++ u) = (r, p.length) := by
  have hd := h.dec
  have hl : 1 ≤ p.length := List.length_pos_iff.2 h.ne
  rw [Lib.decodeL_N] at hd ⊢
  have g0 : (p ++ u).getD 0 0 = p.getD 0 0 := by simp [List.getD, List.getElem?_append_left (show 0 < p.length by omega)]
  rw [g0]
  rw [← hd]
  refine decN_loc p.length _ _ _ _ _ _ _ _ hl (by simp) (by rw [hd]) (by rw [hd]; exact h.good) (fun e => ?_) (fun e => ?_) (fun e => ?_)
  · rw [show (p ++ u).getD 1 0 = p.getD 1 0 by simp [List.getD, List.getElem?_append_left (show 1 < p.length by omega)]]
  · rw [show (p ++ u).getD 2 0 = p.getD 2 0 by simp [List.getD, List.getElem?_append_left (show 2 < p.length by omega)]]
  · rw [show (p ++ u).getD 3 0 = p.getD 3 0 by simp [List.getD, List.getElem?_append_left (show 3 < p.length by omega)]]

theorem Piece.valid {p : Bytes} {r : Nat} (h : Piece p r) (u : Bytes) : Lib.validD (p ++ u) = Lib.validD u := by
  rw [Lib.validD_step _ (by simp [h.ne]), h.more u]
  rw [if_neg h.good]
  simp

/-- The shapes of a code point's bytes. -/
theorem decN_shape (n b0 b1 b2 b3 : Nat) (hn : 1 ≤ n) (h0 : b0 < 256) (h1 : b1 < 256) (h2 : b2 < 256) (h3 : b3 < 256) (hg : ¬ ((Lib.decodeN n b0 b1 b2 b3).1 = 65533 ∧ (Lib.decodeN n b0 b1 b2 b3).2 = 1)) :
    (Lib.decodeN n b0 b1 b2 b3).2 ≤ n ∧ (((Lib.decodeN n b0 b1 b2 b3).2 = 1 ∧ b0 < 128 ∧ (Lib.decodeN n b0 b1 b2 b3).1 = b0) ∨
      (2 ≤ (Lib.decodeN n b0 b1 b2 b3).2 ∧ (Lib.decodeN n b0 b1 b2 b3).2 ≤ 4 ∧ 128 ≤ b0 ∧ 128 ≤ b1 ∧ (2 < (Lib.decodeN n b0 b1 b2 b3).2 → 128 ≤ b2) ∧ (3 < (Lib.decodeN n b0 b1 b2 b3).2 → 128 ≤ b3) ∧
        ∀ m c1 c2 c3, 1 ≤ m → m < (Lib.decodeN n b0 b1 b2 b3).2 → Lib.decodeN m b0 c1 c2 c3 = (65533, 1))) := by
  unfold Lib.decodeN at hg ⊢
  split
  · refine ⟨by simp only; omega, .inl ⟨rfl, by omega, rfl⟩⟩
  split
  · split
    · refine ⟨by simp only; omega, .inr ⟨by simp only; omega, by simp only; omega, by omega, by omega, fun h => by simp only at h; omega, fun h => by simp only at h; omega, fun m c1 c2 c3 hm hm2 => ?_⟩⟩
      simp only at hm2
      repeat' split
      all_goals first | rfl | (exfalso; omega)
    · simp_all
  split
  · split
    · refine ⟨by simp only; omega, .inr ⟨by simp only; omega, by simp only; omega, by omega, by omega, fun h => by simp only at h; omega, fun h => by simp only at h; omega, fun m c1 c2 c3 hm hm2 => ?_⟩⟩
      simp only at hm2
      repeat' split
      all_goals first | rfl | (exfalso; omega)
    · simp_all
  split
  · split
    · refine ⟨by simp only; omega, .inr ⟨by simp only; omega, by simp only; omega, by omega, by omega, fun h => by omega, fun h => by omega, fun m c1 c2 c3 hm hm2 => ?_⟩⟩
      simp only at hm2
      repeat' split
      all_goals first | rfl | (exfalso; omega)
    · simp_all
  · simp_all

theorem decN_cut {N n r b0 b1 b2 b3 c1 c2 c3 : Nat} (h : Lib.decodeN N b0 b1 b2 b3 = (r, n)) (hg : ¬ (r = 65533 ∧ n = 1)) (e1 : 1 < n → c1 = b1) (e2 : 2 < n → c2 = b2) (e3 : 3 < n → c3 = b3) : Lib.decodeN n b0 c1 c2 c3 = (r, n) := by
  unfold Lib.decodeN at h
  split at h
  · rename_i g0
    simp only [Prod.mk.injEq] at h
    obtain ⟨rfl, rfl⟩ := h
    unfold Lib.decodeN; rw [if_pos g0]
  rename_i g0
  split at h
  · rename_i g1
    split at h <;> simp only [Prod.mk.injEq] at h
    · rename_i g2
      obtain ⟨rfl, rfl⟩ := h
      have E1 := e1 (by omega)
      subst E1
      unfold Lib.decodeN; rw [if_neg g0, if_pos ⟨g1.1, by omega, g1.2.2⟩, if_pos g2]
    · exact absurd ⟨h.1.symm, h.2.symm⟩ hg
  rename_i g1
  split at h
  · rename_i g2
    split at h <;> simp only [Prod.mk.injEq] at h
    · rename_i g3
      obtain ⟨rfl, rfl⟩ := h
      have E1 := e1 (by omega)
      have E2 := e2 (by omega)
      subst E1 E2
      unfold Lib.decodeN; rw [if_neg g0, if_neg (fun x => by omega), if_pos ⟨g2.1, ⟨by omega, g2.2.1.2⟩, ⟨by omega, g2.2.2.2⟩⟩, if_pos g3]
    · exact absurd ⟨h.1.symm, h.2.symm⟩ hg
  rename_i g2
  split at h
  · rename_i g3
    split at h <;> simp only [Prod.mk.injEq] at h
    · rename_i g4
      obtain ⟨rfl, rfl⟩ := h
      have E1 := e1 (by omega)
      have E2 := e2 (by omega)
      have E3 := e3 (by omega)
      subst E1 E2 E3
      unfold Lib.decodeN; rw [if_neg g0, if_neg (fun x => by omega), if_neg (fun x => by omega), if_pos ⟨g3.1, ⟨by omega, g3.2.1.2⟩, ⟨by omega, g3.2.2.1.2⟩, ⟨by omega, g3.2.2.2.2⟩⟩, if_pos g4]
    · exact absurd ⟨h.1.symm, h.2.symm⟩ hg
  · simp only [Prod.mk.injEq] at h
    exact absurd ⟨h.1.symm, h.2.symm⟩ hg

theorem getD_lt (l : Bytes) (k : Nat) : (l.getD k 0).toNat < 256 := UInt8.toNat_lt _

/-- The first code point of a text, where it is right. -/
theorem piece_of {l : Bytes} (hne : l ≠ []) (hg : ¬ ((Lib.decodeL l).1 = 65533 ∧ (Lib.decodeL l).2 = 1)) : (Lib.decodeL l).2 ≤ l.length ∧ Piece (l.take (Lib.decodeL l).2) (Lib.decodeL l).1 := by
  have hl : 1 ≤ l.length := List.length_pos_iff.2 hne
  have hs := decN_shape l.length _ _ _ _ hl (getD_lt l 0) (getD_lt l 1) (getD_lt l 2) (getD_lt l 3) (by rw [← Lib.decodeL_N]; exact hg)
  rw [← Lib.decodeL_N] at hs
  obtain ⟨h1, h2⟩ := hs
  have hw : 1 ≤ (Lib.decodeL l).2 := Lib.decodeL_width l
  obtain ⟨n, hn⟩ : ∃ n, (Lib.decodeL l).2 = n := ⟨_, rfl⟩
  obtain ⟨r, hr⟩ : ∃ r, (Lib.decodeL l).1 = r := ⟨_, rfl⟩
  rw [hn, hr] at hg h2
  rw [hn] at h1 hw
  rw [hn, hr]
  refine ⟨h1, ?_⟩
  have hlen : (l.take n).length = n := by rw [List.length_take]; omega
  have gk : ∀ k, k < n → (l.take n).getD k 0 = l.getD k 0 := fun k hk => by simp [List.getD, List.getElem?_take, hk]
  refine ⟨by intro e; rw [e] at hlen; simp at hlen; omega, ?_, by rw [hlen]; exact hg⟩
  rw [hlen]
  have hd : Lib.decodeL l = (r, n) := by rw [← hn, ← hr]
  rw [Lib.decodeL_N] at hd ⊢
  rw [hlen, gk 0 (by omega)]
  exact decN_cut hd hg (fun e => by rw [gk 1 e]) (fun e => by rw [gk 2 e]) (fun e => by rw [gk 3 e])

theorem valid_split {l : Bytes} (hne : l ≠ []) (hv : Lib.validD l = true) : ∃ p u r, l = p ++ u ∧ Piece p r ∧ Lib.validD u = true := by
  rw [Lib.validD_step l hne] at hv
  split at hv
  · cases hv
  · rename_i hg
    obtain ⟨h1, h2⟩ := piece_of hne hg
    exact ⟨_, _, _, (List.take_append_drop _ l).symm, h2, hv⟩

theorem decN_cont (n b0 b1 b2 b3 : Nat) (hg : ¬ ((Lib.decodeN n b0 b1 b2 b3).1 = 65533 ∧ (Lib.decodeN n b0 b1 b2 b3).2 = 1)) :
    (Lib.decodeN n b0 b1 b2 b3).2 ≤ 4 ∧ (1 < (Lib.decodeN n b0 b1 b2 b3).2 → b1 / 64 = 2) ∧ (2 < (Lib.decodeN n b0 b1 b2 b3).2 → b2 / 64 = 2) ∧ (3 < (Lib.decodeN n b0 b1 b2 b3).2 → b3 / 64 = 2) := by
  unfold Lib.decodeN at hg ⊢
  split
  · exact ⟨by simp, fun h => absurd h (by simp), fun h => absurd h (by simp), fun h => absurd h (by simp)⟩
  split
  · rename_i h1
    split
    · exact ⟨by simp, fun _ => h1.2.2, fun h => absurd h (by simp), fun h => absurd h (by simp)⟩
    · exact ⟨by simp, fun h => absurd h (by simp), fun h => absurd h (by simp), fun h => absurd h (by simp)⟩
  split
  · rename_i h1
    split
    · exact ⟨by simp, fun _ => h1.2.1.2, fun _ => h1.2.2.2, fun h => absurd h (by simp)⟩
    · exact ⟨by simp, fun h => absurd h (by simp), fun h => absurd h (by simp), fun h => absurd h (by simp)⟩
  split
  · rename_i h1
    split
    · exact ⟨by simp, fun _ => h1.2.1.2, fun _ => h1.2.2.1.2, fun _ => h1.2.2.2.2⟩
    · exact ⟨by simp, fun h => absurd h (by simp), fun h => absurd h (by simp), fun h => absurd h (by simp)⟩
  · exact ⟨by simp, fun h => absurd h (by simp), fun h => absurd h (by simp), fun h => absurd h (by simp)⟩
theorem Piece.cont {p : Bytes} {r : Nat} (h : Piece p r) {k : Nat} (h0 : 0 < k) (hk : k < p.length) : withinB p[k] = true := by
  have hd := h.dec
  have hs := decN_cont p.length (p.getD 0 0).toNat (p.getD 1 0).toNat (p.getD 2 0).toNat (p.getD 3 0).toNat (by rw [← Lib.decodeL_N, hd]; exact h.good)
  rw [← Lib.decodeL_N, hd] at hs
  simp only at hs
  obtain ⟨h4, h1, h2, h3⟩ := hs
  have e : p[k] = p.getD k 0 := by simp [List.getD, hk]
  rw [e]
  have : (p.getD k 0).toNat / 64 = 2 := by
    rcases (by omega : k = 1 ∨ k = 2 ∨ k = 3) with rfl | rfl | rfl
    · exact h1 hk
    · exact h2 hk
    · exact h3 hk
  unfold withinB
  rw [Bool.and_eq_true, decide_eq_true_eq, decide_eq_true_eq]
  omega
/-- A right text cut where no character is cut in two is right. -/
theorem valid_take (n : Nat) : ∀ (s : Bytes), s.length ≤ n → Lib.validD s = true → ∀ k, (∀ h : k < s.length, 0 < k → withinB s[k] = false) → Lib.validD (s.take k) = true := by
  induction n with
  | zero =>
    intro s h _ k _
    obtain rfl : s = [] := List.eq_nil_of_length_eq_zero (by omega)
    rw [List.take_nil]; rfl
  | succ n ih =>
    intro s h hv k hk
    by_cases hne : s = []
    · subst hne; rw [List.take_nil]; rfl
    by_cases h0 : k = 0
    · subst h0; rfl
    obtain ⟨p, u, r, rfl, hp, hu⟩ := valid_split hne hv
    have hl : 1 ≤ p.length := List.length_pos_iff.2 hp.ne
    rw [List.length_append] at h
    by_cases hkp : k < p.length
    · have := hk (by rw [List.length_append]; omega) (by omega)
      rw [List.getElem_append_left hkp, hp.cont (by omega) hkp] at this
      cases this
    · rw [List.take_append, List.take_of_length_le (by omega), hp.valid]
      refine ih u (by omega) hu _ (fun hh h0 => ?_)
      have := hk (by rw [List.length_append]; omega) (by omega)
      rw [List.getElem_append_right (by omega)] at this
      exact this
theorem valid_app (n : Nat) : ∀ (a b : Bytes), a.length ≤ n → Lib.validD a = true → Lib.validD b = true → Lib.validD (a ++ b) = true := by
  induction n with
  | zero =>
    intro a b h _ hb
    obtain rfl : a = [] := List.eq_nil_of_length_eq_zero (by omega)
    exact hb
  | succ n ih =>
    intro a b h ha hb
    by_cases hne : a = []
    · subst hne; exact hb
    obtain ⟨p, u, r, rfl, hp, hu⟩ := valid_split hne ha
    have hl : 1 ≤ p.length := List.length_pos_iff.2 hp.ne
    rw [List.length_append] at h
    rw [List.append_assoc, hp.valid]
    exact ih u b (by omega) hu hb
theorem cutN_le (s : Bytes) : ∀ n, cutN s n ≤ n
  | 0 => Nat.le_refl _
  | n + 1 => by rw [cutN]; have := cutN_le s n; split <;> omega
theorem cutN_out (s : Bytes) : ∀ n, 0 < cutN s n → withinB (s.getD (cutN s n) 0) = false
  | 0, h => absurd h (by simp [cutN])
  | n + 1, h => by
    rw [cutN] at h ⊢
    cases hw : withinB (s.getD (n + 1) 0) with
    | true => rw [hw, if_pos rfl] at h; rw [if_pos rfl]; exact cutN_out s n h
    | false => rw [if_neg (by simp)]; exact hw
/-- What is cut of a right text is right. -/
theorem cut_valid {s : Bytes} (hv : Lib.validD s = true) (most : Int) : Lib.validD (cutM s most) = true := by
  unfold cutM
  split
  · exact hv
  split
  · rfl
  · refine valid_app _ _ _ (Nat.le_refl _) (valid_take _ s (Nat.le_refl _) hv _ (fun h h0 => ?_)) (by decide +kernel)
    have := cutN_out s _ h0
    rwa [List.getD_eq_getElem?_getD, List.getElem?_eq_getElem h, Option.getD_some] at this
theorem cut_form {s : Bytes} {n : Nat} (h1 : n < s.length) (h3 : 3 ≤ n) : ∃ k, k + 3 ≤ n ∧ cutM s (n : Int) = s.take k ++ [46, 46, 46] := by
  refine ⟨cutN s ((n : Int) - 3).toNat, ?_, ?_⟩
  · have := cutN_le s ((n : Int) - 3).toNat; omega
  · unfold cutM; rw [if_neg (by omega), if_neg (by omega)]
/-! ### headers -/
theorem dw_fix (p : UInt8 → Bool) (l : Bytes) : l.dropWhile p = l ↔ ∀ c, l.head? = some c → p c = false := by
  cases l with
  | nil => simp
  | cons a l =>
    cases h : p a with
    | false => rw [List.dropWhile_cons_of_neg (by simp [h])]; simp [h]
    | true =>
      rw [List.dropWhile_cons_of_pos h]
      constructor
      · intro e
        have := (List.dropWhile_sublist p (l := l)).length_le
        rw [e] at this
        simp at this
        omega
      · intro e
        have := e a rfl
        rw [h] at this
        cases this
theorem trim_fix (s cs : Bytes) : Lib.trimS s cs = s ↔ (∀ c, s.head? = some c → cs.contains c = false) ∧ (∀ c, s.getLast? = some c → cs.contains c = false) := by
  unfold Lib.trimS Lib.trimLeftS Lib.trimRightS
  constructor
  · intro h
    have l1 := (List.dropWhile_sublist (fun c => cs.contains c) (l := s.reverse)).length_le
    have l2 := (List.dropWhile_sublist (fun c => cs.contains c) (l := (s.reverse.dropWhile fun c => cs.contains c).reverse)).length_le
    rw [h] at l2
    rw [List.length_reverse] at l1 l2
    have e1 : s.reverse.dropWhile (fun c => cs.contains c) = s.reverse := (List.dropWhile_suffix _).eq_of_length (by rw [List.length_reverse]; omega)
    rw [e1, List.reverse_reverse] at h
    refine ⟨(dw_fix _ _).1 h, ?_⟩
    have := (dw_fix _ _).1 e1
    rwa [List.head?_reverse] at this
  · rintro ⟨h1, h2⟩
    have e1 : s.reverse.dropWhile (fun c => cs.contains c) = s.reverse := (dw_fix _ _).2 (by rw [List.head?_reverse]; exact h2)
    rw [e1, List.reverse_reverse]
    exact (dw_fix _ _).2 h1
/-- A byte that keeps a text from a header. -/
def badHd (s : Bytes) (i : Nat) : Bool := !okB (s.getD i 0) || (s.getD i 0 == 61 && decide (i + 1 < s.length) && s.getD (i + 1) 0 == 63)
def endsB (s : Bytes) : Bool := s.isEmpty || (s.getD 0 0 != 32 && s.getD (s.length - 1) 0 != 32)
theorem ends_eq (s : Bytes) : decide (Lib.trimS s [32] = s) = endsB s := by
  rw [Bool.eq_iff_iff, decide_eq_true_eq, trim_fix]
  cases s with
  | nil => simp [endsB]
  | cons a r =>
    simp only [endsB, List.head?_cons, Option.some.injEq, forall_eq', List.isEmpty_cons, Bool.false_or, Bool.and_eq_true, bne_iff_ne, ne_eq]
    rw [List.getLast?_eq_getElem?, List.getElem?_eq_getElem (by simp)]
    simp
theorem occ_at (s : Bytes) (j : Nat) : Lib.occAt s [61, 63] j = (s.getD j 0 == 61 && decide (j + 1 < s.length) && s.getD (j + 1) 0 == 63) := by
  unfold Lib.occAt
  by_cases h : j < s.length
  · rw [List.drop_eq_getElem_cons h]
    by_cases h2 : j + 1 < s.length
    · rw [List.drop_eq_getElem_cons h2]
      rw [List.getD_eq_getElem?_getD, List.getD_eq_getElem?_getD, List.getElem?_eq_getElem h, List.getElem?_eq_getElem h2, Option.getD_some, Option.getD_some]
      rw [List.isPrefixOf, List.isPrefixOf, List.isPrefixOf, Bool.and_true, decide_eq_true h2, Bool.and_true, Bool.beq_comm (a := 61), Bool.beq_comm (a := 63)]
    · rw [List.drop_eq_nil_of_le (by omega)]
      simp [List.isPrefixOf, h2]
  · rw [List.drop_eq_nil_of_le (by omega)]
    have : decide (j + 1 < s.length) = false := by simp; omega
    rw [this]
    simp [List.isPrefixOf]
theorem contains_iff (s : Bytes) : Lib.contains s [61, 63] = true ↔ ∃ j, j < s.length ∧ Lib.occAt s [61, 63] j = true := by
  unfold Lib.contains
  rw [decide_eq_true_eq]
  rcases Lib.index_spec s [61, 63] with ⟨h1, h2⟩ | ⟨i, h1, h2, h3, h4⟩
  · rw [h1]
    constructor
    · intro h; omega
    · rintro ⟨j, hj, ho⟩
      rw [h2 j (by omega)] at ho
      cases ho
  · rw [h1]
    constructor
    · intro _
      refine ⟨i, ?_, h3⟩
      rw [occ_at] at h3
      simp at h3
      omega
    · intro _; omega
theorem print_eq (s : Bytes) : printB s = (endsB s && (List.range s.length).all fun i => !badHd s i) := by
  unfold printB
  rw [ends_eq, Bool.and_assoc]
  congr 1
  rw [Bool.eq_iff_iff, Bool.and_eq_true, Bool.not_eq_true', List.all_eq_true, List.all_eq_true]
  constructor
  · rintro ⟨h1, h2⟩ i hi
    have hi := List.mem_range.1 hi
    have ho : Lib.occAt s [61, 63] i = false := by
      cases h : Lib.occAt s [61, 63] i with
      | false => rfl
      | true => rw [(contains_iff s).2 ⟨i, hi, h⟩] at h1; cases h1
    rw [occ_at] at ho
    unfold badHd
    rw [ho, Bool.or_false, Bool.not_not, List.getD_eq_getElem?_getD, List.getElem?_eq_getElem hi]
    exact h2 _ (List.getElem_mem hi)
  · intro h
    constructor
    · cases hc : Lib.contains s [61, 63] with
      | false => rfl
      | true =>
        obtain ⟨j, hj, ho⟩ := (contains_iff s).1 hc
        have := h j (List.mem_range.2 hj)
        unfold badHd at this
        rw [← occ_at, ho, Bool.or_true] at this
        cases this
    · intro c hc
      obtain ⟨i, hi, rfl⟩ := List.mem_iff_getElem.1 hc
      have := h i (List.mem_range.2 hi)
      unfold badHd at this
      rw [Bool.not_or, Bool.and_eq_true, Bool.not_not, List.getD_eq_getElem?_getD, List.getElem?_eq_getElem hi] at this
      exact this.1
end Go.Proofs.YtllhpkpckjacfaaGreatDoor

/- ref29's hex and Cut, walked. -/
namespace Go.Proofs.YtllhpkpckjacfaaGreatDoor
open Go.RowKit Go.Proofs.YtllhpkpckjacfaaGreatDoorW.PrintWords PTemplateFilters
set_option linter.unusedVariables false
set_option linter.unusedSimpArgs false

theorem py_ext (s : Bytes) (i j : Nat) : (str s).extract i j = str ((s.take j).drop i) := by
  apply ByteArray.ext
  rw [ByteArray.data_extract]
  apply Array.ext'
  simp [str, List.drop_take]
theorem py_one (s : Bytes) {i : Nat} (h : i < s.length) : (str s).extract i (i + 1) = str [s[i]] := by
  rw [py_ext, List.take_succ_eq_append_getElem h, List.drop_append_of_le_length (by rw [List.length_take]; omega), List.drop_eq_nil_of_le (by rw [List.length_take]; omega)]
  rfl
theorem dig_ext (d : Nat) (h : d < 16) : (⟨#[48, 49, 50, 51, 52, 53, 54, 55, 56, 57, 65, 66, 67, 68, 69, 70]⟩ : ByteArray).extract d (d + 1) = str [HEXDs.getD d 0] := by
  rw [show (⟨#[48, 49, 50, 51, 52, 53, 54, 55, 56, 57, 65, 66, 67, 68, 69, 70]⟩ : ByteArray) = str HEXDs from rfl, py_one HEXDs (show d < HEXDs.length from h), List.getD_eq_getElem?_getD, List.getElem?_eq_getElem (show d < HEXDs.length from h)]
  rfl
theorem dig_run {a : Nat} (h : a < 16) (w1 : World) : Sem.run Tryz.prog (Instr.slice 9 (.string ⟨#[48, 49, 50, 51, 52, 53, 54, 55, 56, 57, 65, 66, 67, 68, 69, 70]⟩) (some (.int .u8 (a : Int))) (some (.int .u8 ((a : Int) + 1))) none) w1 = .ok (.string (str [HEXDs.getD a 0])) w1 := by
  have h2 := run_slice_string (P := Tryz.prog) w1 9 ⟨#[48, 49, 50, 51, 52, 53, 54, 55, 56, 57, 65, 66, 67, 68, 69, 70]⟩ .u8 .u8 (a : Int) ((a : Int) + 1) Tryz.underlying9 (by omega) (by omega) (by show (a : Int) + 1 ≤ 16; omega)
  rw [show ((a : Int) + 1).toNat = a + 1 by omega, Int.toNat_natCast, dig_ext a h] at h2
  exact h2
set_option maxHeartbeats 800000 in
set_option maxRecDepth 100000 in
theorem hexr_any (c : UInt8) (w : World) : Calls Tryz.prog 59 #[.int .u8 c.toNat] w fun e w' => e = .returned (.string (str (hexB c))) ∧ Drawn0 w w' := by
  have hc := c.toNat_lt
  obtain ⟨a, ha⟩ : ∃ a, c.toNat / 16 = a := ⟨_, rfl⟩
  obtain ⟨b, hb⟩ : ∃ b, c.toNat % 16 = b := ⟨_, rfl⟩
  have ha16 : a < 16 := by omega
  have hb16 : b < 16 := by omega
  have e1 : (c.toNat : Int).tdiv 16 = (a : Int) := by rw [Int.tdiv_eq_ediv_of_nonneg (by omega)]; omega
  have e2 : (c.toNat : Int).tmod 16 = (b : Int) := by rw [Int.tmod_eq_emod_of_nonneg (by omega)]; omega
  have w1 : IntKind.u8.wrap ((a : Int) + 1) = (a : Int) + 1 := by rw [IntKind.wrap_u8]; omega
  have w2 : IntKind.u8.wrap ((b : Int) + 1) = (b : Int) + 1 := by rw [IntKind.wrap_u8]; omega
  have w3 : IntKind.u8.wrap (a : Int) = (a : Int) := by rw [IntKind.wrap_u8]; omega
  have w4 : IntKind.u8.wrap (b : Int) = (b : Int) := by rw [IntKind.wrap_u8]; omega
  have r1 := dig_run ha16
  have r2 := dig_run hb16
  have HX := Lib.hid (show str (hexB c) = str [61] ++ str [HEXDs.getD a 0] ++ str [HEXDs.getD b 0] by rw [py_cat, py_cat, ← ha, ← hb]; rfl)
  have z1 := str_size [HEXDs.getD a 0]
  have z2 := str_size [HEXDs.getD b 0]
  rw [HX.out]
  generalize str [HEXDs.getD a 0] = A at *
  generalize str [HEXDs.getD b 0] = B at *
  rw [show str [61] = (⟨#[61]⟩ : ByteArray) from rfl]
  clear ha hb HX ha16 hb16
  go_enter Tryz.func59, Tryz.ntmps59
  go_wp2
  go_quiet (fail)
  go_wp2
  go_ret
  exact ⟨rfl, ⟨⟨nq, rfl⟩⟩⟩
set_option maxHeartbeats 800000 in
set_option maxRecDepth 100000 in
theorem cutr_any (w : World) (s : Bytes) (hs : s.length ≤ 100000) (most : Int) : Calls Tryz.prog 29 #[.string (str s), .int .i64 most] w fun e w' => e = .returned (.string (str (cutM s most))) ∧ w' = w := by
  have hsz := str_size s
  by_cases h1 : (s.length : Int) ≤ most
  · have hm : cutM s most = s := by unfold cutM; rw [if_pos h1]
    rw [hm]
    clear hm
    go_enter Tryz.func29, Tryz.ntmps29
    go_wp2
    go_ret
    exact ⟨rfl, rfl⟩
  · by_cases h3 : most < 3
    · have hm : cutM s most = [] := by unfold cutM; rw [if_neg h1, if_pos h3]
      rw [hm]
      clear hm
      go_enter Tryz.func29, Tryz.ntmps29
      go_wp2
      go_ret
      exact ⟨rfl, rfl⟩
    · obtain ⟨N, hN⟩ : ∃ N : Nat, most = (N : Int) + 3 := ⟨(most - 3).toNat, by omega⟩
      subst hN
      have hm : cutM s ((N : Int) + 3) = s.take (cutN s N) ++ [46, 46, 46] := by
        unfold cutM
        rw [if_neg h1, if_neg h3, show (((N : Int) + 3) - 3).toNat = N by omega]
      rw [hm]
      clear hm
      have hw : IntKind.i64.wrap (((N : Int) + 3) - 3) = (N : Int) := by rw [IntKind.wrap_i64]; omega
      have hNs : N + 3 < s.length := by omega
      go_enter Tryz.func29, Tryz.ntmps29
      go_wp2_with fail
      go_loopw [5] (fun v wr => CtRel w s N v wr) (fun v _ => (intOf v).toNat)
      case atStart => exact ⟨N, rfl, Nat.le_refl _, rfl, rfl⟩
      case round =>
        obtain ⟨n, rfl, hn, rfl, hc⟩ := hrel
        cases n with
        | zero =>
          have HH := Lib.hid (cut_zero hc.symm)
          clear hc
          rw [show ((0 : Nat) : Int) = 0 from rfl]
          go_wp2_with fail
          go_ret
          exact ⟨congrArg (fun x => Ending.returned (.string x)) HH.out, rfl⟩
        | succ n =>
          have hi : n + 1 < s.length := by omega
          have hn0 : (0 : Int) < ((n + 1 : Nat) : Int) := by omega
          have hni : ((n + 1 : Nat) : Int) < (s.length : Int) := by omega
          have hw1 : IntKind.i64.wrap (((n + 1 : Nat) : Int) - 1) = (n : Int) := by rw [IntKind.wrap_i64]; omega
          obtain ⟨c, hc1⟩ : ∃ c, s[n + 1]'hi = c := ⟨_, rfl⟩
          have hx : withinB c = (decide (128 ≤ c.toNat) && decide (c.toNat ≤ 191)) := rfl
          have hsc : (str s)[n + 1]'(by rw [hsz]; exact hi) = c := (str_get s (n + 1) hi (by rw [hsz]; exact hi)).trans hc1
          have hgd : s.getD (n + 1) 0 = c := by rw [List.getD_eq_getElem?_getD, List.getElem?_eq_getElem hi, Option.getD_some, hc1]
          cases hwi : withinB c with
          | true =>
            have hst : cutN s (n + 1) = cutN s n := by rw [cutN, hgd, if_pos hwi]
            have HH := Lib.hid (And.intro hst hc)
            rw [hwi] at hx
            have hx2 := (Bool.and_eq_true _ _).mp hx.symm
            have t1 : decide ((c.toNat : Int) < 128) = false := decide_eq_false (by have := of_decide_eq_true hx2.1; omega)
            have t2 : decide (191 < (c.toNat : Int)) = false := decide_eq_false (by have := of_decide_eq_true hx2.2; omega)
            clear hst hc hwi hx hx2 hgd hc1
            go_wp2_with fail
            go_roundw
            case rel => exact ⟨n, rfl, by omega, rfl, HH.out.1.symm.trans HH.out.2⟩
            case measure => simp [intOf]
          | false =>
            have hst : cutN s (n + 1) = n + 1 := by rw [cutN, hgd, if_neg (by rw [hwi]; simp)]
            have HH := Lib.hid (cut_end (k := n + 1) (hst.symm.trans hc).symm)
            by_cases h128 : c.toNat < 128
            · have t1 : decide ((c.toNat : Int) < 128) = true := decide_eq_true (by omega)
              clear hst hc hwi hx hgd hc1
              go_wp2_with fail
              go_ret
              exact ⟨congrArg (fun x => Ending.returned (.string x)) HH.out, rfl⟩
            · have t1 : decide ((c.toNat : Int) < 128) = false := decide_eq_false (by omega)
              have t2 : decide (191 < (c.toNat : Int)) = true := by
                rw [hwi, decide_eq_true (show 128 ≤ c.toNat by omega), Bool.true_and] at hx
                exact decide_eq_true (by have := of_decide_eq_false hx.symm; omega)
              clear hst hc hwi hx hgd hc1
              go_wp2_with fail
              go_ret
              exact ⟨congrArg (fun x => Ending.returned (.string x)) HH.out, rfl⟩
theorem u8n (c k : UInt8) : c = k ↔ (c.toNat : Int) = (k.toNat : Int) := by rw [← UInt8.toNat_inj]; omega
theorem w64_1 {i : Nat} (h : i < 1000000) : wrap64 ((i : Int) + 1) = ((i + 1 : Nat) : Int) := by rw [w64_in _ (by omega)]; simp
theorem take_flat (f : UInt8 → Bytes) (s : Bytes) {i : Nat} (h : i < s.length) : (s.take (i + 1)).flatMap f = (s.take i).flatMap f ++ f s[i] := by
  rw [List.take_succ_eq_append_getElem h, List.flatMap_append]
  simp
theorem from_run {s : Bytes} {k : Nat} (h : k ≤ s.length) (w1 : World) : Sem.run Tryz.prog (Instr.slice 9 (.string (str s)) (some (.int .i64 (k : Int))) none none) w1 = .ok (.string (str (s.drop k))) w1 := by
  have h2 := run_slice_string_from_if (P := Tryz.prog) w1 9 (str s) .i64 (k : Int) Tryz.underlying9
  rw [str_size, if_pos ⟨by omega, by omega⟩, Int.toNat_natCast, py_ext, List.take_of_length_le (by omega)] at h2
  exact h2
theorem to_run {s : Bytes} {k : Nat} (h : k ≤ s.length) (w1 : World) : Sem.run Tryz.prog (Instr.slice 9 (.string (str s)) none (some (.int .i64 (k : Int))) none) w1 = .ok (.string (str (s.take k))) w1 := by
  have h2 := run_slice_string_to_if (P := Tryz.prog) w1 9 (str s) .i64 (k : Int) Tryz.underlying9
  rw [str_size, if_pos ⟨by omega, by omega⟩, Int.toNat_natCast, py_take] at h2
  exact h2
def numsP (l : Bytes) : List Int := l.map fun b => (b.toNat : Int)
theorem numsP_len (l : Bytes) : (numsP l).length = l.length := by simp [numsP]
theorem numsP_app (a b : Bytes) : numsP (a ++ b) = numsP a ++ numsP b := by simp [numsP]
theorem numsP_str (l : Bytes) : strOfNums (numsP l) = str l := by
  simp [strOfNums, numsP, str, Function.comp_def]
end Go.Proofs.YtllhpkpckjacfaaGreatDoor

/- Out of the print of PayloadTexts. -/
namespace Go.Proofs.YtllhpkpckjacfaaGreatDoor.PTemplateFilters
open Go.RowKit Go.Proofs.YtllhpkpckjacfaaGreatDoorW.PrintWords Go.Proofs.YtllhpkpckjacfaaGreatDoorW.PrintLast Go.Proofs.YtllhpkpckjacfaaGreatDoorW.PrintMore
attribute [local go_sem] max2_int min2_int max_two min_two max_three min_three max_four min_four   -- for this text's walks alone
set_option linter.unusedVariables false
set_option linter.unusedSimpArgs false

/-- A byte by its digits. -/
def watchfireref29_hex.f (a0 : Int) : Option ByteArray := if 0 ≤ a0 ∧ a0 < 256 then some (str (hexB (UInt8.ofNat a0.toNat))) else none
theorem watchfireref29_hex.calls (a0 : Int) (r : ByteArray) (w : World) (h : watchfireref29_hex.f a0 = some r) : Calls Tryz.prog 59 #[.int .u8 a0] w fun e w' => e = .returned (.string r) ∧ Drawn0 w w' := by
  unfold watchfireref29_hex.f at h
  split at h
  · rename_i ha
    have := hexr_any (UInt8.ofNat a0.toNat) w
    rw [show (((UInt8.ofNat a0.toNat).toNat : Nat) : Int) = a0 by rw [UInt8.toNat_ofNat']; omega] at this
    rw [Option.some.inj h] at this
    exact this
  · cases h
theorem hex_f (c : UInt8) : watchfireref29_hex.f (c.toNat : Int) = some (str (hexB c)) := by
  have hc := c.toNat_lt
  unfold watchfireref29_hex.f
  rw [if_pos (by omega), Int.toNat_natCast, UInt8.ofNat_toNat]

end Go.Proofs.YtllhpkpckjacfaaGreatDoor.PTemplateFilters
