import Derived.Test.YtcdeikhfmllkdaaGreatDoorRpK
import Derived.Test.YtcdeikhfmllkdaaGreatDoorRpD
import Derived.Test.YtcdeikhfmllkdaaGreatDoorRwA
import Derived.Test.YtcdeikhfmllkdaaGreatDoorRwF
/- regex: the parser in memory; its small functions. -/
namespace Go.Proofs.YtcdeikhfmllkdaaGreatDoor
open Go.RowKit
set_option linter.unusedVariables false
set_option linter.unusedSimpArgs false
/-- A state: a set's 256 bools, or none. -/
structure St where
  set : Option (List Bool)
  next : Int
  other : Int
/-- A set in memory. -/
def SetC (w : World) (q : Nat) (V : Value) : Option (List Bool) → Value → Prop
  | none, p => p = .pointer none
  | some bs, p => ∃ g, p = .pointer (some ⟨g, 0, none⟩) ∧ g ≠ q ∧ V.ownBlock ≠ some g ∧ bs.length = 256 ∧ w.heap[g]? = some (.cells (bs.map Value.bool).toArray 325)
def stCells (p : Value) (st : St) : List Value := [p, .int .i64 st.next, .int .i64 st.other]
/-- States in line, their sets by pointers. -/
inductive StsC (w : World) (q : Nat) (V : Value) : List St → List Value → Prop
  | nil : StsC w q V [] []
  | snoc {l : List St} {cs : List Value} {st : St} {p : Value} (h : StsC w q V l cs) (hp : SetC w q V st.set p) : StsC w q V (l ++ [st]) (cs ++ stCells p st)
theorem SetC.kept {w w' : World} {q : Nat} {V V' : Value} {o : Option (List Bool)} {p : Value} (h : SetC w q V o p) (hk : ∀ g, g < w.heap.size → g ≠ q → V.ownBlock ≠ some g → w'.heap[g]? = w.heap[g]? ∧ V'.ownBlock ≠ some g) : SetC w' q V' o p := by
  cases o with
  | none => exact h
  | some bs =>
    obtain ⟨g, e, h1, h2, h3, h4⟩ := h
    have hg := (Array.getElem?_eq_some_iff.1 h4).1
    obtain ⟨k1, k2⟩ := hk g hg h1 h2
    exact ⟨g, e, h1, k2, h3, k1.trans h4⟩
theorem StsC.kept {w w' : World} {q : Nat} {V V' : Value} {l : List St} {cs : List Value} (h : StsC w q V l cs) (hk : ∀ g, g < w.heap.size → g ≠ q → V.ownBlock ≠ some g → w'.heap[g]? = w.heap[g]? ∧ V'.ownBlock ≠ some g) : StsC w' q V' l cs := by
  induction h with
  | nil => exact .nil
  | snoc h hp ih => exact .snoc ih (hp.kept hk)
/-- A parser in memory. -/
structure PrV (w : World) (q : Nat) (V : Value) (s : Bytes) (l : List St) : Prop where
  row : w.heap[q]? = some (.cells #[.string (str s), V] 258)
  own : ∃ cs, w.ownsRow (q + 1) 264 3 V l.length cs ∧ StsC w q V l cs
theorem PrV.lt {w : World} {q : Nat} {V : Value} {s : Bytes} {l : List St} (P : PrV w q V s l) : q < w.heap.size := (Array.getElem?_eq_some_iff.1 P.row).1
theorem PrV.c0 {w : World} {q : Nat} {V : Value} {s : Bytes} {l : List St} (P : PrV w q V s l) : w.cell? ⟨q, 0, none⟩ = some (.string (str s)) := (cells_of P.row 0).1
theorem PrV.c1 {w : World} {q : Nat} {V : Value} {s : Bytes} {l : List St} (P : PrV w q V s l) : w.cell? ⟨q, 1, none⟩ = some V := (cells_of P.row 1).1
theorem PrV.f {w : World} {q : Nat} {V : Value} {s : Bytes} {l : List St} (P : PrV w q V s l) (i : Nat) : w.frozen? ⟨q, i, none⟩ = false := (cells_of P.row i).2
theorem ownsRow_form {w : World} {B E sz n : Nat} {V : Value} {cs : List Value} (h : w.ownsRow B E sz V n cs) : ∃ p cap, V = .slice p n cap := by
  rcases h.2 with ⟨h1, h2⟩ | ⟨g, cap, cur, h1, _⟩
  · exact ⟨none, 0, by rw [h1, h2]⟩
  · exact ⟨_, cap, h1⟩
theorem PrV.form {w : World} {q : Nat} {V : Value} {s : Bytes} {l : List St} (P : PrV w q V s l) : ∃ p cap, V = .slice p l.length cap := by
  obtain ⟨cs, h, _⟩ := P.own
  exact ownsRow_form h
theorem PrV.below {w w' : World} {q : Nat} {V : Value} {s : Bytes} {l : List St} (P : PrV w q V s l) (b : Below w.heap.size w w') : PrV w' q V s l := by
  obtain ⟨cs, h, hs⟩ := P.own
  exact ⟨(b.block _ P.lt).trans P.row, cs, ownsRow_below h b, hs.kept (fun g hg _ h2 => ⟨b.block g hg, h2⟩)⟩
/-- What a parser's function leaves: the parser, and all else of before but what is the parser's own. -/
structure PrPost (w w' : World) (q : Nat) (V : Value) (s : Bytes) (l : List St) : Prop where
  pr : ∃ V', PrV w' q V' s l ∧ TrK w w' q V V'
  bel : Below q w w'
theorem PrPost.trans {w w1 w2 : World} {q : Nat} {V V1 : Value} {s1 s2 : Bytes} {l1 l2 : List St} (h1 : PrV w1 q V1 s1 l1) (k1 : TrK w w1 q V V1) (b1 : Below q w w1) (h : PrPost w1 w2 q V1 s2 l2) : PrPost w w2 q V s2 l2 := by
  obtain ⟨⟨V2, p2, k2⟩, b2⟩ := h
  exact ⟨⟨V2, p2, k1.trans k2⟩, b1.trans b2⟩
/-- The parser's text alone has changed. -/
structure TxR (w w' : World) (q : Nat) (V : Value) (s : Bytes) : Prop where
  row : w'.heap[q]? = some (.cells #[.string (str s), V] 258)
  keep : ∀ k, k < w.heap.size → k ≠ q → w'.heap[k]? = w.heap[k]?
  bel : Below q w w'
theorem TxR.pr {w w' : World} {q : Nat} {V : Value} {s s' : Bytes} {l : List St} (P : PrV w q V s l) (T : TxR w w' q V s') : PrV w' q V s' l := by
  obtain ⟨cs, h, hs⟩ := P.own
  refine ⟨T.row, cs, ?_, hs.kept (fun g hg h1 h2 => ⟨T.keep g hg h1, h2⟩)⟩
  refine ⟨h.1, ?_⟩
  rcases h.2 with hn | ⟨g', cap, cur, e, hb', hg', rest⟩
  · exact .inl hn
  · exact .inr ⟨g', cap, cur, e, hb', (T.keep g' (Array.getElem?_eq_some_iff.1 hg').1 (by omega)).trans hg', rest⟩
theorem TxR.post {w w' : World} {q : Nat} {V : Value} {s s' : Bytes} {l : List St} (P : PrV w q V s l) (T : TxR w w' q V s') : PrPost w w' q V s' l :=
  ⟨⟨V, T.pr P, ⟨fun k hk hq _ => T.keep k hk hq, fun k hk => .inl hk, T.bel.size⟩⟩, T.bel⟩
theorem TxR.refl {w : World} {q : Nat} {V : Value} {s : Bytes} {l : List St} (P : PrV w q V s l) : TxR w w q V s := ⟨P.row, fun _ _ _ => rfl, Below.refl _ _⟩
theorem TxR.trans {w w1 w2 : World} {q : Nat} {V : Value} {s s' : Bytes} (h : TxR w w1 q V s) (k : TxR w1 w2 q V s') : TxR w w2 q V s' :=
  ⟨k.row, fun j hj hq => (k.keep j (Nat.lt_of_lt_of_le hj h.bel.size) hq).trans (h.keep j hj hq), h.bel.trans k.bel⟩
theorem TxR.below {w w1 w2 : World} {q : Nat} {V : Value} {s : Bytes} (h : TxR w w1 q V s) (b : Below w1.heap.size w1 w2) : TxR w w2 q V s :=
  ⟨(b.block _ (Array.getElem?_eq_some_iff.1 h.row).1).trans h.row, fun j hj hq => (b.block j (Nat.lt_of_lt_of_le hj h.bel.size)).trans (h.keep j hj hq), h.bel.trans (b.mono (Nat.le_of_lt (Array.getElem?_eq_some_iff.1 h.row).1))⟩
theorem PrV.tx {w : World} {q : Nat} {V : Value} {s : Bytes} {l : List St} (P : PrV w q V s l) (s' : Bytes) : TxR w (w.setCell ⟨q, 0, none⟩ (.string (str s'))) q V s' :=
  ⟨by simpa using blk_set P.row 0 (.string (str s')), fun k _ hq => Below.heap_setCell _ _ _ _ hq, (Below.refl _ _).setCell (p := ⟨q, 0, none⟩) (Nat.le_refl _) _⟩
def badE : Ending := .panicked [{ v := .iface 253 (.agg #[]), recovered := false }]
def peekR : Bytes → Value
  | [] => .tuple #[.int .u8 0, .bool false]
  | c :: _ => .tuple #[.int .u8 c.toNat, .bool true]
set_option maxRecDepth 100000 in
theorem peek_any {w : World} {q : Nat} {V : Value} {s : Bytes} {l : List St} (P : PrV w q V s l) :
    Calls Tryz.prog 247 #[.pointer (some ⟨q, 0, none⟩)] w fun e w' => e = .returned (peekR s) ∧ w' = w := by
  have c0 := P.c0
  clear P
  cases s with
  | nil =>
    rw [show str [] = (⟨#[]⟩ : ByteArray) from rfl] at c0
    go_enter Tryz.func247, Tryz.ntmps247
    go_wp2_with fail
    go_ret2
    exact ⟨rfl, rfl⟩
  | cons c t =>
    obtain ⟨hE, hsz, h0, -⟩ := cons_facts c t
    obtain ⟨S, hS⟩ : ∃ S, str (c :: t) = S := ⟨_, rfl⟩
    rw [hS] at c0 hE hsz h0
    have hz0 : 0 < S.size := by omega
    have h00 := h0 hz0
    have hS1 : (0 : Int) < (S.size : Int) := by omega
    clear hS h0
    go_enter Tryz.func247, Tryz.ntmps247
    go_wp2_with fail
    go_ret2
    exact ⟨rfl, rfl⟩

set_option maxRecDepth 100000 in
theorem take_cons {w : World} {q : Nat} {V : Value} {c : UInt8} {t : Bytes} {l : List St} (P : PrV w q V (c :: t) l) :
    Calls Tryz.prog 262 #[.pointer (some ⟨q, 0, none⟩)] w fun e w' => e = .returned (.int .u8 c.toNat) ∧ TxR w w' q V t := by
  have HP := Lib.hid (peek_any P)
  have H2 := Lib.hid (P.tx t)
  have c0 := P.c0
  have f0 := P.f 0
  obtain ⟨hE, hsz, -, hx⟩ := cons_facts c t
  obtain ⟨S, hS⟩ : ∃ S, str (c :: t) = S := ⟨_, rfl⟩
  rw [hS] at c0 hE hsz hx
  rw [hsz] at hx
  have hS1 : (1 : Int) ≤ (S.size : Int) := by omega
  clear hS P
  simp only [peekR] at HP
  go_enter Tryz.func262, Tryz.ntmps262
  go_wp2_with (first | (go_at_call 247; refine HP.out.mono ?_; rintro e w2 ⟨rfl, hw⟩; rw [hw]; clear hw))
  go_ret
  exact ⟨rfl, H2.out⟩
set_option maxRecDepth 100000 in
theorem take_nil {w : World} {q : Nat} {V : Value} {l : List St} (P : PrV w q V [] l) :
    Calls Tryz.prog 262 #[.pointer (some ⟨q, 0, none⟩)] w fun e w' => e = badE ∧ w' = w := by
  have HP := Lib.hid (peek_any P)
  clear P
  simp only [peekR] at HP
  unfold badE
  go_enter Tryz.func262, Tryz.ntmps262
  go_wp2_with (first | (go_at_call 247; refine HP.out.mono ?_; rintro e w2 ⟨rfl, hw⟩; rw [hw]; clear hw))
  exact ⟨rfl, rfl, rfl⟩

/-- Is the next byte this one? -/
def isM (c : UInt8) (s : Bytes) : Bool := s.head? == some c
set_option maxRecDepth 100000 in
theorem is_yes' {w : World} {q : Nat} {V : Value} {c : UInt8} {t : Bytes} {l : List St} (P : PrV w q V (c :: t) l) :
    Calls Tryz.prog 229 #[.pointer (some ⟨q, 0, none⟩), .int .u8 c.toNat] w fun e w' => e = .returned (.bool true) ∧ TxR w w' q V t := by
  have HP := Lib.hid (peek_any P)
  have H2 := Lib.hid (P.tx t)
  have c0 := P.c0
  have f0 := P.f 0
  obtain ⟨hE, hsz, -, hx⟩ := cons_facts c t
  obtain ⟨S, hS⟩ : ∃ S, str (c :: t) = S := ⟨_, rfl⟩
  rw [hS] at c0 hE hsz hx
  rw [hsz] at hx
  have hS1 : (1 : Int) ≤ (S.size : Int) := by omega
  have e1 : ((c.toNat : Int) != (c.toNat : Int)) = false := by rw [bne_eq_false_iff_eq]
  clear hS P
  simp only [peekR] at HP
  go_enter Tryz.func229, Tryz.ntmps229
  go_wp2_with (first | (go_at_call 247; refine HP.out.mono ?_; rintro e w2 ⟨rfl, hw⟩; rw [hw]; clear hw))
  go_ret
  exact ⟨rfl, H2.out⟩
set_option maxRecDepth 100000 in
theorem is_not' {w : World} {q : Nat} {V : Value} {d : UInt8} {s : Bytes} {l : List St} (P : PrV w q V s l) (h : s.head? ≠ some d) :
    Calls Tryz.prog 229 #[.pointer (some ⟨q, 0, none⟩), .int .u8 d.toNat] w fun e w' => e = .returned (.bool false) ∧ w' = w := by
  have HP := Lib.hid (peek_any P)
  clear P
  cases s with
  | nil =>
    simp only [peekR] at HP
    go_enter Tryz.func229, Tryz.ntmps229
    go_wp2_with (first | (go_at_call 247; refine HP.out.mono ?_; rintro e w2 ⟨rfl, hw⟩; rw [hw]; clear hw))
    go_ret
    exact ⟨rfl, rfl⟩
  | cons c t =>
    simp only [peekR] at HP
    have e1 : ((c.toNat : Int) != (d.toNat : Int)) = true := by
      rw [bne_iff_ne]
      intro e
      apply h
      have : c.toNat = d.toNat := by omega
      rw [List.head?_cons, UInt8.toNat_inj.1 this]
    clear h
    go_enter Tryz.func229, Tryz.ntmps229
    go_wp2_with (first | (go_at_call 247; refine HP.out.mono ?_; rintro e w2 ⟨rfl, hw⟩; rw [hw]; clear hw))
    go_ret
    exact ⟨rfl, rfl⟩
/-- In one: is, as a plain function. -/
def isR (c : UInt8) : Bytes → Bool × Bytes
  | [] => (false, [])
  | d :: t => if d = c then (true, t) else (false, d :: t)
theorem is_any' {w : World} {q : Nat} {V : Value} {s : Bytes} {l : List St} (P : PrV w q V s l) (c : UInt8) :
    Calls Tryz.prog 229 #[.pointer (some ⟨q, 0, none⟩), .int .u8 c.toNat] w fun e w' => e = .returned (.bool (isR c s).1) ∧ TxR w w' q V (isR c s).2 := by
  have rf := TxR.refl P
  cases s with
  | nil => exact (is_not' P (by simp)).mono fun e w' ⟨he, hw⟩ => ⟨he, hw ▸ rf⟩
  | cons d t =>
    by_cases h : d = c
    · subst h
      simpa [isR] using is_yes' P
    · have h' : (d :: t).head? ≠ some c := by simpa using h
      simp only [isR, if_neg h]
      exact (is_not' P h').mono fun e w' ⟨he, hw⟩ => ⟨he, hw ▸ rf⟩
/-- take, as a plain function. -/
def takeP (w w' : World) (q : Nat) (V : Value) (e : Ending) : Option (UInt8 × Bytes) → Prop
  | none => e = badE ∧ Below q w w'
  | some (c, t) => e = .returned (.int .u8 c.toNat) ∧ TxR w w' q V t
def takeM : Bytes → Option (UInt8 × Bytes)
  | [] => none
  | c :: t => some (c, t)
theorem take_any {w : World} {q : Nat} {V : Value} {s : Bytes} {l : List St} (P : PrV w q V s l) : Calls Tryz.prog 262 #[.pointer (some ⟨q, 0, none⟩)] w fun e w' => takeP w w' q V e (takeM s) := by
  cases s with
  | nil => exact (take_nil P).mono fun e w' ⟨he, hw⟩ => ⟨he, hw ▸ Below.refl _ _⟩
  | cons c t => exact take_cons P
def memberM : Bytes → Option (UInt8 × Bytes)
  | [] => none
  | c :: t => if c = 93 then none else if c = 92 then takeM t else some (c, t)
set_option maxRecDepth 100000 in
theorem member_any {w : World} {q : Nat} {V : Value} {s : Bytes} {l : List St} (P : PrV w q V s l) : Calls Tryz.prog 266 #[.pointer (some ⟨q, 0, none⟩)] w fun e w' => takeP w w' q V e (memberM s) := by
  cases s with
  | nil =>
    have H := Lib.hid (take_nil P)
    show Calls _ _ _ w fun e w' => e = badE ∧ Below q w w'
    clear P
    go_enter Tryz.func266, Tryz.ntmps266
    unfold badE at *
    go_wp2_with (first | (go_at_call 262; refine H.out.mono ?_; rintro e w2 ⟨rfl, hw⟩))
    exact ⟨rfl, rfl, hw ▸ Below.refl _ _⟩
  | cons c t =>
    have H := Lib.hid (take_cons P)
    have HP := Lib.hid P
    clear P
    by_cases h93 : c = 93
    · subst h93
      simp only [memberM, if_pos rfl]
      show Calls _ _ _ w fun e w' => e = badE ∧ Below q w w'
      unfold badE
      have H : Hid (Calls Tryz.prog 262 #[.pointer (some ⟨q, 0, none⟩)] w fun e w' => e = .returned (.int .u8 93) ∧ TxR w w' q V t) := Lib.hid H.out
      go_enter Tryz.func266, Tryz.ntmps266
      go_wp2_with (first | (go_at_call 262; refine H.out.mono ?_; rintro e w2 ⟨rfl, h2⟩; have H2 := Lib.hid h2; clear h2))
      exact ⟨rfl, rfl, H2.out.bel⟩
    · have n93 : ((c.toNat : Int) == 93) = false := by
        rw [beq_eq_false_iff_ne]; intro e; apply h93; apply UInt8.toNat_inj.1; show c.toNat = 93; omega
      by_cases h92 : c = 92
      · subst h92
        simp only [memberM, if_pos rfl, if_neg h93]
        have H : Hid (Calls Tryz.prog 262 #[.pointer (some ⟨q, 0, none⟩)] w fun e w' => e = .returned (.int .u8 92) ∧ TxR w w' q V t) := Lib.hid H.out
        cases t with
        | nil =>
          show Calls _ _ _ w fun e w' => e = badE ∧ Below q w w'
          unfold badE
          go_enter Tryz.func266, Tryz.ntmps266
          go_upto_region 2 with (first | (go_at_call 262; refine H.out.mono ?_; rintro e w2 ⟨rfl, h2⟩; have H2 := Lib.hid h2; clear h2))
          have H3 := Lib.hid (take_nil (TxR.pr HP.out H2.out))
          unfold badE at H3
          go_wp2_with (first | (go_at_call 262; refine H3.out.mono ?_; rintro e w3 ⟨rfl, hw⟩; rw [hw]; clear hw))
          exact ⟨rfl, rfl, H2.out.bel⟩
        | cons d u =>
          show Calls _ _ _ w fun e w' => e = .returned (.int .u8 d.toNat) ∧ TxR w w' q V u
          go_enter Tryz.func266, Tryz.ntmps266
          go_upto_region 2 with (first | (go_at_call 262; refine H.out.mono ?_; rintro e w2 ⟨rfl, h2⟩; have H2 := Lib.hid h2; clear h2))
          have H3 := Lib.hid (take_cons (TxR.pr HP.out H2.out))
          go_wp2_with (first | (go_at_call 262; refine H3.out.mono ?_; rintro e w3 ⟨rfl, h3⟩; have H4 := Lib.hid h3; clear h3))
          go_ret
          exact ⟨rfl, H2.out.trans H4.out⟩
      · have n92 : ((c.toNat : Int) == 92) = false := by
          rw [beq_eq_false_iff_ne]; intro e; apply h92; apply UInt8.toNat_inj.1; show c.toNat = 92; omega
        simp only [memberM, if_neg h93, if_neg h92]
        show Calls _ _ _ w fun e w' => e = .returned (.int .u8 c.toNat) ∧ TxR w w' q V t
        go_enter Tryz.func266, Tryz.ntmps266
        go_wp2_with (first | (go_at_call 262; refine H.out.mono ?_; rintro e w2 ⟨rfl, h2⟩; have H2 := Lib.hid h2; clear h2))
        go_ret
        exact ⟨rfl, H2.out⟩
theorem Tryz.info264 : (Tryz.prog.info? 264).map (fun i => (i.zero, i.size, i.bytes)) = some (some (.agg #[.pointer none, .int .i64 0, .int .i64 0]), 3, 24) := by kernel_rfl
end Go.Proofs.YtcdeikhfmllkdaaGreatDoor

/- regex: add, free, one, single. -/
namespace Go.Proofs.YtcdeikhfmllkdaaGreatDoor
open Go.RowKit
set_option linter.unusedVariables false
set_option linter.unusedSimpArgs false
theorem SetC.ptr {w : World} {q : Nat} {V : Value} {o : Option (List Bool)} {p : Value} (h : SetC w q V o p) : ∃ po, p = .pointer po := by
  cases o with
  | none => exact ⟨none, h⟩
  | some bs => obtain ⟨g, e, _⟩ := h; exact ⟨_, e⟩
theorem PrV.mid {w w1 w2 : World} {q : Nat} {V : Value} {s : Bytes} {l : List St} (P : PrV w q V s l) (hb : Below w.heap.size w w1) (hg : w1.grownBy w2 V.ownBlock) : w2.heap[q]? = some (.cells #[.string (str s), V] 258) := by
  obtain ⟨cs, h, _⟩ := P.own
  rw [hg.block q (Nat.lt_of_lt_of_le P.lt hb.size) (fun e => by have := (World.ownsRow.lt h _ e.symm).1; omega), hb.block q P.lt]
  exact P.row
theorem PrV.grown {w w1 w2 : World} {q g cap : Nat} {V : Value} {s : Bytes} {l : List St} {cs : List Value} {st : St} {p : Value} (P : PrV w q V s l) (ho : w.ownsRow (q + 1) 264 3 V l.length cs) (hs : StsC w q V l cs) (hp : SetC w q V st.set p)
    (hb : Below w.heap.size w w1) (hg : w1.grownBy w2 V.ownBlock) (h : w2.ownsRow (q + 1) 264 3 (.slice (some ⟨g, 0, none⟩) (l.length + 1) cap) (l.length + 1) (cs ++ stCells p st)) (hat : V.ownBlock = some g ∨ g = w1.heap.size) :
    PrPost w (w2.setCell ⟨q, 1, none⟩ (.slice (some ⟨g, 0, none⟩) (l.length + 1) cap)) q V s (l ++ [st]) := by
  have hm := P.mid hb hg
  have hlt := P.lt
  have hgq : g ≠ q := by have := (World.ownsRow.lt h g rfl).1; omega
  have hk : ∀ k, k < w.heap.size → k ≠ q → V.ownBlock ≠ some k → (w2.setCell ⟨q, 1, none⟩ (.slice (some ⟨g, 0, none⟩) (l.length + 1) cap)).heap[k]? = w.heap[k]? := fun k h1 h2 h3 => by
    rw [Below.heap_setCell _ _ _ _ h2, hg.block k (Nat.lt_of_lt_of_le h1 hb.size) (fun e => h3 e.symm), hb.block k h1]
  have hn : ∀ k, k < w.heap.size → V.ownBlock ≠ some k → (Value.slice (some ⟨g, 0, none⟩) (l.length + 1) cap).ownBlock ≠ some k := fun k h1 h3 e => by
    simp only [Value.ownBlock, Option.some.injEq] at e
    subst e
    rcases hat with h | h
    · exact h3 h
    · have := hb.size; omega
  refine ⟨⟨.slice (some ⟨g, 0, none⟩) (l.length + 1) cap, ⟨by simpa using blk_set hm 1 (.slice (some ⟨g, 0, none⟩) (l.length + 1) cap), cs ++ stCells p st, ?_, ?_⟩, ⟨hk, fun k hk' => ?_, ?_⟩⟩, ?_⟩
  · rw [List.length_append]
    refine ⟨h.1, ?_⟩
    rcases h.2 with hn | ⟨g', cap', cur, e, hb', hg', rest⟩
    · exact .inl hn
    · exact .inr ⟨g', cap', cur, e, hb', (Below.heap_setCell _ _ _ _ (by show g' ≠ q; omega)).trans hg', rest⟩
  · exact .snoc (hs.kept (fun k h1 h2 h3 => ⟨hk k h1 h2 h3, hn k h1 h3⟩)) (hp.kept (fun k h1 h2 h3 => ⟨hk k h1 h2 h3, hn k h1 h3⟩))
  · simp only [Value.ownBlock, Option.some.injEq] at hk'
    subst hk'
    rcases hat with h | h
    · exact .inl h
    · exact .inr (by have := hb.size; omega)
  · have := hb.size; have := hg.size; simp; omega
  · have t1 : Turn (fun k => k = q ∨ V.ownBlock = some k) w1 w2 := ⟨hg.os, hg.tape, hg.output, hg.size, fun k hk hn => hg.block k hk (fun e => hn (.inr e.symm))⟩
    have t2 := ((Turn.of_below hb : Turn (fun k => k = q ∨ V.ownBlock = some k) w w1).trans t1).trans (turn_set w2 q 1 (.slice (some ⟨g, 0, none⟩) (l.length + 1) cap) _ (.inl rfl))
    refine t2.to_below (Nat.le_of_lt hlt) (fun k hk => ?_)
    rcases hk with rfl | hk
    · exact Nat.le_refl _
    · have := (World.ownsRow.lt ho k hk).1; omega
set_option maxRecDepth 100000 in
set_option maxHeartbeats 4000000 in
theorem radd_any {w : World} {q : Nat} {V : Value} {s : Bytes} {l : List St} (P : PrV w q V s l) (hl : l.length < 100000) (st : St) {p : Value} (hp : SetC w q V st.set p) :
    Calls Tryz.prog 231 #[.pointer (some ⟨q, 0, none⟩), .agg #[p, .int .i64 st.next, .int .i64 st.other]] w fun e w' => e = .returned (.int .i64 l.length) ∧ PrPost w w' q V s (l ++ [st]) := by
  obtain ⟨i0, hi0, iz0, iz1, iz2⟩ := info_parts Tryz.info264
  obtain ⟨po, rfl⟩ := hp.ptr
  obtain ⟨cs, ho, hs⟩ := P.own
  obtain ⟨pV, cV, rfl⟩ := P.form
  have HP := Lib.hid (And.intro P (And.intro ho (And.intro hs hp)))
  have c1 := P.c1
  have hq := P.lt
  have hb : Below w.heap.size w (((w.alloc (.cells #[.pointer po, .int .i64 st.next, .int .i64 st.other] 264)).alloc (.cells #[.pointer po, .int .i64 st.next, .int .i64 st.other] 264)).drew) := Below.drew (((Below.refl _ _).alloc (Nat.le_refl _) _).alloc (by simp) _)
  have HB := Lib.hid hb
  have hq1 : q ≠ w.heap.size := Nat.ne_of_lt hq
  have hq2 : q ≠ w.heap.size + 1 := by omega
  have hw1 : w.heap.size ≠ w.heap.size + 1 := by omega
  clear P ho hs hp hb
  go_enter Tryz.func231, Tryz.ntmps231
  go_upto_region 1 with fail
  go_region_law (refine step_append_lies _ (by rfl) _ _ _ (by rfl) (q + 1) 264 i0 _ 3 24 Tryz.underlying256 hi0 iz0 iz1 iz2 rfl (by omega) (.slice pV l.length cV) l.length cs (by rfl) (ownsRow_below HP.out.2.1 HB.out) ⟨w.heap.size + 1, 0, none⟩ 1 1 [.pointer po, .int .i64 st.next, .int .i64 st.other] (by rfl) (by rfl) (World.news_of_block (cs := #[.pointer po, .int .i64 st.next, .int .i64 st.other]) (t := 264) (fr := (0, 0)) (row_2of2 w _ _)) (by simp [Value.oneCell']) (by omega) (by unfold maxLen; omega) (by omega) (by simp; omega) (w.heap.size + 2) (by simp) ?_; intro g6 cap6 w3 hown3 hgrow3 hat3 hlt3; have H3 := Lib.hid (HP.out.1.grown (st := st) HP.out.2.1 HP.out.2.2.1 HP.out.2.2.2 HB.out hgrow3 hown3 (by simpa using hat3)); have hm3 := HP.out.1.mid HB.out hgrow3; have d0 : w3.cell? ⟨q, 1, none⟩ = some (.slice pV l.length cV) := (cells_of hm3 1).1; have d1 : w3.frozen? ⟨q, 1, none⟩ = false := (cells_of hm3 1).2; clear hown3 hgrow3 hat3 hlt3 hm3)
  all_goals
    go_wp2_with fail
    go_ret
    exact ⟨rfl, H3.out⟩

def freeS : St := ⟨none, -1, -1⟩
set_option maxRecDepth 100000 in
theorem rfree_p {w : World} {q : Nat} {V : Value} {s : Bytes} {l : List St} (P : PrV w q V s l) (hl : l.length < 100000) :
    Calls Tryz.prog 230 #[.pointer (some ⟨q, 0, none⟩)] w fun e w' => e = .returned (.int .i64 l.length) ∧ PrPost w w' q V s (l ++ [freeS]) := by
  have HA : Hid (Calls Tryz.prog 231 #[.pointer (some ⟨q, 0, none⟩), .agg #[.pointer none, .int .i64 (-1), .int .i64 (-1)]] w fun e w' => e = .returned (.int .i64 l.length) ∧ PrPost w w' q V s (l ++ [freeS])) := Lib.hid (radd_any P hl freeS (p := .pointer none) rfl)
  clear P
  go_enter Tryz.func230, Tryz.ntmps230
  go_wp2_with (first | (go_at_call 231; refine HA.out.mono ?_; rintro e w2 ⟨rfl, h2⟩; have H2 := Lib.hid h2; clear h2))
  go_ret
  exact ⟨rfl, H2.out⟩
theorem Tryz.size260 : (Tryz.prog.info? 260).map (·.size) = some 2 := by kernel_rfl
theorem Tryz.struct260 : (match Tryz.prog.underlying 260 with | some (.struct _) => true | _ => false) = true := by kernel_rfl
theorem results_pc {fn : Func} {p : Tmp} (h : fn.results = #[.cell p 260]) (tmps : Array Value) (w : World) (g : Nat) (cs : Array Value) (hs : cs.size = 2)
    (hp : tmps.getD p undef = .pointer (some ⟨g, 0, none⟩)) (hg : w.heap[g]? = some (.cells cs 260)) :
    (results fn tmps).run Tryz.prog w = .ok (.agg cs) w := by
  have hst := Tryz.struct260
  cases hd : Tryz.prog.underlying 260 with
  | none => rw [hd] at hst; cases hst
  | some d =>
    rw [hd] at hst
    refine results_c1 h tmps w g 260 cs (0, 0) d hp hg hd ?_ (by rw [hs]; exact Tryz.size260)
    cases d <;> first | rfl | cases hst
/-- The parser, while the caller's boxes (of pieces) stay. -/
structure PrB (w wr : World) (q : Nat) (V : Value) (s : Bytes) (l : List St) (bs : List (Nat × Array Value)) : Prop where
  pr : ∃ V', PrV wr q V' s l ∧ TrK w wr q V V' ∧ ∀ x ∈ bs, V'.ownBlock ≠ some x.1
  rows : ∀ x ∈ bs, wr.heap[x.1]? = some (.cells x.2 260) ∧ x.1 ≠ q ∧ w.heap.size ≤ x.1
  nd : (bs.map (·.1)).Nodup
  bel : Below q w wr
  hq : q < w.heap.size
theorem PrB.start {w : World} {q : Nat} {V : Value} {s : Bytes} {l : List St} (P : PrV w q V s l) : PrB w w q V s l [] := ⟨⟨V, P, TrK.of_below (Below.refl _ _), by simp⟩, by simp, by simp, Below.refl _ _, P.lt⟩
theorem PrV.own_lt {w : World} {q : Nat} {V : Value} {s : Bytes} {l : List St} (p : PrV w q V s l) {g : Nat} (hg : V.ownBlock = some g) : q < g ∧ g < w.heap.size := by
  obtain ⟨cs, h, _⟩ := p.own
  have := World.ownsRow.lt h g hg
  omega
theorem PrB.alloc {w wr : World} {q : Nat} {V : Value} {s : Bytes} {l : List St} {bs : List (Nat × Array Value)} (H : PrB w wr q V s l bs) (cs : Array Value) : PrB w (wr.alloc (.cells cs 260)) q V s l ((wr.heap.size, cs) :: bs) := by
  obtain ⟨V', p, k, hn⟩ := H.pr
  have ba : Below wr.heap.size wr (wr.alloc (.cells cs 260)) := (Below.refl _ _).alloc (Nat.le_refl _) _
  refine ⟨⟨V', p.below ba, k.trans (TrK.of_below ba), fun x hx => ?_⟩, fun x hx => ?_, ?_, H.bel.trans (ba.mono (Nat.le_of_lt p.lt)), H.hq⟩
  · rcases List.mem_cons.1 hx with rfl | hx
    · intro e; exact Nat.lt_irrefl _ (p.own_lt e).2
    · exact hn x hx
  · rcases List.mem_cons.1 hx with rfl | hx
    · exact ⟨heap_alloc_new _ _, by have := p.lt; show wr.heap.size ≠ q; omega, k.size⟩
    · exact ⟨(heap_alloc_old _ _ (Array.getElem?_eq_some_iff.1 (H.rows x hx).1).1).trans (H.rows x hx).1, (H.rows x hx).2⟩
  · rw [List.map_cons, List.nodup_cons]
    refine ⟨fun hm => ?_, H.nd⟩
    obtain ⟨x, hx, e⟩ := List.mem_map.1 hm
    have := (Array.getElem?_eq_some_iff.1 (H.rows x hx).1).1
    have e : x.1 = wr.heap.size := e
    omega
/-- Another block, of no box. -/
theorem PrB.other {w wr w' : World} {q : Nat} {V : Value} {s : Bytes} {l : List St} {bs : List (Nat × Array Value)} (H : PrB w wr q V s l bs) (b : Below wr.heap.size wr w') : PrB w w' q V s l bs := by
  obtain ⟨V', p, k, hn⟩ := H.pr
  exact ⟨⟨V', p.below b, k.trans (TrK.of_below b), hn⟩, fun x hx => ⟨(b.block _ (Array.getElem?_eq_some_iff.1 (H.rows x hx).1).1).trans (H.rows x hx).1, (H.rows x hx).2⟩, H.nd, H.bel.trans (b.mono (Nat.le_of_lt p.lt)), H.hq⟩
theorem PrB.perm {w wr : World} {q : Nat} {V : Value} {s : Bytes} {l : List St} {bs bs' : List (Nat × Array Value)} (H : PrB w wr q V s l bs) (h : bs.Perm bs') : PrB w wr q V s l bs' := by
  obtain ⟨V', p, k, hn⟩ := H.pr
  exact ⟨⟨V', p, k, fun x hx => hn x (h.mem_iff.2 hx)⟩, fun x hx => H.rows x (h.mem_iff.2 hx), (h.map _).nodup_iff.1 H.nd, H.bel, H.hq⟩
theorem SetC.other {w w' : World} {q b : Nat} {V : Value} {o : Option (List Bool)} {p : Value} {cs : Array Value} (h : SetC w q V o p) (hb : w.heap[b]? = some (.cells cs 260)) (ho : ∀ k, k ≠ b → w'.heap[k]? = w.heap[k]?) : SetC w' q V o p := by
  cases o with
  | none => exact h
  | some bs =>
    obtain ⟨g, e, h1, h2, h3, h4⟩ := h
    refine ⟨g, e, h1, h2, h3, (ho g ?_).trans h4⟩
    rintro rfl
    rw [hb] at h4
    simp at h4
theorem StsC.other {w w' : World} {q b : Nat} {V : Value} {l : List St} {vs : List Value} {cs : Array Value} (h : StsC w q V l vs) (hb : w.heap[b]? = some (.cells cs 260)) (ho : ∀ k, k ≠ b → w'.heap[k]? = w.heap[k]?) : StsC w' q V l vs := by
  induction h with
  | nil => exact .nil
  | snoc h hp ih => exact .snoc ih (hp.other hb ho)
/-- The first box set anew. -/
theorem PrB.set {w wr w' : World} {q b : Nat} {V : Value} {s : Bytes} {l : List St} {bs : List (Nat × Array Value)} {cs cs' : Array Value} (H : PrB w wr q V s l ((b, cs) :: bs)) (ho : ∀ k, k ≠ b → w'.heap[k]? = wr.heap[k]?) (hb : w'.heap[b]? = some (.cells cs' 260)) (hB : Below b wr w') : PrB w w' q V s l ((b, cs') :: bs) := by
  obtain ⟨V', p, k, hn⟩ := H.pr
  have hr := H.rows _ (List.mem_cons_self ..)
  have hbq : b ≠ q := hr.2.1
  have hbw : w.heap.size ≤ b := hr.2.2
  have hn0 : V'.ownBlock ≠ some b := hn _ (List.mem_cons_self ..)
  obtain ⟨vs, h, hs⟩ := p.own
  have hqb : q ≤ b := by have := H.hq; omega
  refine ⟨⟨V', ⟨(ho q (Ne.symm hbq)).trans p.row, vs, ?_, hs.other hr.1 ho⟩, ⟨fun j hj hq hnj => (ho j (by omega)).trans (k.keep j hj hq hnj), k.new, Nat.le_trans k.size hB.size⟩, fun x hx => ?_⟩, fun x hx => ?_, H.nd, H.bel.trans (hB.mono hqb), H.hq⟩
  · refine ⟨h.1, ?_⟩
    rcases h.2 with hn | ⟨g', cap, cur, e, hb', hg', rest⟩
    · exact .inl hn
    · exact .inr ⟨g', cap, cur, e, hb', (ho g' (by rintro rfl; exact hn0 (by rw [e]; rfl))).trans hg', rest⟩
  · rcases List.mem_cons.1 hx with rfl | hx
    · exact hn0
    · exact hn x (List.mem_cons_of_mem _ hx)
  · rcases List.mem_cons.1 hx with rfl | hx
    · exact ⟨hb, hr.2⟩
    · have hx' := H.rows x (List.mem_cons_of_mem _ hx)
      have hne : x.1 ≠ b := by
        intro e
        have := (List.nodup_cons.1 (show (b :: bs.map (·.1)).Nodup from H.nd)).1
        exact this (List.mem_map.2 ⟨x, hx, e⟩)
      exact ⟨(ho x.1 hne).trans hx'.1, hx'.2⟩
theorem PrB.setRow {w wr : World} {q b : Nat} {V : Value} {s : Bytes} {l : List St} {bs : List (Nat × Array Value)} {cs : Array Value} (H : PrB w wr q V s l ((b, cs) :: bs)) (cs' : Array Value) : PrB w (wr.setRow b cs') q V s l ((b, cs') :: bs) :=
  H.set (fun k hk => setRow_other _ _ _ _ hk) (setRow_heap _ _ _ _ _ _ (H.rows _ (List.mem_cons_self ..)).1) (below_setRow (Below.refl _ _) (Nat.le_refl _) _)
theorem PrB.setCell {w wr : World} {q b i : Nat} {V : Value} {s : Bytes} {l : List St} {bs : List (Nat × Array Value)} {cs : Array Value} (H : PrB w wr q V s l ((b, cs) :: bs)) (v : Value) : PrB w (wr.setCell ⟨b, i, none⟩ v) q V s l ((b, cs.setIfInBounds i v) :: bs) :=
  H.set (fun k hk => Below.heap_setCell _ _ _ _ hk) (blk_set (H.rows _ (List.mem_cons_self ..)).1 i v) ((Below.refl _ _).setCell (p := ⟨b, i, none⟩) (Nat.le_refl _) _)
theorem PrB.step {w wr w' : World} {q : Nat} {V V1 : Value} {s' : Bytes} {l' : List St} {bs : List (Nat × Array Value)} (k : TrK w wr q V V1) (hn : ∀ x ∈ bs, V1.ownBlock ≠ some x.1) (hr : ∀ x ∈ bs, wr.heap[x.1]? = some (.cells x.2 260) ∧ x.1 ≠ q ∧ w.heap.size ≤ x.1) (nd : (bs.map (·.1)).Nodup) (hb : Below q w wr) (hq : q < w.heap.size) (h : PrPost wr w' q V1 s' l') : PrB w w' q V s' l' bs := by
  obtain ⟨⟨V2, p2, k2⟩, b2⟩ := h
  refine ⟨⟨V2, p2, k.trans k2, fun x hx e => ?_⟩, fun x hx => ⟨(k2.keep x.1 (Array.getElem?_eq_some_iff.1 (hr x hx).1).1 (hr x hx).2.1 (hn x hx)).trans (hr x hx).1, (hr x hx).2⟩, nd, hb.trans b2, hq⟩
  rcases k2.new _ e with e | e
  · exact hn x hx e
  · have := (Array.getElem?_eq_some_iff.1 (hr x hx).1).1; omega
/-- A contract of the parser's, under a caller that has boxes. -/
theorem PrB.call {w wr : World} {q : Nat} {V : Value} {s s' : Bytes} {l l' : List St} {bs : List (Nat × Array Value)} {f : FuncId} {args : Array Value} {v : Value} (H : PrB w wr q V s l bs)
    (C : ∀ V1, PrV wr q V1 s l → TrK w wr q V V1 → Calls Tryz.prog f args wr fun e w' => e = .returned v ∧ PrPost wr w' q V1 s' l') : Calls Tryz.prog f args wr fun e w' => e = .returned v ∧ PrB w w' q V s' l' bs := by
  obtain ⟨V1, p, k, hn⟩ := H.pr
  exact (C V1 p k).mono fun e w' ⟨he, h⟩ => ⟨he, PrB.step k hn H.rows H.nd H.bel H.hq h⟩
theorem PrB.post {w wr : World} {q : Nat} {V : Value} {s : Bytes} {l : List St} {bs : List (Nat × Array Value)} (H : PrB w wr q V s l bs) : PrPost w wr q V s l := by
  obtain ⟨V', p, k, _⟩ := H.pr
  exact ⟨⟨V', p, k⟩, H.bel⟩
theorem SetC.trk {w w' : World} {q : Nat} {V V' : Value} {o : Option (List Bool)} {p : Value} (h : SetC w q V o p) (k : TrK w w' q V V') : SetC w' q V' o p :=
  h.kept (fun g hg h1 h2 => ⟨k.keep g hg h1 h2, fun e => by
    rcases k.new g e with e | e
    · exact h2 e
    · omega⟩)
def pcV (a b : Nat) : Value := .agg #[.int .i64 a, .int .i64 b]
set_option maxRecDepth 100000 in
set_option maxHeartbeats 1000000 in
theorem one_any' {w : World} {q : Nat} {V : Value} {s : Bytes} {l : List St} (P : PrV w q V s l) (hl : l.length < 90000) {bs : List Bool} {p : Value} (hp : SetC w q V (some bs) p) :
    Calls Tryz.prog 263 #[.pointer (some ⟨q, 0, none⟩), p] w fun e w' => e = .returned (.agg #[.int .i64 ((l.length + 1 : Nat) : Int), .int .i64 l.length]) ∧ PrPost w w' q V s (l ++ [freeS] ++ [⟨some bs, l.length, -1⟩]) := by
  obtain ⟨po, rfl⟩ := hp.ptr
  have H0 := Lib.hid ((PrB.start P).alloc #[.int .i64 0, .int .i64 0])
  have HS := Lib.hid hp
  clear P hp
  go_enter Tryz.func263, Tryz.ntmps263
  go_upto_region 1 with fail
  generalize w.alloc _ = w1 at H0 ⊢
  have H1 := Lib.hid (H0.out.call (f := 230) (args := #[.pointer (some ⟨q, 0, none⟩)]) (fun V1 P1 _ => rfree_p P1 (by omega)))
  go_upto_region 2 with (first | (go_at_call 230; refine H1.out.mono ?_; rintro e w2 ⟨rfl, h2⟩; have H2 := Lib.hid h2; clear h2))
  have H3 : Hid (Calls Tryz.prog 231 #[.pointer (some ⟨q, 0, none⟩), .agg #[.pointer po, .int .i64 l.length, .int .i64 (-1)]] w2 fun e w' => e = .returned (.int .i64 ((l.length + 1 : Nat) : Int)) ∧ PrB w w' q V s (l ++ [freeS] ++ [⟨some bs, l.length, -1⟩]) [(w.heap.size, #[.int .i64 0, .int .i64 0])]) := Lib.hid (H2.out.call (fun V1 P1 k1 => by
    have h := radd_any P1 (by simp; omega) ⟨some bs, l.length, -1⟩ (HS.out.trk k1)
    rw [List.length_append] at h
    exact h))
  clear H0 H1 H2
  go_wp2_with (first
    | (go_at_call 231; refine H3.out.mono ?_; rintro e w3 ⟨rfl, h3⟩; have H4 := Lib.hid h3; have hr4 := (h3.rows _ (List.mem_cons_self ..)).1; clear h3)
    | (refine wpList_store_row rfl 260 (.tmp 4) (.tmp 14) rfl w.heap.size #[.int .i64 ((l.length + 1 : Nat) : Int), .int .i64 l.length] ?hx ?hy 260 #[.int .i64 0, .int .i64 0] hr4 ?hi ?hold ?h1 ?h))
  case hx => rfl
  case hy => rfl
  case hi => exact Tryz.size260
  case hold => rfl
  case h1 => simp [Value.oneCell']
  refine bodyPost_ret (results_pc rfl _ _ w.heap.size _ rfl rfl (setRow_heap _ _ _ _ _ _ hr4)) rfl ⟨rfl, ?_⟩
  exact (H4.out.setRow _).post
end Go.Proofs.YtcdeikhfmllkdaaGreatDoor

/- regex: single and set. -/
namespace Go.Proofs.YtcdeikhfmllkdaaGreatDoor
open Go.RowKit
set_option linter.unusedVariables false
set_option linter.unusedSimpArgs false
def boolsA (bs : List Bool) : Array Value := (bs.map Value.bool).toArray
theorem zero325 : Tryz.zeroCells325 = boolsA (List.replicate 256 false) := by kernel_rfl
theorem boolsA_get (bs : List Bool) (i : Nat) : (boolsA bs)[i]? = (bs[i]?).map Value.bool := by simp [boolsA]
theorem boolsA_set (bs : List Bool) (i : Nat) (b : Bool) : (boolsA bs).setIfInBounds i (.bool b) = boolsA (bs.set i b) := by
  apply Array.ext'
  simp [boolsA]
/-- A set under way, in memory. -/
def BsC (w : World) (g : Nat) (bs : List Bool) : Prop := bs.length = 256 ∧ w.heap[g]? = some (.cells (boolsA bs) 325)
theorem BsC.cell {w : World} {g : Nat} {bs : List Bool} (h : BsC w g bs) {i : Nat} (hi : i < 256) : ∃ b, bs[i]? = some b ∧ w.cell? ⟨g, i, none⟩ = some (.bool b) ∧ w.frozen? ⟨g, i, none⟩ = false := by
  have hl : i < bs.length := by rw [h.1]; exact hi
  refine ⟨bs[i], List.getElem?_eq_getElem hl, ?_, (cells_of h.2 i).2⟩
  rw [(cells_of h.2 i).1, boolsA_get, List.getElem?_eq_getElem hl]; rfl
theorem BsC.set {w : World} {g : Nat} {bs : List Bool} (h : BsC w g bs) (i : Nat) (b : Bool) : BsC (w.setCell ⟨g, i, none⟩ (.bool b)) g (bs.set i b) := by
  refine ⟨by rw [List.length_set]; exact h.1, ?_⟩
  rw [← boolsA_set]
  exact blk_set h.2 i _
theorem BsC.lt {w : World} {g : Nat} {bs : List Bool} (h : BsC w g bs) : g < w.heap.size := (Array.getElem?_eq_some_iff.1 h.2).1
theorem BsC.new (w : World) : BsC (w.alloc (.cells Tryz.zeroCells325 325)) w.heap.size (List.replicate 256 false) := ⟨List.length_replicate, by rw [← zero325]; exact heap_alloc_new _ _⟩
def singleM (c : UInt8) : List Bool := (List.replicate 256 false).set c.toNat true
set_option maxRecDepth 100000 in
set_option maxHeartbeats 1000000 in
theorem single_any (w : World) (c : UInt8) : Calls Tryz.prog 265 #[.int .u8 c.toNat] w fun e w' => e = .returned (.pointer (some ⟨w.heap.size, 0, none⟩)) ∧ BsC w' w.heap.size (singleM c) ∧ Below w.heap.size w w' := by
  have hc := c.toNat_lt
  have H0 := Lib.hid (And.intro (BsC.new w) ((Below.refl w.heap.size w).alloc (Nat.le_refl _) (.cells Tryz.zeroCells325 325)))
  go_enter Tryz.func265, Tryz.ntmps265
  go_upto_region 2 with fail
  generalize w.alloc _ = w1 at H0 ⊢
  obtain ⟨b, -, k0, k1⟩ := H0.out.1.cell (i := c.toNat) (by omega)
  have hci : (c.toNat : Int) < 256 := by omega
  go_wp2_with fail
  go_ret
  exact ⟨rfl, H0.out.1.set _ _, H0.out.2.setCell (p := ⟨w.heap.size, c.toNat, none⟩) (Nat.le_refl _) _⟩
/-- From lo on, up to n (not in it), all are in. -/
def fillTo (bs : List Bool) (lo n : Nat) : List Bool := bs.mapIdx (fun i b => b || (decide (lo ≤ i) && decide (i < n)))
theorem fillTo_len (bs : List Bool) (lo n : Nat) : (fillTo bs lo n).length = bs.length := by simp [fillTo]
theorem fillTo_start (bs : List Bool) (lo : Nat) : fillTo bs lo lo = bs := by
  apply List.ext_getElem?
  intro i
  simp only [fillTo, List.getElem?_mapIdx]
  cases bs[i]? with
  | none => rfl
  | some b =>
    have : (decide (lo ≤ i) && decide (i < lo)) = false := by
      rw [Bool.and_eq_false_iff]
      by_cases h : lo ≤ i
      · right; simp; omega
      · left; simp; omega
    simp [this]
theorem fillTo_step (bs : List Bool) {lo n : Nat} (h : lo ≤ n) : (fillTo bs lo n).set n true = fillTo bs lo (n + 1) := by
  apply List.ext_getElem?
  intro i
  rw [List.getElem?_set]
  simp only [fillTo, List.getElem?_mapIdx, List.length_mapIdx]
  by_cases hi : n = i
  · subst hi
    by_cases hl : n < bs.length
    · rw [if_pos rfl, if_pos hl, List.getElem?_eq_getElem hl]
      simp [h]
    · rw [if_pos rfl, if_neg hl, List.getElem?_eq_none (by omega)]; rfl
  · rw [if_neg hi]
    cases bs[i]? with
    | none => rfl
    | some b =>
      have : decide (i < n) = decide (i < n + 1) := by
        by_cases h2 : i < n
        · simp [h2]; omega
        · simp [h2]; omega
      simp [this]
/-- Behind a member: a range's high end. -/
def dashB : Bytes → Bool
  | a :: c :: _ => a == 45 && c != 93
  | _ => false
def rangeM (lo : UInt8) (s : Bytes) : Option (UInt8 × Bytes) := if dashB s then memberM s.tail else some (lo, s)
def setLoop : Nat → Bytes → List Bool → Option (List Bool × Bytes)
  | 0, _, _ => none
  | f + 1, s, bs =>
    if (isR 93 s).1 then some (bs, (isR 93 s).2)
    else match memberM s with
      | none => none
      | some (lo, s1) => match rangeM lo s1 with
        | none => none
        | some (hi, s2) => if hi.toNat < lo.toNat then none else setLoop f s2 (fillTo bs lo.toNat (hi.toNat + 1))
def setM (s : Bytes) : Option (List Bool × Bytes) :=
  if (isR 94 s).2.head? = some 93 then none
  else (setLoop ((isR 94 s).2.length + 1) (isR 94 s).2 (List.replicate 256 false)).map fun x => (if (isR 94 s).1 then x.1.map (!·) else x.1, x.2)
theorem takeM_len {s : Bytes} {c : UInt8} {t : Bytes} (h : takeM s = some (c, t)) : t.length < s.length := by
  cases s with
  | nil => cases h
  | cons d u => simp only [takeM, Option.some.injEq, Prod.mk.injEq] at h; obtain ⟨-, rfl⟩ := h; simp
theorem memberM_len {s : Bytes} {c : UInt8} {t : Bytes} (h : memberM s = some (c, t)) : t.length < s.length := by
  cases s with
  | nil => cases h
  | cons d u =>
    simp only [memberM] at h
    split at h
    · cases h
    · split at h
      · have := takeM_len h; simp; omega
      · simp only [Option.some.injEq, Prod.mk.injEq] at h; obtain ⟨-, rfl⟩ := h; simp
theorem rangeM_len {s : Bytes} {lo c : UInt8} {t : Bytes} (h : rangeM lo s = some (c, t)) : t.length ≤ s.length := by
  unfold rangeM at h
  split at h
  · have := memberM_len h; simp at this; omega
  · simp only [Option.some.injEq, Prod.mk.injEq] at h; obtain ⟨-, rfl⟩ := h; exact Nat.le_refl _
theorem setLoop_mono : ∀ (f g : Nat) (s : Bytes) (bs : List Bool), s.length < f → f ≤ g → setLoop g s bs = setLoop f s bs
  | 0, _, s, _, h, _ => by omega
  | f + 1, 0, _, _, _, h => by omega
  | f + 1, g + 1, s, bs, h, hg => by
    simp only [setLoop]
    split
    · rfl
    · cases hm : memberM s with
      | none => rfl
      | some x =>
        obtain ⟨lo, s1⟩ := x
        dsimp only
        have h1 := memberM_len hm
        cases hr : rangeM lo s1 with
        | none => rfl
        | some y =>
          obtain ⟨hi, s2⟩ := y
          dsimp only
          have h2 := rangeM_len hr
          split
          · rfl
          · exact setLoop_mono f g s2 _ (by omega) (by omega)
end Go.Proofs.YtcdeikhfmllkdaaGreatDoor

/- regex: the parser's set. -/
namespace Go.Proofs.YtcdeikhfmllkdaaGreatDoor
open Go.RowKit
set_option linter.unusedVariables false
set_option linter.unusedSimpArgs false
def SetPost (w w' : World) (q : Nat) (V : Value) (e : Ending) : Option (List Bool × Bytes) → Prop
  | none => e = badE ∧ Below q w w'
  | some (bs, t) => ∃ g, e = .returned (.pointer (some ⟨g, 0, none⟩)) ∧ g ≠ q ∧ w.heap.size ≤ g ∧ TxR w w' q V t ∧ BsC w' g bs
/-- The text and the set under way. -/
structure StR (w wr : World) (q : Nat) (V : Value) (g : Nat) (s : Bytes) (bs : List Bool) : Prop where
  tx : TxR w wr q V s
  arr : BsC wr g bs
  gq : g ≠ q
  gw : w.heap.size ≤ g
theorem BsC.keep {w w' : World} {q g : Nat} {V : Value} {s : Bytes} {bs : List Bool} (h : BsC w g bs) (hg : g ≠ q) (t : TxR w w' q V s) : BsC w' g bs := ⟨h.1, (t.keep g h.lt hg).trans h.2⟩
theorem StR.step {w wr w' : World} {q : Nat} {V : Value} {g : Nat} {s s' : Bytes} {bs : List Bool} (h : StR w wr q V g s bs) (t : TxR wr w' q V s') : StR w w' q V g s' bs := ⟨h.tx.trans t, h.arr.keep h.gq t, h.gq, h.gw⟩
theorem StR.put {w wr : World} {q : Nat} {V : Value} {g : Nat} {s : Bytes} {bs : List Bool} (hq : q < w.heap.size) (h : StR w wr q V g s bs) (i : Nat) (b : Bool) : StR w (wr.setCell ⟨g, i, none⟩ (.bool b)) q V g s (bs.set i b) := by
  refine ⟨⟨(Below.heap_setCell _ _ _ _ (Ne.symm h.gq)).trans h.tx.row, fun k hk hkq => ?_, h.tx.bel.trans ((Below.refl _ _).setCell (p := ⟨g, i, none⟩) (by have := h.gw; show q ≤ g; omega) _)⟩, h.arr.set i b, h.gq, h.gw⟩
  rw [Below.heap_setCell _ _ _ _ (by have := h.gw; show k ≠ g; omega)]
  exact h.tx.keep k hk hkq
theorem StR.pr {w wr : World} {q : Nat} {V : Value} {g : Nat} {s s0 : Bytes} {l : List St} {bs : List Bool} (P : PrV w q V s0 l) (h : StR w wr q V g s bs) : PrV wr q V s l := h.tx.pr P
def txtLen (w : World) (q : Nat) : Nat := match w.cell? ⟨q, 0, none⟩ with
  | some (.string s) => s.size
  | _ => 0
theorem TxR.txt {w w' : World} {q : Nat} {V : Value} {s : Bytes} (t : TxR w w' q V s) : txtLen w' q = s.length := by
  have h : w'.cell? ⟨q, 0, none⟩ = some (.string (str s)) := (cells_of t.row 0).1
  unfold txtLen
  rw [h]
  exact str_size s
theorem isR_false {c : UInt8} {s : Bytes} (h : (isR c s).1 = false) : (isR c s).2 = s := by
  cases s with
  | nil => rfl
  | cons d t =>
    simp only [isR] at h ⊢
    split at h
    · cases h
    · rename_i hc; rw [if_neg hc]
theorem ixB_run {bs : List Bool} {n : Nat} (hn : n < 256) {b : Bool} (hb : bs[n]? = some b) (w : World) : Sem.run Tryz.prog (Instr.index 325 (.agg (boolsA bs)) (.int .i64 (n : Int))) w = .ok (.bool b) w := by
  have hg : (boolsA bs)[n]? = some (.bool b) := by rw [boolsA_get, hb]; rfl
  have hn1 : (n : Int) < 256 := by omega
  have hn0 : (0 : Int) ≤ n := by omega
  have h4 := Tryz.isAgg4
  unfold Instr.index
  simp [asIntOf, Tryz.underlying325, hn1, hn0, part, Tryz.sizeOf4, h4, hg]
  intro h; omega
/-- The first n turned. -/
def invTo (bs : List Bool) (n : Nat) : List Bool := bs.mapIdx (fun i b => if i < n then !b else b)
theorem invTo_zero (bs : List Bool) : invTo bs 0 = bs := by
  apply List.ext_getElem?
  intro i
  simp only [invTo, List.getElem?_mapIdx]
  cases bs[i]? <;> simp
theorem invTo_step {bs : List Bool} {n : Nat} {b : Bool} (hb : bs[n]? = some b) : (invTo bs n).set n (!b) = invTo bs (n + 1) := by
  apply List.ext_getElem?
  intro i
  rw [List.getElem?_set]
  simp only [invTo, List.getElem?_mapIdx, List.length_mapIdx]
  have hl := (List.getElem?_eq_some_iff.1 hb).1
  by_cases hi : n = i
  · subst hi
    rw [if_pos rfl, if_pos hl, hb]
    simp
  · rw [if_neg hi]
    cases bs[i]? with
    | none => rfl
    | some c =>
      have : (i < n) = (i < n + 1) := by apply propext; omega
      simp [this]
theorem invTo_all {bs : List Bool} (h : bs.length = 256) : invTo bs 256 = bs.map (!·) := by
  apply List.ext_getElem?
  intro i
  simp only [invTo, List.getElem?_mapIdx, List.getElem?_map]
  cases hb : bs[i]? with
  | none => rfl
  | some c =>
    have := (List.getElem?_eq_some_iff.1 hb).1
    have hi : i < 256 := by omega
    simp [hi]
theorem Tryz.size325 : (Tryz.prog.info? 325).map (·.size) = some 256 := by kernel_rfl
set_option maxRecDepth 100000 in
set_option maxHeartbeats 4000000 in
theorem set_any {w : World} {q : Nat} {V : Value} {s : Bytes} {l : List St} (P : PrV w q V s l) : Calls Tryz.prog 264 #[.pointer (some ⟨q, 0, none⟩)] w fun e w' => SetPost w w' q V e (setM s) := by
  have hq := P.lt
  have ba : Below w.heap.size w (w.alloc (.cells Tryz.zeroCells325 325)) := (Below.refl _ _).alloc (Nat.le_refl _) _
  have H1 : Hid (StR w (w.alloc (.cells Tryz.zeroCells325 325)) q V w.heap.size s (List.replicate 256 false)) := Lib.hid ⟨(TxR.refl P).below ba, BsC.new w, by omega, Nat.le_refl _⟩
  have HP := Lib.hid P
  clear P ba
  obtain ⟨R, hR⟩ : ∃ R, setM s = R := ⟨_, rfl⟩
  rw [hR]
  unfold setM at hR
  obtain ⟨g, hg⟩ : ∃ g, w.heap.size = g := ⟨_, rfl⟩
  go_enter Tryz.func264, Tryz.ntmps264
  go_upto_region 2 with fail
  rw [hg] at H1
  generalize w.alloc _ = w1 at H1 ⊢
  have H2 : Hid (Calls Tryz.prog 229 #[.pointer (some ⟨q, 0, none⟩), .int .u8 94] w1 fun e w' => e = .returned (.bool (isR 94 s).1) ∧ StR w w' q V g (isR 94 s).2 (List.replicate 256 false)) := Lib.hid ((is_any' (H1.out.pr HP.out) 94).mono fun e w' ⟨he, t⟩ => ⟨he, H1.out.step t⟩)
  obtain ⟨nb, hnb⟩ : ∃ nb, (isR 94 s).1 = nb := ⟨_, rfl⟩
  obtain ⟨s1, hs1⟩ : ∃ s1, (isR 94 s).2 = s1 := ⟨_, rfl⟩
  rw [hnb, hs1] at H2 hR
  have HR := Lib.hid hR
  clear hnb hs1 hR
  go_upto_region 3 with (first | (go_at_call 229; refine H2.out.mono ?_; rintro e w2 ⟨rfl, h3⟩; have H3 := Lib.hid h3; clear h3))
  clear H1 H2
  have d0 : w2.cell? ⟨q, 0, none⟩ = some (.string (str s1)) := (cells_of H3.out.tx.row 0).1
  have HF : Hid (Calls Tryz.prog 226 #[.string (str s1), .string ⟨#[93]⟩] w2 fun e w' => e = .returned (.bool (Lib.hasPrefix s1 [93])) ∧ w' = w2) := Lib.hid (by
    have h := Any.strings_HasPrefix Tryz.laysHasPrefix (str s1) ⟨#[93]⟩ w2
    rw [str_toList] at h
    exact h)
  by_cases h93 : s1.head? = some 93
  · have hpf : Lib.hasPrefix s1 [93] = true := by
      cases s1 with
      | nil => simp at h93
      | cons c t => simp at h93; subst h93; simp [Lib.hasPrefix, List.isPrefixOf]
    rw [hpf] at HF
    have hR := HR.out
    rw [if_pos h93] at hR
    go_wp2_with (first | (go_at_call 226; refine HF.out.mono ?_; rintro e w3 ⟨rfl, hw⟩; rw [hw]; clear hw))
    refine ⟨rfl, ?_⟩
    rw [← hR]
    exact ⟨rfl, H3.out.tx.bel⟩
  · have hpf : Lib.hasPrefix s1 [93] = false := by
      cases s1 with
      | nil => rfl
      | cons c t => simp at h93; simp [Lib.hasPrefix, List.isPrefixOf]; exact fun e => h93 e.symm
    rw [hpf] at HF
    have hR := HR.out
    rw [if_neg h93] at hR
    have HR2 := Lib.hid hR
    clear hR HR h93 hpf
    go_wp2_with (first | (go_at_call 226; refine HF.out.mono ?_; rintro e w3 ⟨rfl, hw⟩; rw [hw]; clear hw))
    clear HF d0
    go_loopw [5] (fun v wr => ∃ s2 bs, StR w wr q V g s2 bs ∧ setLoop (s2.length + 1) s2 bs = setLoop (s1.length + 1) s1 (List.replicate 256 false)) (fun _ wr => txtLen wr q)
    case atStart => exact ⟨s1, _, H3.out, rfl⟩
    case round =>
      obtain ⟨s2, bs, hst, hlp⟩ := hrel
      rename World => wo
      have HS := Lib.hid hst
      have HL := Lib.hid hlp
      clear hst hlp H3
      have HI : Hid (Calls Tryz.prog 229 #[.pointer (some ⟨q, 0, none⟩), .int .u8 93] wo fun e w' => e = .returned (.bool (isR 93 s2).1) ∧ StR w w' q V g (isR 93 s2).2 bs) := Lib.hid ((is_any' (HS.out.pr HP.out) 93).mono fun e w' ⟨he, t⟩ => ⟨he, HS.out.step t⟩)
      have hun : setLoop (s2.length + 1) s2 bs = if (isR 93 s2).1 then some (bs, (isR 93 s2).2) else match memberM s2 with
        | none => none
        | some (lo, s1) => match rangeM lo s1 with
          | none => none
          | some (hi, s2') => if hi.toNat < lo.toNat then none else setLoop s2.length s2' (fillTo bs lo.toNat (hi.toNat + 1)) := rfl
      by_cases hi : (isR 93 s2).1 = true
      · rw [hi] at HI
        rw [if_pos hi] at hun
        have hfin := HR2.out
        rw [← HL.out, hun] at hfin
        have HF := Lib.hid hfin
        clear hfin hun hi
        cases nb with
        | false =>
          go_wp2_with (first | (go_at_call 229; refine HI.out.mono ?_; rintro e w4 ⟨rfl, h4⟩; have H4 := Lib.hid h4; clear h4))
          go_ret
          rw [← HF.out]
          exact ⟨g, rfl, H4.out.gq, H4.out.gw, H4.out.tx, H4.out.arr⟩
        | true =>
          go_upto_region 18 with (first | (go_at_call 229; refine HI.out.mono ?_; rintro e w4 ⟨rfl, h4⟩; have H4 := Lib.hid h4; clear h4))
          obtain ⟨t, ht⟩ : ∃ t, (isR 93 s2).2 = t := ⟨_, rfl⟩
          rw [ht] at H4 HF
          clear HI HS HL ht
          go_wp2_with (refine wpList_load_row rfl 325 (.tmp 3) rfl g rfl 325 (boolsA bs) (0, 0) _ H4.out.arr.2 Tryz.underlying325 rfl (by rw [Tryz.size325]; simp [boolsA, H4.out.arr.1]) ?_)
          go_loopw [68] (fun v wr => ∃ n : Nat, v = .int .i64 n ∧ n ≤ 256 ∧ StR w wr q V g t (invTo bs n)) (fun v _ => 256 - (intOf v).toNat)
          case atStart => exact ⟨0, rfl, by omega, by rw [invTo_zero]; exact H4.out⟩
          case round =>
            obtain ⟨n, rfl, hn, hst⟩ := hrel
            have HS := Lib.hid hst
            clear hst
            by_cases hlt : n < 256
            · obtain ⟨b, hb⟩ : ∃ b, bs[n]? = some b := ⟨_, List.getElem?_eq_getElem (by rw [H4.out.arr.1]; exact hlt)⟩
              have hx := ixB_run hlt hb
              obtain ⟨b', -, k0, k1⟩ := HS.out.arr.cell hlt
              have hni : (n : Int) < 256 := by omega
              have HB := Lib.hid hb
              clear hb
              go_wp2_with fail
              go_roundw
              case measure => simp [intOf]; omega
              case rel => exact ⟨n + 1, by go_num, by omega, by rw [← invTo_step HB.out]; exact HS.out.put hq n (!b)⟩
            · obtain rfl : n = 256 := by omega
              go_wp2_with fail
              go_ret
              rw [← HF.out]
              have hs := HS.out
              rw [invTo_all H4.out.arr.1] at hs
              exact ⟨g, rfl, hs.gq, hs.gw, hs.tx, hs.arr⟩
      · have hi' : (isR 93 s2).1 = false := by simpa using hi
        rw [hi'] at HI
        rw [if_neg hi] at hun
        have HU := Lib.hid hun
        have h22 := isR_false hi'
        rw [h22] at HI
        clear hun hi hi' h22
        cases hm : memberM s2 with
        | none =>
          have hR := HR2.out
          have hU := HU.out
          rw [hm] at hU
          rw [← HL.out, hU] at hR
          clear hU HU
          go_upto_region 6 with (first | (go_at_call 229; refine HI.out.mono ?_; rintro e w4 ⟨rfl, h4⟩; have H4 := Lib.hid h4; clear h4))
          have HM := Lib.hid (member_any (H4.out.pr HP.out))
          rw [hm] at HM
          unfold takeP badE at HM
          go_wp2_with (first | (go_at_call 266; refine HM.out.mono ?_; rintro e w5 ⟨rfl, hb5⟩))
          refine ⟨rfl, ?_⟩
          rw [← hR]
          exact ⟨rfl, H4.out.tx.bel.trans hb5⟩
        | some x =>
          obtain ⟨lo, s3⟩ := x
          have hU := HU.out
          rw [hm] at hU
          dsimp only at hU
          have HU2 := Lib.hid hU
          have hm3 := memberM_len hm
          go_upto_region 6 with (first | (go_at_call 229; refine HI.out.mono ?_; rintro e w4 ⟨rfl, h4⟩; have H4 := Lib.hid h4; clear h4))
          have HM : Hid (Calls Tryz.prog 266 #[.pointer (some ⟨q, 0, none⟩)] w4 fun e w' => e = .returned (.int .u8 lo.toNat) ∧ StR w w' q V g s3 bs) := by
            have h := member_any (H4.out.pr HP.out)
            rw [hm] at h
            exact Lib.hid (h.mono fun e w' ⟨he, t⟩ => ⟨he, H4.out.step t⟩)
          clear HU hU hm HI
          go_upto_region 8 with (first | (go_at_call 266; refine HM.out.mono ?_; rintro e w5 ⟨rfl, h5⟩; have H5 := Lib.hid h5; clear h5))
          have d5 : w5.cell? ⟨q, 0, none⟩ = some (.string (str s3)) := (cells_of H5.out.tx.row 0).1
          clear HM H4
          have hlo := lo.toNat_lt
          go_cut [46] from 25 to 46 (fun v46 wx => v46 = .bool (dashB s3) ∧ wx = w5)
          case first =>
            match s3 with
            | [] =>
              go_wp2_with fail
              go_meet
              case rel => exact ⟨rfl, rfl⟩
            | [a] =>
              have hz : (str [a]).size = 1 := rfl
              go_wp2_with fail
              go_meet
              case rel => exact ⟨rfl, rfl⟩
            | a :: c :: t =>
              have hz := str_size (a :: c :: t)
              have h0 : ∀ h, (str (a :: c :: t))[0]'h = a := fun h => rfl
              have h1 : ∀ h, (str (a :: c :: t))[1]'h = c := fun h => rfl
              obtain ⟨S, hS⟩ : ∃ S, str (a :: c :: t) = S := ⟨_, rfl⟩
              rw [hS] at hz h0 h1 d5
              simp only [List.length_cons] at hz
              have hz1 : 1 < S.size := by omega
              have hz0 : 0 < S.size := by omega
              have hi1 : (1 : Int) < (S.size : Int) := by omega
              have hi0 : (0 : Int) < (S.size : Int) := by omega
              have h00 := h0 hz0
              have h11 := h1 hz1
              clear hS h0 h1
              by_cases ha : a = 45
              · subst ha
                by_cases hc : c = 93
                · subst hc
                  go_wp2_with fail
                  go_meet
                  case rel => exact ⟨rfl, rfl⟩
                · have n93 : ((c.toNat : Int) != 93) = true := by
                    rw [bne_iff_ne]; intro e; apply hc; apply UInt8.toNat_inj.1; show c.toNat = 93; omega
                  have hd : dashB (45 :: c :: t) = true := by simp [dashB, hc]
                  go_wp2_with fail
                  go_meet
                  case rel => exact ⟨by rw [hd], rfl⟩
              · have n45 : ((a.toNat : Int) == 45) = false := by
                  rw [beq_eq_false_iff_ne]; intro e; apply ha; apply UInt8.toNat_inj.1; show a.toNat = 45; omega
                have hd : dashB (a :: c :: t) = false := by simp [dashB, ha]
                go_wp2_with fail
                go_meet
                case rel => exact ⟨by rw [hd], rfl⟩
          case rest =>
            obtain ⟨rfl, rfl⟩ := hcut
            rename World => w5
            obtain ⟨db, hdb⟩ : ∃ db, dashB s3 = db := ⟨_, rfl⟩
            rw [hdb]
            go_step
            go_upto_if 46 with fail
            go_cut [6] from 47 to 50 (fun v6 wx => ∃ hi s4, v6 = .int .u8 hi.toNat ∧ StR w wx q V g s4 bs ∧ rangeM lo s3 = some (hi, s4))
            case first =>
              cases db with
              | false =>
                go_wp2_with fail
                go_meet
                case rel => exact ⟨lo, s3, rfl, H5.out, by simp [rangeM, hdb]⟩
              | true =>
                have HU3 := Lib.hid HU2.out
                have hrm : rangeM lo s3 = memberM s3.tail := by simp [rangeM, hdb]
                rw [hrm] at HU3
                have Hrm := Lib.hid hrm
                match s3, hdb with
                | a :: u, hdb =>
                  have HT : Hid (Calls Tryz.prog 262 #[.pointer (some ⟨q, 0, none⟩)] w5 fun e w' => e = .returned (.int .u8 a.toNat) ∧ StR w w' q V g u bs) := Lib.hid ((take_cons (H5.out.pr HP.out)).mono fun e w' ⟨he, t⟩ => ⟨he, H5.out.step t⟩)
                  clear hdb hrm HU2
                  have Hrm : Hid (rangeM lo (a :: u) = memberM u) := Hrm
                  go_upto_region 10 with (first | (go_at_call 262; refine HT.out.mono ?_; rintro e w6 ⟨rfl, h6⟩; have H6 := Lib.hid h6; clear h6))
                  have HM := member_any (H6.out.pr HP.out)
                  cases hm : memberM u with
                  | none =>
                    have hR := HR2.out
                    have hU := HU3.out
                    rw [show (a :: u).tail = u from rfl, hm] at hU
                    rw [← HL.out, hU] at hR
                    rw [hm] at HM
                    unfold takeP badE at HM
                    have HM2 := Lib.hid HM
                    clear HM hU HU3 hm
                    go_wp2_with (first | (go_at_call 266; refine HM2.out.mono ?_; rintro e w7 ⟨rfl, hb7⟩))
                    refine ⟨rfl, ?_⟩
                    rw [← hR]
                    exact ⟨rfl, H6.out.tx.bel.trans hb7⟩
                  | some y =>
                    obtain ⟨hi, s4⟩ := y
                    rw [hm] at HM
                    have HM2 : Hid (Calls Tryz.prog 266 #[.pointer (some ⟨q, 0, none⟩)] w6 fun e w' => e = .returned (.int .u8 hi.toNat) ∧ StR w w' q V g s4 bs) := Lib.hid (HM.mono fun e w' ⟨he, t⟩ => ⟨he, H6.out.step t⟩)
                    have Hm := Lib.hid hm
                    clear HM hm HU3
                    go_wp2_with (first | (go_at_call 266; refine HM2.out.mono ?_; rintro e w7 ⟨rfl, h7⟩; have H7 := Lib.hid h7; clear h7))
                    go_meet
                    case rel => exact ⟨hi, s4, rfl, H7.out, Hrm.out.trans Hm.out⟩
            case rest =>
              obtain ⟨hi, s4, rfl, hst4, hrm⟩ := hcut
              rename World => w6
              have hU := HU2.out
              rw [hrm] at hU
              dsimp only at hU
              have hl4 := rangeM_len hrm
              have hhi := hi.toNat_lt
              have H8 := Lib.hid hst4
              clear hst4 hrm HU2 hdb
              go_step
              by_cases hlt : hi.toNat < lo.toNat
              · have hlti : decide ((hi.toNat : Int) < (lo.toNat : Int)) = true := decide_eq_true (by omega)
                have hR := HR2.out
                rw [if_pos hlt] at hU
                rw [← HL.out, hU] at hR
                clear hU
                go_wp2_with fail
                refine ⟨rfl, ?_⟩
                rw [← hR]
                exact ⟨rfl, H8.out.tx.bel⟩
              · have hlti : decide ((hi.toNat : Int) < (lo.toNat : Int)) = false := decide_eq_false (by omega)
                rw [if_neg hlt] at hU
                have HU4 := Lib.hid hU
                clear hU
                go_wp2_with fail
                go_loopw [7] (fun v wy => ∃ n : Nat, v = .int .i64 n ∧ lo.toNat ≤ n ∧ n ≤ hi.toNat + 1 ∧ StR w wy q V g s4 (fillTo bs lo.toNat n)) (fun v _ => hi.toNat + 1 - (intOf v).toNat)
                case atStart => exact ⟨lo.toNat, rfl, Nat.le_refl _, by omega, by rw [fillTo_start]; exact H8.out⟩
                case round =>
                  obtain ⟨n, rfl, hn0, hn1, hst⟩ := hrel
                  have HS9 := Lib.hid hst
                  clear hst
                  by_cases hle : n ≤ hi.toNat
                  · have hn256 : n < 256 := by omega
                    obtain ⟨b', -, k0, k1⟩ := HS9.out.arr.cell hn256
                    have hni : (n : Int) < 256 := by omega
                    have hlei : decide ((n : Int) ≤ (hi.toNat : Int)) = true := decide_eq_true (by omega)
                    go_wp2_with fail
                    go_roundw
                    case measure => simp [intOf]; omega
                    case rel => exact ⟨n + 1, by go_num, by omega, by omega, by rw [← fillTo_step bs hn0]; exact HS9.out.put hq n true⟩
                  · have hlei : decide ((n : Int) ≤ (hi.toNat : Int)) = false := decide_eq_false (by omega)
                    obtain rfl : n = hi.toNat + 1 := by omega
                    go_wp2_with fail
                    have hs9 := HS9.out
                    refine ⟨⟨s4, _, hs9, ?_⟩, ?_⟩
                    · rw [← HL.out, HU4.out]
                      exact (setLoop_mono (s4.length + 1) s2.length s4 _ (by omega) (by omega)).symm
                    · rw [hs9.tx.txt, HS.out.tx.txt]; omega
end Go.Proofs.YtcdeikhfmllkdaaGreatDoor

/- regex: states set anew in place; the parser as a plain function. -/
namespace Go.Proofs.YtcdeikhfmllkdaaGreatDoor
open Go.RowKit
set_option linter.unusedVariables false
set_option linter.unusedSimpArgs false
def setNext (l : List St) (i : Nat) (x : Int) : List St := l.modify i (fun st => { st with next := x })
def setOther (l : List St) (i : Nat) (x : Int) : List St := l.modify i (fun st => { st with other := x })
theorem setNext_len (l : List St) (i : Nat) (x : Int) : (setNext l i x).length = l.length := by simp [setNext]
theorem setOther_len (l : List St) (i : Nat) (x : Int) : (setOther l i x).length = l.length := by simp [setOther]
theorem ownsRow_set {w : World} {B E sz n g cap : Nat} {cs : List Value} (h : w.ownsRow B E sz (.slice (some ⟨g, 0, none⟩) n cap) n cs) (j : Nat) (v : Value) (hj : j < cs.length) (hv : v.oneCell' = true) :
    (w.setCell ⟨g, j, none⟩ v).ownsRow B E sz (.slice (some ⟨g, 0, none⟩) n cap) n (cs.set j v) := by
  refine ⟨by rw [List.length_set]; exact h.1, ?_⟩
  rcases h.2 with ⟨hn, _⟩ | ⟨g', cap', cur, e, hb', hg', hc, hm, hs, ht⟩
  · cases hn
  · simp only [Value.slice.injEq, Option.some.injEq, Addr.mk.injEq] at e
    obtain ⟨⟨rfl, -, -⟩, -, rfl⟩ := e
    refine .inr ⟨g, cap, cur.setIfInBounds j v, rfl, hb', blk_set hg' j v, hc, hm, by simpa using hs, ?_⟩
    rw [Array.toList_setIfInBounds, List.take_set, ht]
theorem SetC.own {w w' : World} {q g n cap : Nat} {o : Option (List Bool)} {p : Value} (h : SetC w q (.slice (some ⟨g, 0, none⟩) n cap) o p) (hk : ∀ k, k ≠ g → w'.heap[k]? = w.heap[k]?) : SetC w' q (.slice (some ⟨g, 0, none⟩) n cap) o p :=
  h.kept (fun k hk' h1 h2 => ⟨hk k (fun e => h2 (by rw [e]; rfl)), h2⟩)
theorem StsC.len {w : World} {q : Nat} {V : Value} {l : List St} {cs : List Value} (h : StsC w q V l cs) : cs.length = l.length * 3 := by
  induction h with
  | nil => rfl
  | snoc h hp ih => rw [List.length_append, List.length_append, ih]; simp [stCells]; omega
theorem modify_left {α : Type} (l : List α) (a : α) (f : α → α) {i : Nat} (h : i < l.length) : (l ++ [a]).modify i f = l.modify i f ++ [a] := by
  apply List.ext_getElem?
  intro j
  rw [List.getElem?_modify]
  by_cases hj : j < l.length
  · rw [List.getElem?_append_left hj, List.getElem?_append_left (by simpa using hj), List.getElem?_modify]
  · rw [List.getElem?_append_right (by omega), List.getElem?_append_right (by simp; omega)]
    have : ¬ i = j := by omega
    simp [this]
theorem modify_right {α : Type} (l : List α) (a : α) (f : α → α) : (l ++ [a]).modify l.length f = l ++ [f a] := by
  apply List.ext_getElem?
  intro j
  rw [List.getElem?_modify]
  by_cases hj : j < l.length
  · have : ¬ l.length = j := by omega
    rw [List.getElem?_append_left hj, List.getElem?_append_left hj]
    simp [this]
  · rw [List.getElem?_append_right (by omega), List.getElem?_append_right (by omega)]
    by_cases e : l.length = j
    · subst e; simp
    · have : ¬ j - l.length = 0 := by omega
      simp [e, this]
theorem StsC.next {w w' : World} {q g n cap : Nat} {l : List St} {cs : List Value} (h : StsC w q (.slice (some ⟨g, 0, none⟩) n cap) l cs) (hk : ∀ k, k ≠ g → w'.heap[k]? = w.heap[k]?) {i : Nat} (hi : i < l.length) (x : Int) :
    StsC w' q (.slice (some ⟨g, 0, none⟩) n cap) (setNext l i x) (cs.set (i * 3 + 1) (.int .i64 x)) := by
  induction h with
  | nil => simp at hi
  | @snoc l cs st p h hp ih =>
    have hl := h.len
    rw [List.length_append, List.length_singleton] at hi
    by_cases he : i < l.length
    · unfold setNext
      rw [modify_left _ _ _ he, List.set_append_left _ _ (by omega)]
      exact .snoc (ih he) (hp.own hk)
    · obtain rfl : i = l.length := by omega
      unfold setNext
      rw [modify_right, List.set_append_right _ _ (by omega), show l.length * 3 + 1 - cs.length = 1 by omega]
      exact StsC.snoc (st := { st with next := x }) (h.kept (fun k hk' h1 h2 => ⟨hk k (fun e => h2 (by rw [e]; rfl)), h2⟩)) (hp.own hk)
theorem StsC.other' {w w' : World} {q g n cap : Nat} {l : List St} {cs : List Value} (h : StsC w q (.slice (some ⟨g, 0, none⟩) n cap) l cs) (hk : ∀ k, k ≠ g → w'.heap[k]? = w.heap[k]?) {i : Nat} (hi : i < l.length) (x : Int) :
    StsC w' q (.slice (some ⟨g, 0, none⟩) n cap) (setOther l i x) (cs.set (i * 3 + 2) (.int .i64 x)) := by
  induction h with
  | nil => simp at hi
  | @snoc l cs st p h hp ih =>
    have hl := h.len
    rw [List.length_append, List.length_singleton] at hi
    by_cases he : i < l.length
    · unfold setOther
      rw [modify_left _ _ _ he, List.set_append_left _ _ (by omega)]
      exact .snoc (ih he) (hp.own hk)
    · obtain rfl : i = l.length := by omega
      unfold setOther
      rw [modify_right, List.set_append_right _ _ (by omega), show l.length * 3 + 2 - cs.length = 2 by omega]
      exact StsC.snoc (st := { st with other := x }) (h.kept (fun k hk' h1 h2 => ⟨hk k (fun e => h2 (by rw [e]; rfl)), h2⟩)) (hp.own hk)
/-- The states' block: where it lies, once there is a state. -/
theorem PrV.blk {w : World} {q : Nat} {V : Value} {s : Bytes} {l : List St} (P : PrV w q V s l) (hl : l ≠ []) : ∃ g cap, V = .slice (some ⟨g, 0, none⟩) l.length cap ∧ q < g := by
  obtain ⟨cs, h, _⟩ := P.own
  rcases h.2 with ⟨_, h2⟩ | ⟨g, cap, cur, e, hb, _⟩
  · exact absurd (List.eq_nil_of_length_eq_zero h2) hl
  · exact ⟨g, cap, e, by omega⟩
theorem PrV.next {w : World} {q g cap : Nat} {s : Bytes} {l : List St} (P : PrV w q (.slice (some ⟨g, 0, none⟩) l.length cap) s l) {i : Nat} (hi : i < l.length) (x : Int) : PrPost w (w.setCell ⟨g, i * 3 + 1, none⟩ (.int .i64 x)) q (.slice (some ⟨g, 0, none⟩) l.length cap) s (setNext l i x) := by
  obtain ⟨cs, h, hs⟩ := P.own
  have hg := P.own_lt (g := g) rfl
  have hk : ∀ k, k ≠ g → (w.setCell ⟨g, i * 3 + 1, none⟩ (.int .i64 x)).heap[k]? = w.heap[k]? := fun k hk => Below.heap_setCell _ _ _ _ hk
  refine ⟨⟨_, ⟨(hk q (by omega)).trans P.row, cs.set (i * 3 + 1) (.int .i64 x), ?_, hs.next hk hi x⟩, ⟨fun k _ _ hn => hk k (fun e => hn (by rw [e]; rfl)), fun k hk => .inl hk, by simp⟩⟩, (Below.refl _ _).setCell (p := ⟨g, i * 3 + 1, none⟩) (by show q ≤ g; omega) _⟩
  rw [setNext_len]
  exact ownsRow_set h _ _ (by have := hs.len; omega) rfl
theorem PrV.other {w : World} {q g cap : Nat} {s : Bytes} {l : List St} (P : PrV w q (.slice (some ⟨g, 0, none⟩) l.length cap) s l) {i : Nat} (hi : i < l.length) (x : Int) : PrPost w (w.setCell ⟨g, i * 3 + 2, none⟩ (.int .i64 x)) q (.slice (some ⟨g, 0, none⟩) l.length cap) s (setOther l i x) := by
  obtain ⟨cs, h, hs⟩ := P.own
  have hg := P.own_lt (g := g) rfl
  have hk : ∀ k, k ≠ g → (w.setCell ⟨g, i * 3 + 2, none⟩ (.int .i64 x)).heap[k]? = w.heap[k]? := fun k hk => Below.heap_setCell _ _ _ _ hk
  refine ⟨⟨_, ⟨(hk q (by omega)).trans P.row, cs.set (i * 3 + 2) (.int .i64 x), ?_, hs.other' hk hi x⟩, ⟨fun k _ _ hn => hk k (fun e => hn (by rw [e]; rfl)), fun k hk => .inl hk, by simp⟩⟩, (Below.refl _ _).setCell (p := ⟨g, i * 3 + 2, none⟩) (by show q ≤ g; omega) _⟩
  rw [setOther_len]
  exact ownsRow_set h _ _ (by have := hs.len; omega) rfl
/-- What may be written at a state. -/
theorem PrV.cellAt {w : World} {q g cap : Nat} {s : Bytes} {l : List St} (P : PrV w q (.slice (some ⟨g, 0, none⟩) l.length cap) s l) {i j : Nat} (hi : i < l.length) (hj : j < 3) : (∃ v, w.cell? ⟨g, i * 3 + j, none⟩ = some v) ∧ w.frozen? ⟨g, i * 3 + j, none⟩ = false := by
  obtain ⟨cs, h, hs⟩ := P.own
  have hl := hs.len
  rcases h.2 with ⟨hn, _⟩ | ⟨g', cap', cur, e, hb', hg', hc, hm, hsz, ht⟩
  · cases hn
  · simp only [Value.slice.injEq, Option.some.injEq, Addr.mk.injEq] at e
    obtain ⟨⟨rfl, -, -⟩, -, rfl⟩ := e
    have hlt : i * 3 + j < cur.size := by
      have := congrArg List.length ht
      rw [List.length_take] at this
      have h3 : cur.toList.length = cur.size := by simp
      omega
    exact ⟨⟨cur[i * 3 + j], by rw [(cells_of hg' _).1, Array.getElem?_eq_getElem hlt]⟩, (cells_of hg' _).2⟩
end Go.Proofs.YtcdeikhfmllkdaaGreatDoor

/- regex: the parser as a plain function of the nested pattern. -/
namespace Go.Proofs.YtcdeikhfmllkdaaGreatDoor
open Go.RowKit
set_option linter.unusedVariables false
set_option linter.unusedSimpArgs false
abbrev Pc := Nat × Nat
abbrev PF := Bytes → List St → Option (Pc × Bytes × List St)
def oneP (l : List St) : Pc := (l.length + 1, l.length)
def oneL (l : List St) (bs : List Bool) : List St := l ++ [freeS] ++ [⟨some bs, l.length, -1⟩]
def specialB : Bytes := [40, 41, 91, 93, 124, 42, 43, 63, 46, 92]
def atomF (pat : PF) : PF := fun s l => match takeM s with
  | none => none
  | some (c, t) =>
    if c = 40 then (pat t l).bind fun r => if (isR 41 r.2.1).1 then some (r.1, (isR 41 r.2.1).2, r.2.2) else none
    else if c = 91 then (setM t).map fun x => (oneP l, x.2, oneL l x.1)
    else if c = 46 then some (oneP l, t, oneL l (List.replicate 256 true))
    else if c = 92 then (takeM t).map fun x => (oneP l, x.2, oneL l (singleM x.1))
    else if specialB.contains c then none
    else some (oneP l, t, oneL l (singleM c))
def loopL (a : Pc) (l : List St) : List St := setOther (setNext (l ++ [freeS]) a.2 a.1) a.2 l.length
def partLoop : Nat → Pc → PF
  | 0, _, _, _ => none
  | f + 1, a, s, l =>
    if (isR 42 s).1 then partLoop f (l.length + 1, l.length) (isR 42 s).2 (loopL a l ++ [⟨none, a.1, l.length⟩])
    else if (isR 43 s).1 then partLoop f (a.1, l.length) (isR 43 s).2 (loopL a l)
    else if (isR 63 s).1 then partLoop f (l.length + 1, l.length) (isR 63 s).2 (setNext (l ++ [freeS]) a.2 l.length ++ [⟨none, a.1, l.length⟩])
    else some (a, s, l ++ [freeS])
def partF (pat : PF) : PF := fun s l => (atomF pat s l).bind fun r => partLoop (r.2.1.length + 1) r.1 r.2.1 r.2.2
def rowEnd (s : Bytes) : Bool := match s with
  | [] => true
  | c :: _ => c == 124 || c == 41
def rowLoop (part : PF) : Nat → Pc → PF
  | 0, _, _, _ => none
  | f + 1, p, s, l =>
    if rowEnd s then some (p, s, l) else (part s l).bind fun r => rowLoop part f (p.1, r.1.2) r.2.1 (setNext r.2.2 p.2 r.1.1)
def rowF (pat : PF) : PF := fun s l => rowLoop (partF pat) (s.length + 1) (l.length, l.length) s (l ++ [freeS])
def patLoop (row : PF) : Nat → Pc → PF
  | 0, _, _, _ => none
  | f + 1, p, s, l =>
    if (isR 124 s).1 then (row (isR 124 s).2 l).bind fun r => patLoop row f (r.2.2.length + 1, r.2.2.length) r.2.1 (setNext (setNext (r.2.2 ++ [freeS]) p.2 r.2.2.length) r.1.2 r.2.2.length ++ [⟨none, p.1, r.1.1⟩])
    else some (p, s, l)
def patF (pat : PF) : PF := fun s l => (rowF pat s l).bind fun r => patLoop (rowF pat) (r.2.1.length + 1) r.1 r.2.1 r.2.2
def patN : Nat → PF
  | 0 => fun _ _ => none
  | n + 1 => patF (patN n)
/-- What a result must be: places of states that are there, less text, no more than so many states. -/
structure Nice (k m : Nat) (s : Bytes) (l : List St) (r : Pc × Bytes × List St) : Prop where
  a : r.1.1 < r.2.2.length
  b : r.1.2 < r.2.2.length
  le : l.length ≤ r.2.2.length
  txt : r.2.1.length + k ≤ s.length
  few : r.2.2.length + 4 * r.2.1.length ≤ l.length + 4 * s.length + m
def NiceF (k m : Nat) (F : PF) : Prop := ∀ s l r, F s l = some r → Nice k m s l r
theorem isR_len (c : UInt8) (s : Bytes) : (isR c s).2.length ≤ s.length ∧ ((isR c s).1 = true → (isR c s).2.length + 1 = s.length) := by
  cases s with
  | nil => simp [isR]
  | cons d t =>
    by_cases h : d = c
    · simp [isR, h]
    · simp [isR, h]
theorem setLoop_len : ∀ (f : Nat) (s : Bytes) (bs : List Bool) (x : List Bool × Bytes), setLoop f s bs = some x → x.2.length ≤ s.length ∧ x.1.length = bs.length
  | 0, _, _, _, h => by cases h
  | f + 1, s, bs, x, h => by
    simp only [setLoop] at h
    split at h
    · simp only [Option.some.injEq] at h; subst h; exact ⟨(isR_len 93 s).1, rfl⟩
    · cases hm : memberM s with
      | none => rw [hm] at h; cases h
      | some y =>
        obtain ⟨lo, s1⟩ := y
        rw [hm] at h
        dsimp only at h
        have h1 := memberM_len hm
        cases hr : rangeM lo s1 with
        | none => rw [hr] at h; cases h
        | some z =>
          obtain ⟨hi, s2⟩ := z
          rw [hr] at h
          dsimp only at h
          have h2 := rangeM_len hr
          split at h
          · cases h
          · have := setLoop_len f s2 _ x h
            rw [fillTo_len] at this
            omega
theorem setM_len {s : Bytes} {x : List Bool × Bytes} (h : setM s = some x) : x.2.length ≤ s.length ∧ x.1.length = 256 := by
  unfold setM at h
  split at h
  · cases h
  · obtain ⟨y, hy, rfl⟩ := Option.map_eq_some_iff.1 h
    have h1 := setLoop_len _ _ _ _ hy
    have h2 := (isR_len 94 s).1
    rw [List.length_replicate] at h1
    dsimp only
    refine ⟨by omega, ?_⟩
    split
    · rw [List.length_map]; exact h1.2
    · exact h1.2
theorem oneL_len (l : List St) (bs : List Bool) : (oneL l bs).length = l.length + 2 := by simp [oneL]
theorem nice_one {s t : Bytes} {l : List St} {bs : List Bool} (h : t.length + 1 ≤ s.length) {m : Nat} : Nice 1 m s l (oneP l, t, oneL l bs) :=
  ⟨by rw [oneL_len]; show l.length + 1 < _; omega, by rw [oneL_len]; show l.length < _; omega, by rw [oneL_len]; omega, h, by rw [oneL_len]; dsimp only; omega⟩
theorem atom_nice {pat : PF} (hp : NiceF 0 1 pat) {s : Bytes} {l : List St} {r : Pc × Bytes × List St} (h : atomF pat s l = some r) : Nice 1 0 s l r ∧ r.2.2.length + 4 * r.2.1.length + 1 ≤ l.length + 4 * s.length := by
  unfold atomF at h
  cases s with
  | nil => cases h
  | cons c t =>
    simp only [takeM] at h
    split at h
    · obtain ⟨x, hx, h⟩ := Option.bind_eq_some_iff.1 h
      split at h
      · rename_i h41
        simp only [Option.some.injEq] at h
        subst h
        have hn := hp _ _ _ hx
        have := (isR_len 41 x.2.1).2 h41
        have := hn.txt
        have := hn.few
        exact ⟨⟨hn.a, hn.b, hn.le, by simp; omega, by simp; omega⟩, by simp; omega⟩
      · cases h
    · split at h
      · obtain ⟨x, hx, rfl⟩ := Option.map_eq_some_iff.1 h
        have := (setM_len hx).1
        exact ⟨nice_one (by simp; omega), by rw [oneL_len]; simp; omega⟩
      · split at h
        · simp only [Option.some.injEq] at h; subst h
          exact ⟨nice_one (by simp), by rw [oneL_len]; simp; omega⟩
        · split at h
          · obtain ⟨x, hx, rfl⟩ := Option.map_eq_some_iff.1 h
            have := takeM_len hx
            exact ⟨nice_one (by simp; omega), by rw [oneL_len]; simp; omega⟩
          · split at h
            · cases h
            · simp only [Option.some.injEq] at h; subst h
              exact ⟨nice_one (by simp), by rw [oneL_len]; simp; omega⟩
theorem loopL_len (a : Pc) (l : List St) : (loopL a l).length = l.length + 1 := by simp [loopL, setNext, setOther]
theorem partLoop_nice : ∀ (f : Nat) (a : Pc) (s : Bytes) (l : List St) (r : Pc × Bytes × List St), partLoop f a s l = some r → a.1 < l.length → a.2 < l.length →
    r.1.1 < r.2.2.length ∧ r.1.2 < r.2.2.length ∧ l.length ≤ r.2.2.length ∧ r.2.1.length ≤ s.length ∧ r.2.2.length + 4 * r.2.1.length ≤ l.length + 4 * s.length + 1
  | 0, _, _, _, _, h, _, _ => by cases h
  | f + 1, a, s, l, r, h, h1, h2 => by
    simp only [partLoop] at h
    have hl := loopL_len a l
    split at h
    · rename_i h42
      have hz := (isR_len 42 s).2 h42
      have := partLoop_nice f _ _ _ r h (by simp [hl]) (by simp [hl]; omega)
      simp only [List.length_append, hl, List.length_singleton] at this
      omega
    · split at h
      · rename_i h43
        have hz := (isR_len 43 s).2 h43
        have := partLoop_nice f _ _ _ r h (by simp [hl]; omega) (by simp [hl])
        simp only [hl] at this
        omega
      · split at h
        · rename_i h63
          have hz := (isR_len 63 s).2 h63
          have := partLoop_nice f _ _ _ r h (by simp [setNext_len]) (by simp [setNext_len]; omega)
          simp only [List.length_append, setNext_len, List.length_singleton] at this
          omega
        · simp only [Option.some.injEq] at h
          subst h
          simp only [List.length_append, List.length_singleton]
          omega
theorem part_nice {pat : PF} (hp : NiceF 0 1 pat) : NiceF 1 0 (partF pat) := by
  intro s l r h
  unfold partF at h
  obtain ⟨x, hx, h⟩ := Option.bind_eq_some_iff.1 h
  obtain ⟨hn, hf⟩ := atom_nice hp hx
  have := partLoop_nice _ _ _ _ _ h hn.a hn.b
  have h1 := hn.le
  have h2 := hn.txt
  exact ⟨by omega, by omega, by omega, by omega, by omega⟩
theorem rowLoop_nice {part : PF} (hp : NiceF 1 0 part) : ∀ (f : Nat) (p : Pc) (s : Bytes) (l : List St) (r : Pc × Bytes × List St), rowLoop part f p s l = some r → p.1 < l.length → p.2 < l.length →
    r.1.1 < r.2.2.length ∧ r.1.2 < r.2.2.length ∧ l.length ≤ r.2.2.length ∧ r.2.1.length ≤ s.length ∧ r.2.2.length + 4 * r.2.1.length ≤ l.length + 4 * s.length
  | 0, _, _, _, _, h, _, _ => by cases h
  | f + 1, p, s, l, r, h, h1, h2 => by
    simp only [rowLoop] at h
    split at h
    · simp only [Option.some.injEq] at h; subst h; dsimp only; omega
    · obtain ⟨x, hx, h⟩ := Option.bind_eq_some_iff.1 h
      have hn := hp _ _ _ hx
      have := hn.le
      have := hn.txt
      have := hn.few
      have ha := hn.a
      have hb := hn.b
      have := rowLoop_nice hp f _ _ _ r h (by simp [setNext_len]; omega) (by simp [setNext_len]; omega)
      simp only [setNext_len] at this
      omega
theorem row_nice {pat : PF} (hp : NiceF 0 1 pat) : NiceF 0 1 (rowF pat) := by
  intro s l r h
  have := rowLoop_nice (part_nice hp) _ _ _ _ _ h (by simp) (by simp)
  simp only [List.length_append, List.length_singleton] at this
  exact ⟨by omega, by omega, by omega, by omega, by omega⟩
theorem patLoop_nice {row : PF} (hp : NiceF 0 1 row) : ∀ (f : Nat) (p : Pc) (s : Bytes) (l : List St) (r : Pc × Bytes × List St), patLoop row f p s l = some r → p.1 < l.length → p.2 < l.length →
    r.1.1 < r.2.2.length ∧ r.1.2 < r.2.2.length ∧ l.length ≤ r.2.2.length ∧ r.2.1.length ≤ s.length ∧ r.2.2.length + 4 * r.2.1.length ≤ l.length + 4 * s.length
  | 0, _, _, _, _, h, _, _ => by cases h
  | f + 1, p, s, l, r, h, h1, h2 => by
    simp only [patLoop] at h
    split at h
    · rename_i h124
      have hz := (isR_len 124 s).2 h124
      obtain ⟨x, hx, h⟩ := Option.bind_eq_some_iff.1 h
      have hn := hp _ _ _ hx
      have := hn.le
      have := hn.txt
      have := hn.few
      have ha := hn.a
      have hb := hn.b
      have := patLoop_nice hp f _ _ _ r h (by simp [setNext_len]) (by simp [setNext_len]; omega)
      simp only [List.length_append, setNext_len, List.length_singleton] at this
      omega
    · simp only [Option.some.injEq] at h; subst h; dsimp only; omega
theorem pat_nice {pat : PF} (hp : NiceF 0 1 pat) : NiceF 0 1 (patF pat) := by
  intro s l r h
  unfold patF at h
  obtain ⟨x, hx, h⟩ := Option.bind_eq_some_iff.1 h
  have hn := row_nice hp _ _ _ hx
  have := patLoop_nice (row_nice hp) _ _ _ _ _ h hn.a hn.b
  have h1 := hn.le
  have h2 := hn.txt
  have h3 := hn.few
  exact ⟨by omega, by omega, by omega, by omega, by omega⟩
theorem patN_nice : ∀ n, NiceF 0 1 (patN n)
  | 0 => fun s l r h => by cases h
  | n + 1 => pat_nice (patN_nice n)
/-- More fuel changes nothing. -/
theorem partLoop_mono : ∀ (f g : Nat) (a : Pc) (s : Bytes) (l : List St), s.length < f → f ≤ g → partLoop g a s l = partLoop f a s l
  | 0, _, _, s, _, h, _ => by omega
  | f + 1, 0, _, _, _, _, h => by omega
  | f + 1, g + 1, a, s, l, h, hg => by
    simp only [partLoop]
    have z42 := (isR_len 42 s).2
    have z43 := (isR_len 43 s).2
    have z63 := (isR_len 63 s).2
    split
    · rename_i h42; have := z42 h42; exact partLoop_mono f g _ _ _ (by omega) (by omega)
    · split
      · rename_i h43; have := z43 h43; exact partLoop_mono f g _ _ _ (by omega) (by omega)
      · split
        · rename_i h63; have := z63 h63; exact partLoop_mono f g _ _ _ (by omega) (by omega)
        · rfl
theorem rowLoop_mono {part : PF} (hp : NiceF 1 0 part) : ∀ (f g : Nat) (p : Pc) (s : Bytes) (l : List St), s.length < f → f ≤ g → rowLoop part g p s l = rowLoop part f p s l
  | 0, _, _, s, _, h, _ => by omega
  | f + 1, 0, _, _, _, _, h => by omega
  | f + 1, g + 1, p, s, l, h, hg => by
    simp only [rowLoop]
    split
    · rfl
    · cases hx : part s l with
      | none => rfl
      | some x =>
        have := (hp _ _ _ hx).txt
        simp only [Option.bind_some]
        exact rowLoop_mono hp f g _ _ _ (by omega) (by omega)
theorem patLoop_mono {row : PF} (hp : NiceF 0 1 row) : ∀ (f g : Nat) (p : Pc) (s : Bytes) (l : List St), s.length < f → f ≤ g → patLoop row g p s l = patLoop row f p s l
  | 0, _, _, s, _, h, _ => by omega
  | f + 1, 0, _, _, _, _, h => by omega
  | f + 1, g + 1, p, s, l, h, hg => by
    simp only [patLoop]
    have z := (isR_len 124 s).2
    split
    · rename_i h124
      have := z h124
      cases hx : row (isR 124 s).2 l with
      | none => rfl
      | some x =>
        have := (hp _ _ _ hx).txt
        simp only [Option.bind_some]
        exact patLoop_mono hp f g _ _ _ (by omega) (by omega)
    · rfl
end Go.Proofs.YtcdeikhfmllkdaaGreatDoor
