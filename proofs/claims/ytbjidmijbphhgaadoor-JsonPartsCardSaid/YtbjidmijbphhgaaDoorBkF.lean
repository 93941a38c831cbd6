/- A text that is cut off is none, unless it is a number. -/
import Derived.Test.YtbjidmijbphhgaaDoorBkD
namespace Go.Proofs.YtbjidmijbphhgaaDoor
open Go.RowKit
set_option linter.unusedVariables false
set_option linter.unusedSimpArgs false

def Bad (r : Res) : Prop := r = .error 4 ∨ ∃ m, r = .ok ([], m)
theorem value_nil (g : Nat) (l : List Val) (nest : Nat) (name : Bytes) (parent : Int) : valueM g [] l nest name parent = .error 4 := by
  cases g with
  | zero => simp only [valueM]
  | succ g => simp only [valueM, skip, List.dropWhile_nil]
theorem loop_nil (g : Nat) (l : List Val) (nest i : Nat) (e : UInt8) : loopM g [] l nest i e = .error 4 := by
  cases g with
  | zero => simp only [loopM]
  | succ g =>
    simp only [loopM]
    by_cases he : e = 125
    · rw [if_pos he]; rfl
    · rw [if_neg he]
      dsimp only
      rw [value_nil]
theorem cut_tail {a : UInt8} {T q : Bytes} (hq : q.length < (a :: T).length) (he : q = (a :: T).take q.length) : q = [] ∨ ∃ t, q = a :: t ∧ t.length < T.length ∧ t = T.take t.length := by
  cases q with
  | nil => exact .inl rfl
  | cons b t =>
    simp only [List.length_cons, List.take_succ_cons, List.cons.injEq] at hq he
    exact .inr ⟨t, by rw [he.1], by omega, he.2⟩
theorem pre_short {q p : Bytes} (h : q.length < p.length) : Lib.hasPrefix q p = false := by
  cases hh : Lib.hasPrefix q p with
  | false => rfl
  | true =>
    have := (List.isPrefixOf_iff_prefix.1 hh).length_le
    omega
theorem num_all {q : Bytes} (h : ∀ c ∈ q, isNum c = true) : numRest q = [] ∧ numTok q = q := by
  have := num_cut q [] h (fun c t e => by cases e)
  rw [List.append_nil] at this
  exact this
theorem scal_cut {v : Val} (h1 : oneM v = true) (hk : v.kind < 5) {q : Bytes} (hq : q.length < (scalT v).length) (he : q = (scalT v).take q.length) (g : Nat) {l : List Val} {nest : Nat} (hl : l.length < 512) (hn : nest < 16) (name : Bytes) (parent : Int) :
    valueM g q l nest name parent = .error 4 ∨ (v.kind = 3 ∧ ∃ m, valueM g q l nest name parent = .ok ([], m)) := by
  obtain ⟨_, _, g3, g4, g5⟩ := one_form h1
  cases g with
  | zero => exact .inl (by simp only [valueM])
  | succ g =>
  unfold scalT at hq he
  by_cases k0 : v.kind = 0
  · rw [if_pos k0] at hq he
    rcases cut_tail hq he with rfl | ⟨t, rfl, ht, _⟩
    · exact .inl (value_nil _ _ _ _ _)
    · left
      rw [valueM_cons (by decide) g l nest _ _ hl hn, if_pos rfl, pre_short (by simp at ht ⊢; omega)]; rfl
  rw [if_neg k0] at hq he
  by_cases k1 : v.kind = 1
  · rw [if_pos k1] at hq he
    rcases cut_tail hq he with rfl | ⟨t, rfl, ht, _⟩
    · exact .inl (value_nil _ _ _ _ _)
    · left
      rw [valueM_cons (by decide) g l nest _ _ hl hn, if_neg (by decide), if_pos rfl, pre_short (by simp at ht ⊢; omega)]; rfl
  rw [if_neg k1] at hq he
  by_cases k2 : v.kind = 2
  · rw [if_pos k2] at hq he
    rcases cut_tail hq he with rfl | ⟨t, rfl, ht, _⟩
    · exact .inl (value_nil _ _ _ _ _)
    · left
      rw [valueM_cons (by decide) g l nest _ _ hl hn, if_neg (by decide), if_neg (by decide), if_pos rfl, pre_short (by simp at ht ⊢; omega)]; rfl
  rw [if_neg k2] at hq he
  by_cases k3 : v.kind = 3
  · rw [if_pos k3] at hq he
    have hi := g3 k3
    obtain ⟨hne, hall⟩ := int_chars hi
    have hqa : ∀ c ∈ q, isNum c = true := fun c hc => hall c (by rw [he] at hc; exact List.mem_of_mem_take hc)
    obtain ⟨c1, c2⟩ := num_all hqa
    cases hcq : q with
    | nil => exact .inl (value_nil _ _ _ _ _)
    | cons c t =>
      have hc := hqa c (by rw [hcq]; simp)
      obtain ⟨hb, n1, n2, n3, n4, _⟩ := num_blank c hc
      rw [valueM_cons hb g l nest _ _ hl hn, if_neg n1, if_neg n2, if_neg n3, if_neg n4, if_pos hc, ← hcq, c2, c1]
      by_cases hii : intM q = true
      · rw [if_pos hii]; exact .inr ⟨k3, _, rfl⟩
      · rw [if_neg hii]; exact .inl rfl
  rw [if_neg k3] at hq he
  have hn2 := quoted_cut (g4 (by omega)) hq he
  left
  rw [quoteM_cons] at hq he
  rcases cut_tail hq he with rfl | ⟨t, rfl, _, _⟩
  · exact value_nil _ _ _ _ _
  · rw [valueM_cons (by decide) g l nest _ _ hl hn, if_neg (by decide), if_neg (by decide), if_neg (by decide), if_pos rfl, hn2]

def ValCut (f : Nat) (l : List Val) : Prop := ∀ (i : Nat) (v : Val) (b : List Nat) (p : Nat), Goes l i (b ++ [p]) → l[i]? = some v → v.parent = (p : Int) → 2 * (l.length - i) < f →
  ∀ g q, q.length < (valW f l i).1.length → q = (valW f l i).1.take q.length → 3 * q.length + 1 ≤ g → Bad (valueM g q (l.take i) (b.length + 1) v.name p)
def LoopCut (f : Nat) (l : List Val) : Prop := ∀ (k i : Nat) (b : List Nat) (obj : Bool), Goes l k (b ++ [i]) → i < k → (∀ (j : Nat) (w : Val), i < j → j < k → l[j]? = some w → (i : Int) ≤ w.parent) → (l.getD i v0).kind = (if obj then 6 else 5) → 2 * (l.length - k) + 1 < f →
  ∀ v, l[k]? = some v → v.parent = (i : Int) → ∀ g q, q.length < ((loopW f l k i obj true).1 ++ [endB obj]).length → q = ((loopW f l k i obj true).1 ++ [endB obj]).take q.length → 3 * q.length + 2 ≤ g →
    loopM g q (l.take k) b.length i (endB obj) = .error 4

theorem many_cut {l : List Val} {f : Nat} (hB : LoopBack f l) (hL : LoopCut f l) {i : Nat} {b : List Nat} {obj : Bool} (hG : Goes l (i + 1) (b ++ [i])) (hk : (l.getD i v0).kind = (if obj then 6 else 5)) (hf : 2 * (l.length - (i + 1)) + 1 < f)
    {g : Nat} {q : Bytes} (hq : q.length < ((loopW f l (i + 1) i obj true).1 ++ [endB obj]).length) (he : q = ((loopW f l (i + 1) i obj true).1 ++ [endB obj]).take q.length) (hg : 3 * q.length + 3 ≤ g) : manyM g q (l.take (i + 1)) b.length i (endB obj) = .error 4 := by
  obtain ⟨g, rfl⟩ : ∃ m, g = m + 1 := ⟨g - 1, by omega⟩
  cases hc : q with
  | nil => simp only [manyM, skip, List.dropWhile_nil]; exact loop_nil _ _ _ _ _
  | cons c t =>
    by_cases hk1 : ∃ v, l[i + 1]? = some v ∧ v.parent = (i : Int)
    · obtain ⟨v, hv, hp⟩ := hk1
      obtain ⟨⟨c', t', e, hb, hne⟩, _⟩ := (hB (i + 1) i b obj hG (by omega) (fun j w h1 h2 => by omega) hk hf).2.2.2 v hv hp
      have h5 := hL (i + 1) i b obj hG (by omega) (fun j w h1 h2 => by omega) hk hf v hv hp g q hq he (by omega)
      have hcc : c = c' := by
        rw [hc, e] at he
        simp only [List.length_cons, List.cons_append, List.take_succ_cons, List.cons.injEq] at he
        exact he.1
      subst hcc
      rw [hc] at h5
      simp only [manyM, skip_not hb]
      rw [if_neg hne]; exact h5
    · have hn : ∀ v, l[i + 1]? = some v → v.parent ≠ (i : Int) := fun v hv hp => hk1 ⟨v, hv, hp⟩
      rw [loopW_none hn, hc] at hq
      simp at hq

theorem loop_err {g : Nat} {s u : Bytes} {l : List Val} {nest i : Nat} {name : Bytes} (h : quotedM s = none) : loopM g s l nest i 125 = .error 4 := by
  cases g with
  | zero => simp only [loopM]
  | succ g => simp only [loopM]; rw [if_pos trivial, h]
/-- One round of the loop, where the name is there. -/
theorem loop_obj {g : Nat} {name u : Bytes} {l : List Val} {nest i : Nat} (hv : Lib.validD name = true) (hg : getM l (i : Int) name = none) : loopM (g + 1) (quoteM name ++ [58] ++ u) l nest i 125 = (match valueM g u l (nest + 1) name i with
      | .error n => .error n
      | .ok (v, m) => match skip v with
        | [] => .error 4
        | c :: t => if c = 44 then loopM g t m nest i 125 else if c = 125 then .ok (t, m) else .error 4) := by
  have e : (quoteM name ++ [58] ++ u : Bytes) = quoteM name ++ (58 :: u) := by simp
  rw [e]
  simp only [loopM]
  rw [if_pos trivial, quoted_back hv]
  dsimp only
  rw [skip_not (by decide)]
  dsimp only
  rw [if_pos rfl, hg]
  rfl
theorem loop_arr {g : Nat} {u : Bytes} {l : List Val} {nest i : Nat} : loopM (g + 1) u l nest i 93 = (match valueM g u l (nest + 1) [] i with
      | .error n => .error n
      | .ok (v, m) => match skip v with
        | [] => .error 4
        | c :: t => if c = 44 then loopM g t m nest i 93 else if c = 93 then .ok (t, m) else .error 4) := by
  simp only [loopM]
  rw [if_neg (by decide)]
  rfl
theorem loop_name {l : List Val} (hF : Fine l) {k i : Nat} {v : Val} (hv : l[k]? = some v) (hp : v.parent = (i : Int)) (hk : (l.getD i v0).kind = 6) : getM (l.take k) (i : Int) v.name = none := by
  refine getM_non (fun j w hw hh => ?_)
  have hjk : j < k := by
    have := (List.getElem?_eq_some_iff.1 hw).1
    rw [List.length_take] at this; omega
  rw [List.getElem?_take, if_pos hjk] at hw
  have hj1 : 1 ≤ j := by
    rcases Nat.eq_zero_or_pos j with h | h
    · subst h
      obtain ⟨r, hr, hr2, _⟩ := hF.root
      rw [hw] at hr; simp only [Option.some.injEq] at hr; subst hr; omega
    · exact h
  refine hF.dup j k w v hj1 hjk hw hv (by rw [hh.1, hp]) ?_ hh.2
  rw [hp, Int.toNat_natCast, hk]
theorem bad_round {r : Res} {G : Bytes → List Val → Res} (h : Bad r) : (match r with
      | .error n => (.error n : Res)
      | .ok (v, m) => match skip v with
        | [] => .error 4
        | c :: t => G (c :: t) m) = .error 4 := by
  rcases h with h | ⟨m, h⟩ <;> rw [h] <;> rfl

theorem cuts {l : List Val} (hF : Fine l) (f : Nat) : ValCut f l ∧ LoopCut f l := by
  induction f with
  | zero => exact ⟨fun i v b p _ _ _ h => by omega, fun k i b obj _ _ _ _ h => by omega⟩
  | succ f ih =>
    obtain ⟨ih1, ih2⟩ := ih
    obtain ⟨bk1, bk2⟩ := backs hF f
    have hfew := hF.few
    refine ⟨fun i v b p hG hv hp hf g q hq he hg => ?_, fun k i b obj hG hik hin hk hf v hv hp g q hq he hg => ?_⟩
    · have hil := (List.getElem?_eq_some_iff.1 hv).1
      obtain ⟨h1, h16, hname, hG2⟩ := hG.at hv hp
      have hlen : (l.take i).length = i := by rw [List.length_take]; omega
      by_cases hk5 : v.kind < 5
      · rw [valW_scal hv hk5 f] at hq he
        rcases scal_cut h1 hk5 hq he g (l := l.take i) (nest := b.length + 1) (by rw [hlen]; omega) h16 v.name p with h | ⟨_, h⟩
        · exact .inl h
        · exact .inr h
      · have h6 := (one_form h1).1
        rw [stack_arr (by omega)] at hG2
        have htext := (one_form h1).2.2.2.2 (by omega) (by omega)
        by_cases k5 : v.kind = 5
        · rw [valW_arr hv k5 f] at hq he
          rcases cut_tail (a := 91) (T := (loopW f l (i + 1) i false true).1 ++ [endB false]) hq he with rfl | ⟨t, rfl, ht, het⟩
          · exact .inl (value_nil _ _ _ _ _)
          · left
            obtain ⟨g, rfl⟩ : ∃ m, g = m + 1 := ⟨g - 1, by omega⟩
            have := many_cut (obj := false) bk2 ih2 hG2 (by rw [kind_at hv]; simpa using k5) (by omega) (g := g) ht het (by simp only [List.length_cons] at hg; omega)
            rw [valueM_cons (by decide) g _ _ _ _ (by rw [hlen]; omega) h16, if_neg (by decide), if_neg (by decide), if_neg (by decide), if_neg (by decide), if_neg (by decide), if_pos rfl, hlen]
            have hvv : (⟨(p : Int), 5, v.name, []⟩ : Val) = v := by rw [← hp]; exact val_eta k5 htext
            rw [hvv, take_snoc hv]
            simp only [List.length_append, List.length_cons, List.length_nil, Nat.zero_add] at this
            exact this
        · have k6 : v.kind = 6 := by omega
          rw [valW_obj hv k6 f] at hq he
          rcases cut_tail (a := 123) (T := (loopW f l (i + 1) i true true).1 ++ [endB true]) hq he with rfl | ⟨t, rfl, ht, het⟩
          · exact .inl (value_nil _ _ _ _ _)
          · left
            obtain ⟨g, rfl⟩ : ∃ m, g = m + 1 := ⟨g - 1, by omega⟩
            have := many_cut (obj := true) bk2 ih2 hG2 (by rw [kind_at hv]; simpa using k6) (by omega) (g := g) ht het (by simp only [List.length_cons] at hg; omega)
            rw [valueM_cons (by decide) g _ _ _ _ (by rw [hlen]; omega) h16, if_neg (by decide), if_neg (by decide), if_neg (by decide), if_neg (by decide), if_neg (by decide), if_neg (by decide), if_pos rfl, hlen]
            have hvv : (⟨(p : Int), 6, v.name, []⟩ : Val) = v := by rw [← hp]; exact val_eta k6 htext
            rw [hvv, take_snoc hv]
            simp only [List.length_append, List.length_cons, List.length_nil, Nat.zero_add] at this
            exact this
    · have hkl := (List.getElem?_eq_some_iff.1 hv).1
      obtain ⟨h1, h16, hname, _⟩ := hG.at hv hp
      obtain ⟨a1, a2, a3, a4⟩ := bk1 k v b i hG hv hp (by omega)
      have hin2 : ∀ (j : Nat) (w : Val), i < j → j < (valW f l k).2 → l[j]? = some w → (i : Int) ≤ w.parent := by
        intro j w j1 j2 jw
        by_cases c1 : j < k
        · exact hin j w j1 c1 jw
        by_cases c2 : j = k
        · subst c2; rw [hv] at jw; simp only [Option.some.injEq] at jw; subst jw; omega
        · have := a3 j w (by omega) j2 jw; omega
      have hc1 := ih1 k v b i hG hv hp (by omega)
      obtain ⟨f', hf'⟩ : ∃ m, f = m + 1 := ⟨f - 1, by omega⟩
      rw [loopW_some hv hp f obj true] at hq he
      simp only [if_true, List.nil_append] at hq he
      obtain ⟨k', hk'⟩ : ∃ k', (valW f l k).2 = k' := ⟨_, rfl⟩
      obtain ⟨T, hT⟩ : ∃ T, (valW f l k).1 = T := ⟨_, rfl⟩
      rw [hk'] at a1 a2 a4 hin2 hq he
      rw [hT] at a4 hc1 hq he
      -- what stands behind the name
      have hval : ∀ g' q1, q1.length < (T ++ ((loopW f l k' i obj false).1 ++ [endB obj])).length → q1 = (T ++ ((loopW f l k' i obj false).1 ++ [endB obj])).take q1.length → 3 * q1.length + 1 ≤ g' →
          (match valueM g' q1 (l.take k) (b.length + 1) v.name i with
            | .error n => (.error n : Res)
            | .ok (v, m) => match skip v with
              | [] => .error 4
              | c :: t => if c = 44 then loopM g' t m b.length i (endB obj) else if c = endB obj then .ok (t, m) else .error 4) = .error 4 := by
        intro g' q1 hq1 he1 hg1
        rcases take_cut he1 with ⟨c1, c2⟩ | ⟨c1, q2, rfl, c2⟩
        · exact bad_round (G := fun x m => match x with
              | [] => .error 4
              | c :: t => if c = 44 then loopM g' t m b.length i (endB obj) else if c = endB obj then .ok (t, m) else .error 4) (hc1 g' q1 c1 c2 hg1)
        · have hq2 : q2.length < ((loopW f l k' i obj false).1 ++ [endB obj]).length := by
            simp only [List.length_append] at hq1 ⊢; omega
          rw [List.length_append] at hg1
          by_cases hc : ∃ v, l[k']? = some v ∧ v.parent = (i : Int)
          · obtain ⟨v', hv', hp'⟩ := hc
            rw [hf', loopW_comma hv' hp', ← hf', List.cons_append] at hq2 c2
            rcases cut_tail hq2 c2 with rfl | ⟨q3, rfl, h3, h3e⟩
            · rw [a4 g' [] (by omega) (fun c t e => by cases e)]; rfl
            · rw [a4 g' (44 :: q3) (by omega) (fun c t e => by simp only [List.cons.injEq] at e; rw [← e.1]; decide)]
              dsimp only
              rw [skip_not (by decide)]
              dsimp only
              rw [if_pos rfl]
              exact ih2 k' i b obj a1 (by omega) hin2 hk (by omega) v' hv' hp' g' q3 h3 h3e (by simp only [List.length_cons] at hg1; omega)
          · have hn : ∀ v, l[k']? = some v → v.parent ≠ (i : Int) := fun v hv hp => hc ⟨v, hv, hp⟩
            rw [loopW_none hn] at hq2
            obtain rfl : q2 = [] := List.eq_nil_of_length_eq_zero (by simpa using hq2)
            rw [a4 g' [] (by omega) (fun c t e => by cases e)]; rfl
      obtain ⟨g, rfl⟩ : ∃ m, g = m + 1 := ⟨g - 1, by omega⟩
      cases obj with
      | true =>
        simp only [if_true, List.append_assoc] at hq he
        have e : endB true = 125 := rfl
        rcases take_cut (a := quoteM v.name) he with ⟨c1, c2⟩ | ⟨c1, q1, rfl, c2⟩
        · exact loop_err (u := []) (name := []) (quoted_cut (one_form h1).2.1 c1 c2)
        · rcases take_cut (a := [58]) c2 with ⟨d1, d2⟩ | ⟨d1, q2, rfl, d2⟩
          · obtain rfl : q1 = [] := List.eq_nil_of_length_eq_zero (by simpa using d1)
            rw [List.append_nil]
            have hqb := quoted_back (one_form h1).2.1 []
            rw [List.append_nil] at hqb
            simp only [loopM]
            rw [if_pos (by rfl), hqb]; rfl
          · rw [← List.append_assoc]
            have hl := loop_name hF hv hp (by rw [hk]; rfl)
            rw [e, loop_obj (one_form h1).2.1 hl]
            have := hval g q2 (by simp only [List.length_append, List.length_cons, List.length_nil] at hq ⊢; omega) d2 (by simp only [List.length_append, List.length_cons, List.length_nil] at hg; omega)
            rw [e] at this
            exact this
      | false =>
        have hnm : v.name = [] := by
          by_cases c : v.name = []
          · exact c
          · have := hname c; rw [hk] at this; simp at this
        simp only [Bool.false_eq_true, if_false, List.nil_append, List.append_assoc] at hq he
        have e : endB false = 93 := rfl
        have := hval g q hq he (by omega)
        rw [e, hnm] at this
        rw [e, loop_arr]
        exact this
/-- A text that is cut off is none, unless it is a number. -/
theorem read_cut {l : List Val} (h : checkM l = 0) (h3 : ∀ v, l[0]? = some v → v.kind ≠ 3) {q : Bytes} (hq : q.length < (textM l).length) (he : q = (textM l).take q.length) (hl : q.length ≤ 65536) : readM q = .error 4 := by
  have hF := fine_of h
  obtain ⟨v, hv, hp, hn, h1, hG⟩ := hF.root
  have hfew := hF.few
  have hpos : 0 < l.length := (List.getElem?_eq_some_iff.1 hv).1
  have hk3 := h3 v hv
  obtain ⟨bk1, bk2⟩ := backs hF (2 * l.length)
  obtain ⟨ct1, ct2⟩ := cuts hF (2 * l.length)
  have ht : l.take 1 = [v] := by
    have := take_snoc (l := l) (i := 0) hv
    simpa using this.symm
  have key : valueM (3 * q.length + 1) q [] 0 [] (-1) = .error 4 := by
    unfold textM at hq he
    by_cases hk5 : v.kind < 5
    · rw [valW_scal hv hk5] at hq he
      rcases scal_cut h1 hk5 hq he (3 * q.length + 1) (l := []) (nest := 0) (by simp) (by omega) [] (-1) with h | ⟨h, _⟩
      · exact h
      · exact absurd h hk3
    · have h6 := (one_form h1).1
      rw [stack_arr (by omega)] at hG
      have hG' : Goes l (0 + 1) ([] ++ [0]) := hG
      have htext := (one_form h1).2.2.2.2 (by omega) (by omega)
      by_cases k5 : v.kind = 5
      · rw [valW_arr hv k5] at hq he
        rcases cut_tail (a := 91) (T := (loopW (2 * l.length) l (0 + 1) 0 false true).1 ++ [endB false]) hq he with rfl | ⟨t, rfl, htl, het⟩
        · exact value_nil _ _ _ _ _
        · have := many_cut (obj := false) bk2 ct2 hG' (by rw [kind_at hv]; simpa using k5) (by omega) (g := 3 * (91 :: t).length) htl het (by simp only [List.length_cons]; omega)
          rw [valueM_cons (by decide) _ _ _ _ _ (by simp) (by omega), if_neg (by decide), if_neg (by decide), if_neg (by decide), if_neg (by decide), if_neg (by decide), if_pos rfl]
          have hvv : (⟨-1, 5, [], []⟩ : Val) = v := by have := val_eta k5 htext; rw [hp, hn] at this; exact this
          rw [hvv, List.nil_append, ← ht]
          exact this
      · have k6 : v.kind = 6 := by omega
        rw [valW_obj hv k6] at hq he
        rcases cut_tail (a := 123) (T := (loopW (2 * l.length) l (0 + 1) 0 true true).1 ++ [endB true]) hq he with rfl | ⟨t, rfl, htl, het⟩
        · exact value_nil _ _ _ _ _
        · have := many_cut (obj := true) bk2 ct2 hG' (by rw [kind_at hv]; simpa using k6) (by omega) (g := 3 * (123 :: t).length) htl het (by simp only [List.length_cons]; omega)
          rw [valueM_cons (by decide) _ _ _ _ _ (by simp) (by omega), if_neg (by decide), if_neg (by decide), if_neg (by decide), if_neg (by decide), if_neg (by decide), if_neg (by decide), if_pos rfl]
          have hvv : (⟨-1, 6, [], []⟩ : Val) = v := by have := val_eta k6 htext; rw [hp, hn] at this; exact this
          rw [hvv, List.nil_append, ← ht]
          exact this
  unfold readM
  rw [if_neg (by omega), key]
end Go.Proofs.YtbjidmijbphhgaaDoor
