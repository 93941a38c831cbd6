/- What is written of values is read as they were. -/
import Derived.Test.YtcdeikhfmllkdaaGreatDoorBkC
namespace Go.Proofs.YtcdeikhfmllkdaaGreatDoor
open Go.RowKit
set_option linter.unusedVariables false
set_option linter.unusedSimpArgs false

/-- Right values. -/
structure Fine (l : List Val) : Prop where
  few : l.length ≤ 512
  dup : NoDup l
  root : ∃ v, l[0]? = some v ∧ v.parent = -1 ∧ v.name = [] ∧ oneM v = true ∧ Goes l 1 (stackM v 0 [])
theorem fine_of {l : List Val} (h : checkM l = 0) : Fine l := by
  obtain ⟨h1, h2, h3, h4⟩ := checkM_zero h
  have hp : 0 < l.length := List.length_pos_iff.2 h2
  refine ⟨h1, nodup_of h4, l[0], List.getElem?_eq_getElem hp, ?_⟩
  have hv : l[0]? = some l[0] := List.getElem?_eq_getElem hp
  have h3' : shapeGo l 0 [] (l.drop 0) = true := h3
  obtain ⟨o', g1, g2, g3⟩ := shape_at h3' hv
  unfold nextM at g1
  rw [if_pos rfl] at g1
  split at g1
  · rename_i c
    simp only [Option.some.injEq] at g1
    subst g1
    refine ⟨c.1, c.2, g2, goes_mk g3 (by omega) (by omega) ?_ ?_⟩
    · unfold stackM; split <;> simp
    · intro x hx; unfold stackM at hx; split at hx <;> simp at hx; omega
  · cases g1

/-- The value's kind by its array's or object's. -/
theorem stack_arr {v : Val} {k : Nat} {o : List Nat} (h : v.kind = 5 ∨ v.kind = 6) : stackM v k o = o ++ [k] := by unfold stackM; rw [if_pos h]
theorem stack_not {v : Val} {k : Nat} {o : List Nat} (h : v.kind < 5) : stackM v k o = o := by unfold stackM; rw [if_neg (by omega)]

theorem getM_non {l : List Val} {i : Int} {name : Bytes} (h : ∀ (j : Nat) (v : Val), l[j]? = some v → ¬ (v.parent = i ∧ v.name = name)) : getM l i name = none := by
  unfold getM
  rw [List.findIdx?_eq_none_iff]
  intro v hv
  obtain ⟨j, hj, rfl⟩ := List.mem_iff_getElem.1 hv
  simpa using h j _ (List.getElem?_eq_getElem hj)

/-- What goes on between two that stand in i: a value's text does. -/
def ValBack (f : Nat) (l : List Val) : Prop := ∀ (i : Nat) (v : Val) (b : List Nat) (p : Nat), Goes l i (b ++ [p]) → l[i]? = some v → v.parent = (p : Int) → 2 * (l.length - i) < f →
  Goes l (valW f l i).2 (b ++ [p]) ∧ i < (valW f l i).2 ∧ (∀ (j : Nat) (w : Val), i < j → j < (valW f l i).2 → l[j]? = some w → (i : Int) ≤ w.parent) ∧
    ∀ g rest, 3 * (valW f l i).1.length ≤ g + 2 → Rok rest → valueM g ((valW f l i).1 ++ rest) (l.take i) (b.length + 1) v.name p = .ok (rest, l.take (valW f l i).2)
def LoopBack (f : Nat) (l : List Val) : Prop := ∀ (k i : Nat) (b : List Nat) (obj : Bool), Goes l k (b ++ [i]) → i < k → (∀ (j : Nat) (w : Val), i < j → j < k → l[j]? = some w → (i : Int) ≤ w.parent) → (l.getD i v0).kind = (if obj then 6 else 5) → 2 * (l.length - k) + 1 < f →
  Goes l (loopW f l k i obj true).2 b ∧ k ≤ (loopW f l k i obj true).2 ∧ (∀ (j : Nat) (w : Val), i < j → j < (loopW f l k i obj true).2 → l[j]? = some w → (i : Int) ≤ w.parent) ∧
    (∀ v, l[k]? = some v → v.parent = (i : Int) → (∃ c t, (loopW f l k i obj true).1 = c :: t ∧ isBlank c = false ∧ c ≠ endB obj) ∧
      ∀ g rest, 3 * (loopW f l k i obj true).1.length + 2 ≤ g → loopM g ((loopW f l k i obj true).1 ++ endB obj :: rest) (l.take k) b.length i (endB obj) = .ok (rest, l.take (loopW f l k i obj true).2))

theorem many_back {l : List Val} {f : Nat} (hL : LoopBack f l) {i : Nat} {b : List Nat} {obj : Bool} (hG : Goes l (i + 1) (b ++ [i])) (hk : (l.getD i v0).kind = (if obj then 6 else 5)) (hf : 2 * (l.length - (i + 1)) + 1 < f) :
    Goes l (loopW f l (i + 1) i obj true).2 b ∧ i + 1 ≤ (loopW f l (i + 1) i obj true).2 ∧ (∀ (j : Nat) (w : Val), i < j → j < (loopW f l (i + 1) i obj true).2 → l[j]? = some w → (i : Int) ≤ w.parent) ∧
      ∀ g rest, 3 * (loopW f l (i + 1) i obj true).1.length + 3 ≤ g → manyM g ((loopW f l (i + 1) i obj true).1 ++ endB obj :: rest) (l.take (i + 1)) b.length i (endB obj) = .ok (rest, l.take (loopW f l (i + 1) i obj true).2) := by
  obtain ⟨h1, h2, h3, h4⟩ := hL (i + 1) i b obj hG (by omega) (fun j w h1 h2 => by omega) hk hf
  refine ⟨h1, h2, h3, fun g rest hg => ?_⟩
  obtain ⟨g, rfl⟩ : ∃ m, g = m + 1 := ⟨g - 1, by omega⟩
  by_cases hc : ∃ v, l[i + 1]? = some v ∧ v.parent = (i : Int)
  · obtain ⟨v, hv, hp⟩ := hc
    obtain ⟨⟨c, t, e, hb, hne⟩, h5⟩ := h4 v hv hp
    have h6 := h5 g rest (by omega)
    rw [e] at h6 ⊢
    simp only [List.cons_append] at h6 ⊢
    simp only [manyM, skip_not hb]
    rw [if_neg hne]; exact h6
  · have hn : ∀ v, l[i + 1]? = some v → v.parent ≠ (i : Int) := fun v hv hp => hc ⟨v, hv, hp⟩
    rw [loopW_none hn f obj true]
    simp only [List.nil_append]
    simp only [manyM, skip_not (endB_blank obj).1]
    rw [if_pos trivial]

theorem kind_at {l : List Val} {i : Nat} {v : Val} (hv : l[i]? = some v) : (l.getD i v0) = v := by rw [List.getD_eq_getElem?_getD, hv]; rfl
theorem take_snoc {l : List Val} {i : Nat} {v : Val} (hv : l[i]? = some v) : l.take i ++ [v] = l.take (i + 1) := by rw [List.take_add_one, hv]; rfl

theorem backs {l : List Val} (hF : Fine l) (f : Nat) : ValBack f l ∧ LoopBack f l := by
  induction f with
  | zero => exact ⟨fun i v b p _ _ _ h => by omega, fun k i b obj _ _ _ _ h => by omega⟩
  | succ f ih =>
    obtain ⟨ih1, ih2⟩ := ih
    have hfew := hF.few
    refine ⟨fun i v b p hG hv hp hf => ?_, fun k i b obj hG hik hin hk hf => ?_⟩
    · have hil := (List.getElem?_eq_some_iff.1 hv).1
      obtain ⟨h1, h16, hname, hG2⟩ := hG.at hv hp
      have hlen : (l.take i).length = i := by rw [List.length_take]; omega
      by_cases hk5 : v.kind < 5
      · rw [valW_scal hv hk5 f]
        rw [stack_not hk5] at hG2
        refine ⟨hG2, by simp, fun j w h1 h2 => by simp only at h2; omega, fun g rest hg hr => ?_⟩
        obtain ⟨g, rfl⟩ : ∃ m, g = m + 1 := ⟨g - 1, by obtain ⟨c, t, e, _⟩ := scal_head h1 hk5; rw [e] at hg; simp at hg; omega⟩
        rw [← hp]
        dsimp only
        rw [value_scal h1 hk5 g (by rw [hlen]; omega) h16 hr, take_snoc hv]
      · have h6 := (one_form h1).1
        rw [stack_arr (by omega)] at hG2
        have htext := (one_form h1).2.2.2.2 (by omega) (by omega)
        by_cases k5 : v.kind = 5
        · obtain ⟨m1, m2, m3, m4⟩ := many_back (obj := false) ih2 hG2 (by rw [kind_at hv]; simpa using k5) (by omega)
          rw [valW_arr hv k5 f]
          refine ⟨m1, by simp only; omega, m3, fun g rest hg hr => ?_⟩
          simp only [List.length_append, List.length_cons, List.length_nil] at hg
          obtain ⟨g, rfl⟩ : ∃ m, g = m + 1 := ⟨g - 1, by omega⟩
          have e : ([91] ++ (loopW f l (i + 1) i false true).1 ++ [93] ++ rest : Bytes) = 91 :: ((loopW f l (i + 1) i false true).1 ++ endB false :: rest) := by simp [endB]
          dsimp only
          rw [e, valueM_cons (by decide) g _ _ _ _ (by rw [hlen]; omega) h16, if_neg (by decide), if_neg (by decide), if_neg (by decide), if_neg (by decide), if_neg (by decide), if_pos rfl, hlen]
          have hvv : (⟨(p : Int), 5, v.name, []⟩ : Val) = v := by rw [← hp]; exact val_eta k5 htext
          rw [hvv, take_snoc hv]
          have := m4 g rest (by omega)
          simp only [List.length_append, List.length_cons, List.length_nil, Nat.zero_add] at this
          exact this
        · have k6 : v.kind = 6 := by omega
          obtain ⟨m1, m2, m3, m4⟩ := many_back (obj := true) ih2 hG2 (by rw [kind_at hv]; simpa using k6) (by omega)
          rw [valW_obj hv k6 f]
          refine ⟨m1, by simp only; omega, m3, fun g rest hg hr => ?_⟩
          simp only [List.length_append, List.length_cons, List.length_nil] at hg
          obtain ⟨g, rfl⟩ : ∃ m, g = m + 1 := ⟨g - 1, by omega⟩
          have e : ([123] ++ (loopW f l (i + 1) i true true).1 ++ [125] ++ rest : Bytes) = 123 :: ((loopW f l (i + 1) i true true).1 ++ endB true :: rest) := by simp [endB]
          dsimp only
          rw [e, valueM_cons (by decide) g _ _ _ _ (by rw [hlen]; omega) h16, if_neg (by decide), if_neg (by decide), if_neg (by decide), if_neg (by decide), if_neg (by decide), if_neg (by decide), if_pos rfl, hlen]
          have hvv : (⟨(p : Int), 6, v.name, []⟩ : Val) = v := by rw [← hp]; exact val_eta k6 htext
          rw [hvv, take_snoc hv]
          have := m4 g rest (by omega)
          simp only [List.length_append, List.length_cons, List.length_nil, Nat.zero_add] at this
          exact this
    · by_cases hc : ∃ v, l[k]? = some v ∧ v.parent = (i : Int)
      · obtain ⟨v, hv, hp⟩ := hc
        have hkl := (List.getElem?_eq_some_iff.1 hv).1
        obtain ⟨h1, h16, hname, _⟩ := hG.at hv hp
        obtain ⟨a1, a2, a3, a4⟩ := ih1 k v b i hG hv hp (by omega)
        have hin2 : ∀ (j : Nat) (w : Val), i < j → j < (valW f l k).2 → l[j]? = some w → (i : Int) ≤ w.parent := by
          intro j w j1 j2 jw
          by_cases c1 : j < k
          · exact hin j w j1 c1 jw
          by_cases c2 : j = k
          · subst c2; rw [hv] at jw; simp only [Option.some.injEq] at jw; subst jw; omega
          · have := a3 j w (by omega) j2 jw; omega
        obtain ⟨b1, b2, b3, b4⟩ := ih2 (valW f l k).2 i b obj a1 (by omega) hin2 hk (by omega)
        obtain ⟨f', hf'⟩ : ∃ m, f = m + 1 := ⟨f - 1, by omega⟩
        -- the rest of the loop, behind a comma where there is one
        obtain ⟨k', hk'⟩ : ∃ k', (valW f l k).2 = k' := ⟨_, rfl⟩
        obtain ⟨T, hT⟩ : ∃ T, (valW f l k).1 = T := ⟨_, rfl⟩
        have hhead := valW_head hv h1 f'
        rw [← hf'] at hhead
        rw [loopW_some hv hp f obj true]
        rw [hT] at hhead
        rw [hk'] at a1 a2 a4 b1 b2 b3 b4 hin2
        rw [hT] at a4
        rw [hT, hk']
        have hfalse : (loopW f l k' i obj false).2 = (loopW f l k' i obj true).2 := by
          by_cases hc : ∃ v, l[k']? = some v ∧ v.parent = (i : Int)
          · obtain ⟨v', hv', hp'⟩ := hc
            rw [hf', loopW_comma hv' hp']
          · have hn : ∀ v, l[k']? = some v → v.parent ≠ (i : Int) := fun v hv hp => hc ⟨v, hv, hp⟩
            rw [loopW_none hn, loopW_none hn]
        have hq := quoteM_cons v.name
        have hfirst : ∃ c t, (if obj = true then quoteM v.name ++ [58] else []) ++ T = c :: t ∧ isBlank c = false ∧ c ≠ endB obj := by
          cases obj with
          | true => rw [if_pos rfl, hq]; exact ⟨34, _, rfl, by decide, by decide⟩
          | false =>
            obtain ⟨c, t, e, hb, n93, n125, _⟩ := hhead
            exact ⟨c, t, by simp [e], hb, n93⟩
        simp only [if_true, List.nil_append]
        rw [hfalse]
        refine ⟨b1, by omega, b3, fun v' hv' hp' => ?_⟩
        have hT1 : 1 ≤ T.length := by obtain ⟨c, t, e, _⟩ := hhead; rw [e]; simp
        obtain rfl : v = v' := by rw [hv] at hv'; simpa using hv'
        refine ⟨?_, fun g rest hg => ?_⟩
        · obtain ⟨c, t, e, hb, hne⟩ := hfirst
          exact ⟨c, t ++ (loopW f l k' i obj false).1, by rw [e]; rfl, hb, hne⟩
        obtain ⟨g, rfl⟩ : ∃ m, g = m + 1 := ⟨g - 1, by omega⟩
        simp only [List.length_append] at hg
        have htail : Rok ((loopW f l k' i obj false).1 ++ endB obj :: rest) ∧
            (match skip ((loopW f l k' i obj false).1 ++ endB obj :: rest) with
              | [] => (Except.error 4 : Res)
              | c :: t => if c = 44 then loopM g t (l.take k') b.length i (endB obj) else if c = endB obj then .ok (t, l.take k') else .error 4) = .ok (rest, l.take (loopW f l k' i obj true).2) := by
          by_cases hc : ∃ v, l[k']? = some v ∧ v.parent = (i : Int)
          · obtain ⟨v', hv', hp'⟩ := hc
            have hcl := congrArg (fun x => x.1.length) (loopW_comma (l := l) hv' hp' f' obj)
            simp only [← hf', List.length_cons] at hcl
            have h5 := (b4 v' hv' hp').2 g rest (by omega)
            rw [hf'] at h5 ⊢
            rw [loopW_comma hv' hp']
            simp only [List.cons_append]
            refine ⟨fun c t e => ?_, ?_⟩
            · simp only [List.cons.injEq] at e; rw [← e.1]; decide
            · rw [skip_not (by decide)]
              dsimp only
              rw [if_pos rfl]; exact h5
          · have hn : ∀ v, l[k']? = some v → v.parent ≠ (i : Int) := fun v hv hp => hc ⟨v, hv, hp⟩
            rw [loopW_none hn, loopW_none hn]
            simp only [List.nil_append]
            refine ⟨fun c t e => ?_, ?_⟩
            · simp only [List.cons.injEq] at e; rw [← e.1]; exact (endB_blank obj).2.2
            · rw [skip_not (endB_blank obj).1]
              dsimp only
              rw [if_neg (endB_blank obj).2.1, if_pos rfl]
        have h4 := a4 g ((loopW f l k' i obj false).1 ++ endB obj :: rest) (by omega) htail.1
        cases obj with
        | true =>
          have hgm : getM (l.take k) (i : Int) v.name = none := by
            refine getM_non (fun j w hw hh => ?_)
            have hjk : j < k := by
              have := (List.getElem?_eq_some_iff.1 hw).1
              rw [List.length_take] at this; omega
            rw [List.getElem?_take, if_pos hjk] at hw
            have hj1 : 1 ≤ j := by
              rcases Nat.eq_zero_or_pos j with h | h
              · subst h
                obtain ⟨r, hr, hr2, _⟩ := hF.root
                rw [hw] at hr; simp only [Option.some.injEq] at hr; subst hr; omega
              · exact h
            refine hF.dup j k w v hj1 hjk hw hv (by rw [hh.1, hp]) ?_ hh.2
            rw [hp, Int.toNat_natCast, hk]; rfl
          simp only [if_true]
          have hqb := quoted_back (one_form h1).2.1 (58 :: (T ++ ((loopW f l k' i true false).1 ++ endB true :: rest)))
          have e : (quoteM v.name ++ [58] ++ T ++ (loopW f l k' i true false).1 ++ endB true :: rest : Bytes) = quoteM v.name ++ (58 :: (T ++ ((loopW f l k' i true false).1 ++ endB true :: rest))) := by simp
          rw [e]
          simp only [loopM]
          rw [if_pos (by rfl), hqb]
          dsimp only
          rw [skip_not (by decide)]
          dsimp only
          rw [if_pos rfl, hgm]
          dsimp only
          rw [h4]
          dsimp only
          exact htail.2
        | false =>
          have hnm : v.name = [] := by
            by_cases c : v.name = []
            · exact c
            · have := hname c; rw [hk] at this; simp at this
          simp only [Bool.false_eq_true, if_false, List.nil_append]
          rw [List.append_assoc]
          simp only [loopM]
          rw [if_neg (by decide)]
          dsimp only
          rw [hnm] at h4
          rw [h4]
          dsimp only
          exact htail.2
      · have hn : ∀ v, l[k]? = some v → v.parent ≠ (i : Int) := fun v hv hp => hc ⟨v, hv, hp⟩
        rw [loopW_none hn]
        exact ⟨hG.up hn, Nat.le_refl _, fun j w h1 h2 => hin j w h1 h2, fun v hv hp => absurd hp (hn v hv)⟩

/-- Behind all of them. -/
theorem goes_end {l : List Val} {k : Nat} (h : Goes l k []) : k = l.length := by
  rcases Nat.lt_or_ge k l.length with hlt | hge
  · obtain ⟨_, _, p, hp, _⟩ := h.go l[k] (List.getElem?_eq_getElem hlt)
    cases hp
  · have := h.le; omega
theorem text_back {l : List Val} (h : checkM l = 0) {f : Nat} (hf : 2 * l.length < f) : (valW f l 0).2 = l.length ∧ (∀ (j : Nat) (w : Val), 0 < j → l[j]? = some w → 0 ≤ w.parent) ∧ ∀ g rest, 3 * (valW f l 0).1.length ≤ g + 2 → Rok rest → valueM g ((valW f l 0).1 ++ rest) [] 0 [] (-1) = .ok (rest, l) := by
  have hF := fine_of h
  obtain ⟨v, hv, hp, hn, h1, hG⟩ := hF.root
  have hfew := hF.few
  have hl : 0 < l.length := (List.getElem?_eq_some_iff.1 hv).1
  obtain ⟨f, rfl⟩ : ∃ m, f = m + 1 := ⟨f - 1, by omega⟩
  obtain ⟨ih1, ih2⟩ := backs hF f
  have ht : l.take 1 = [v] := by
    have := take_snoc (l := l) (i := 0) hv
    simpa using this.symm
  by_cases hk5 : v.kind < 5
  · rw [stack_not hk5] at hG
    rw [valW_scal hv hk5 f]
    have e := goes_end hG
    refine ⟨e, fun j w hj hw => ?_, fun g rest hg hr => ?_⟩
    · have := (List.getElem?_eq_some_iff.1 hw).1; omega
    obtain ⟨g, rfl⟩ : ∃ m, g = m + 1 := ⟨g - 1, by obtain ⟨c, t, e, _⟩ := scal_head h1 hk5; rw [e] at hg; simp at hg; omega⟩
    have := value_scal h1 hk5 g (l := []) (nest := 0) (by simp) (by omega) hr
    rw [hp, hn] at this
    dsimp only
    rw [this]
    rw [List.nil_append, ← ht, e, List.take_length]
  · have h6 := (one_form h1).1
    rw [stack_arr (by omega)] at hG
    have hG' : Goes l (0 + 1) ([] ++ [0]) := hG
    have htext := (one_form h1).2.2.2.2 (by omega) (by omega)
    by_cases k5 : v.kind = 5
    · obtain ⟨m1, m2, m3, m4⟩ := many_back (obj := false) ih2 hG' (by rw [kind_at hv]; simpa using k5) (by omega)
      rw [valW_arr hv k5 f]
      have e := goes_end m1
      refine ⟨e, fun j w hj hw => m3 j w hj (by rw [e]; exact (List.getElem?_eq_some_iff.1 hw).1) hw, fun g rest hg hr => ?_⟩
      simp only [List.length_append, List.length_cons, List.length_nil] at hg
      obtain ⟨g, rfl⟩ : ∃ m, g = m + 1 := ⟨g - 1, by omega⟩
      have e2 : ([91] ++ (loopW f l (0 + 1) 0 false true).1 ++ [93] ++ rest : Bytes) = 91 :: ((loopW f l (0 + 1) 0 false true).1 ++ endB false :: rest) := by simp [endB]
      dsimp only
      rw [e2, valueM_cons (by decide) g _ _ _ _ (by simp) (by omega), if_neg (by decide), if_neg (by decide), if_neg (by decide), if_neg (by decide), if_neg (by decide), if_pos rfl]
      have hvv : (⟨-1, 5, [], []⟩ : Val) = v := by have := val_eta k5 htext; rw [hp, hn] at this; exact this
      have := m4 g rest (by omega)
      rw [e, List.take_length] at this
      rw [hvv, List.nil_append, ← ht]
      exact this
    · have k6 : v.kind = 6 := by omega
      obtain ⟨m1, m2, m3, m4⟩ := many_back (obj := true) ih2 hG' (by rw [kind_at hv]; simpa using k6) (by omega)
      rw [valW_obj hv k6 f]
      have e := goes_end m1
      refine ⟨e, fun j w hj hw => m3 j w hj (by rw [e]; exact (List.getElem?_eq_some_iff.1 hw).1) hw, fun g rest hg hr => ?_⟩
      simp only [List.length_append, List.length_cons, List.length_nil] at hg
      obtain ⟨g, rfl⟩ : ∃ m, g = m + 1 := ⟨g - 1, by omega⟩
      have e2 : ([123] ++ (loopW f l (0 + 1) 0 true true).1 ++ [125] ++ rest : Bytes) = 123 :: ((loopW f l (0 + 1) 0 true true).1 ++ endB true :: rest) := by simp [endB]
      dsimp only
      rw [e2, valueM_cons (by decide) g _ _ _ _ (by simp) (by omega), if_neg (by decide), if_neg (by decide), if_neg (by decide), if_neg (by decide), if_neg (by decide), if_neg (by decide), if_pos rfl]
      have hvv : (⟨-1, 6, [], []⟩ : Val) = v := by have := val_eta k6 htext; rw [hp, hn] at this; exact this
      have := m4 g rest (by omega)
      rw [e, List.take_length] at this
      rw [hvv, List.nil_append, ← ht]
      exact this
theorem text_room {l : List Val} (h : checkM l = 0) : (textM l).length ≤ wt l := by
  obtain ⟨_, h2, _⟩ := checkM_zero h
  have hp : 0 < l.length := List.length_pos_iff.2 h2
  obtain ⟨_, _, h3⟩ := (writes_len (2 * l.length + 1)).1 l 0 l[0] (List.getElem?_eq_getElem hp) (by omega)
  rw [List.drop_zero] at h3
  unfold textM
  omega
theorem skip_app {ws : Bytes} (h : ∀ c ∈ ws, isBlank c = true) (s : Bytes) : skip (ws ++ s) = skip s := by
  unfold skip
  induction ws with
  | nil => rfl
  | cons a ws ih =>
    rw [List.cons_append, List.dropWhile_cons_of_pos (h a (by simp))]
    exact ih (fun c hc => h c (by simp [hc]))
theorem valueM_skip {ws : Bytes} (h : ∀ c ∈ ws, isBlank c = true) (f : Nat) (s : Bytes) (l : List Val) (nest : Nat) (name : Bytes) (parent : Int) : valueM f (ws ++ s) l nest name parent = valueM f s l nest name parent := by
  cases f with
  | zero => simp only [valueM]
  | succ f =>
    simp only [valueM, skip_app h]
theorem blank_num : ∀ c : UInt8, isBlank c = true → isNum c = false := by
  have h : ∀ n : Fin 256, isBlank (UInt8.ofNat n.val) = true → isNum (UInt8.ofNat n.val) = false := by decide +kernel
  intro c hc
  have := h ⟨c.toNat, c.toNat_lt⟩
  simp only [UInt8.ofNat_toNat] at this
  exact this hc
/-- What is written is read as it was, between blanks too. -/
theorem read_back {l : List Val} (h : checkM l = 0) {a b : Bytes} (ha : ∀ c ∈ a, isBlank c = true) (hb : ∀ c ∈ b, isBlank c = true) (hl : (a ++ textM l ++ b).length ≤ 65536) : readM (a ++ textM l ++ b) = .ok l := by
  have hr : Rok b := fun c t e => blank_num c (hb c (by rw [e]; simp))
  have h2 := (text_back h (f := 2 * l.length + 1) (by omega)).2.2 (3 * (a ++ textM l ++ b).length + 1) b (by
    show 3 * (textM l).length ≤ _
    simp only [List.length_append]; omega) hr
  unfold readM
  rw [if_neg (by omega)]
  rw [List.append_assoc] at hl h2 ⊢
  rw [valueM_skip ha]
  have e : valueM (3 * (a ++ (textM l ++ b)).length + 1) (textM l ++ b) [] 0 [] (-1) = .ok (b, l) := h2
  rw [e]
  dsimp only
  have := skip_app hb []
  rw [List.append_nil] at this
  rw [this]; rfl
end Go.Proofs.YtcdeikhfmllkdaaGreatDoor
