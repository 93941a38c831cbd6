/- What a map holds, as a list of keys and elements, each key once: how a store, a delete and a look-up read there. Plain: no program. -/
import Derived.Maps.OwnSet
import Derived.Maps.RangeWalk
set_option linter.unusedVariables false
namespace Go.Proofs.YtgphhjghodhodaaMp
open Go Go.Maps

section
variable {κ α : Type} [DecidableEq κ]

def kvLook (B : List (κ × α)) (k : κ) : Option α := (B.find? (fun x => decide (x.1 = k))).map (·.2)

def putB (B : List (κ × α)) (k : κ) (a : α) : List (κ × α) :=
  if (kvLook B k).isSome then B.map (fun x => if x.1 = k then (k, a) else x) else B ++ [(k, a)]

def NoTwice (B : List (κ × α)) : Prop := B.Pairwise (fun x y => x.1 ≠ y.1)

theorem kvLook_nil (k : κ) : kvLook ([] : List (κ × α)) k = none := rfl

theorem kvLook_cons (x : κ × α) (B : List (κ × α)) (k : κ) : kvLook (x :: B) k = if x.1 = k then some x.2 else kvLook B k := by
  unfold kvLook
  rw [List.find?_cons]
  by_cases h : x.1 = k <;> simp [h]

theorem kvLook_append (B C : List (κ × α)) (k : κ) : kvLook (B ++ C) k = (kvLook B k).or (kvLook C k) := by
  induction B with
  | nil => simp [kvLook_nil]
  | cons x B ih => rw [List.cons_append, kvLook_cons, kvLook_cons, ih]; split <;> simp

theorem kvLook_none_iff (B : List (κ × α)) (k : κ) : kvLook B k = none ↔ ∀ x ∈ B, x.1 ≠ k := by
  induction B with
  | nil => simp [kvLook_nil]
  | cons x B ih =>
    rw [kvLook_cons]
    by_cases h : x.1 = k
    · simp [h]
    · simp [h, ih]

theorem kvLook_some_mem {B : List (κ × α)} {k : κ} {a : α} (h : kvLook B k = some a) : (k, a) ∈ B := by
  induction B with
  | nil => simp [kvLook_nil] at h
  | cons x B ih =>
    rw [kvLook_cons] at h
    by_cases hx : x.1 = k
    · rw [if_pos hx] at h
      cases h
      cases x
      simp at hx
      simp [hx]
    · rw [if_neg hx] at h
      simp [ih h]

theorem mem_kvLook {B : List (κ × α)} (hB : NoTwice B) {x : κ × α} (hx : x ∈ B) : kvLook B x.1 = some x.2 := by
  induction B with
  | nil => simp at hx
  | cons y B ih =>
    obtain ⟨h1, h2⟩ := List.pairwise_cons.1 hB
    rw [kvLook_cons]
    rcases List.mem_cons.1 hx with rfl | hx
    · simp
    · rw [if_neg (h1 x hx), ih h2 hx]

theorem kvLook_map_put (B : List (κ × α)) (k k' : κ) (a : α) : kvLook (B.map (fun x => if x.1 = k then (k, a) else x)) k' = if k' = k then (kvLook B k).map (fun _ => a) else kvLook B k' := by
  induction B with
  | nil => by_cases h : k' = k <;> simp [kvLook_nil, h]
  | cons x B ih =>
    rw [List.map_cons, kvLook_cons, kvLook_cons, kvLook_cons, ih]
    by_cases hx : x.1 = k
    · by_cases h : k' = k
      · simp [hx, h]
      · have : k ≠ k' := fun e => h e.symm
        simp [hx, h, this]
    · by_cases h : k' = k
      · subst h; simp [hx]
      · simp [hx, h]

theorem kvLook_putB (B : List (κ × α)) (k k' : κ) (a : α) : kvLook (putB B k a) k' = if k' = k then some a else kvLook B k' := by
  unfold putB
  cases hk : kvLook B k with
  | some b => simp only [Option.isSome_some, if_true]; rw [kvLook_map_put]; simp [hk]
  | none =>
    simp only [Option.isSome_none, Bool.false_eq_true, if_false]
    rw [kvLook_append, kvLook_cons, kvLook_nil]
    by_cases h : k' = k
    · subst h; simp [hk]
    · have : k ≠ k' := fun e => h e.symm
      simp [h, this]

theorem noTwice_map_put {B : List (κ × α)} (hB : NoTwice B) (k : κ) (a : α) : NoTwice (B.map (fun x => if x.1 = k then (k, a) else x)) := by
  unfold NoTwice
  rw [List.pairwise_map]
  refine hB.imp fun {x y} h => ?_
  have e : ∀ z : κ × α, (if z.1 = k then (k, a) else z).1 = z.1 := fun z => by split <;> simp_all
  rw [e, e]
  exact h

theorem noTwice_putB {B : List (κ × α)} (hB : NoTwice B) (k : κ) (a : α) : NoTwice (putB B k a) := by
  unfold putB
  cases hk : kvLook B k with
  | some b => exact noTwice_map_put hB k a
  | none =>
    simp only [Option.isSome_none, Bool.false_eq_true, if_false]
    unfold NoTwice
    rw [List.pairwise_append]
    refine ⟨hB, by simp, fun x hx y hy => ?_⟩
    simp at hy
    subst hy
    exact (kvLook_none_iff B k).1 hk x hx

theorem length_putB (B : List (κ × α)) (k : κ) (a : α) : (putB B k a).length = if (kvLook B k).isSome then B.length else B.length + 1 := by
  unfold putB
  split <;> simp

theorem kvLook_filter_key {B : List (κ × α)} (hB : NoTwice B) (f : κ × α → Bool) (k : κ) : kvLook (B.filter f) k = (kvLook B k).bind (fun a => if f (k, a) then some a else none) := by
  induction B with
  | nil => simp [kvLook_nil]
  | cons x B ih =>
    obtain ⟨h1, h2⟩ := List.pairwise_cons.1 hB
    rw [List.filter_cons, kvLook_cons]
    by_cases hx : x.1 = k
    · have hn : kvLook B k = none := (kvLook_none_iff B k).2 (fun y hy => by rw [← hx]; exact (h1 y hy).symm)
      cases x with
      | mk xk xa =>
        simp at hx
        subst hx
        by_cases hf : f (xk, xa) = true
        · simp [hf, kvLook_cons]
        · have hf' : f (xk, xa) = false := by simpa using hf
          simp only [hf', Bool.false_eq_true, if_false, if_true]
          rw [ih h2, hn]
          simp [hf']
    · rw [if_neg hx]
      by_cases hf : f x = true
      · simp only [hf, if_true]
        rw [kvLook_cons, if_neg hx, ih h2]
      · simp only [hf]
        exact ih h2

variable (lit : κ → Lit) (dat : α → DataW Unit)

/-- The map's datum D holds just what the list B says. -/
structure MRep (D : DataW Unit) (B : List (κ × α)) : Prop where
  tidy : Tidy D
  once : NoTwice B
  size : Maps.size D = B.length
  miss : ∀ k, kvLook B k = none → Maps.has D (lit k) = false
  hit : ∀ k a, kvLook B k = some a → Maps.has D (lit k) = true ∧ ∀ z, D.atKey (lit k) z = dat a

/-- The way keys are spelled. -/
structure KeyWay : Prop where
  inj : ∀ a b, lit a = lit b → a = b
  key : ∀ a, WideAt.IsKeyLit (lit a)

variable {lit dat}

theorem MRep.has_iff {D : DataW Unit} {B : List (κ × α)} (h : MRep lit dat D B) (k : κ) : Maps.has D (lit k) = (kvLook B k).isSome := by
  cases hk : kvLook B k with
  | none => simpa using h.miss k hk
  | some a => simpa using (h.hit k a hk).1

theorem MRep.empty : MRep lit dat (.map []) ([] : List (κ × α)) :=
  ⟨tidy_empty, List.Pairwise.nil, rfl, fun k _ => rfl, fun k a h => by simp [kvLook_nil] at h⟩

theorem MRep.put {D : DataW Unit} {B : List (κ × α)} (W : KeyWay lit) (h : MRep lit dat D B) (k : κ) (a : α) : MRep lit dat (D.put (lit k) (dat a)) (putB B k a) := by
  refine ⟨h.tidy.put (W.key k) _, noTwice_putB h.once k a, ?_, ?_, ?_⟩
  · rw [size_put h.tidy, h.has_iff, length_putB, h.size]
  · intro k' hk'
    rw [kvLook_putB] at hk'
    by_cases e : k' = k
    · simp [e] at hk'
    · rw [if_neg e] at hk'
      rw [has_put_other (fun e1 => e (W.inj _ _ e1))]
      exact h.miss k' hk'
  · intro k' b hk'
    rw [kvLook_putB] at hk'
    by_cases e : k' = k
    · rw [if_pos e] at hk'
      cases hk'
      subst e
      exact ⟨has_put_same h.tidy.isMap (W.key _) _, fun z => atKey_put_same h.tidy.isMap (W.key _) _ z⟩
    · rw [if_neg e] at hk'
      have h1 := h.hit k' b hk'
      have hne : lit k' ≠ lit k := fun e1 => e (W.inj _ _ e1)
      rw [has_put_other hne]
      exact ⟨h1.1, fun z => by rw [atKey_put_other hne]; exact h1.2 z⟩

theorem length_filter_ne {B : List (κ × α)} (hB : NoTwice B) (k : κ) : (B.filter (fun x => decide (x.1 ≠ k))).length + (if (kvLook B k).isSome then 1 else 0) = B.length := by
  induction B with
  | nil => simp [kvLook_nil]
  | cons x B ih =>
    obtain ⟨h1, h2⟩ := List.pairwise_cons.1 hB
    have ih := ih h2
    rw [kvLook_cons, List.filter_cons]
    by_cases hx : x.1 = k
    · have hn : kvLook B k = none := (kvLook_none_iff B k).2 (fun y hy => by rw [← hx]; exact (h1 y hy).symm)
      rw [hn] at ih
      simp [hx] at ih ⊢
      exact ih
    · simp [hx] at ih ⊢
      omega

theorem MRep.del {D : DataW Unit} {B : List (κ × α)} (W : KeyWay lit) (h : MRep lit dat D B) (k : κ) : MRep lit dat (D.del (lit k)) (B.filter (fun x => decide (x.1 ≠ k))) := by
  refine ⟨h.tidy.del _, h.once.filter _, ?_, ?_, ?_⟩
  · have h1 := size_del (k := lit k) h.tidy
    have h2 := length_filter_ne h.once k
    rw [h.has_iff, h.size] at h1
    omega
  · intro k' hk'
    by_cases e : k' = k
    · subst e; exact has_del_same
    · rw [has_del_other (fun e1 => e (W.inj _ _ e1))]
      apply h.miss
      rw [kvLook_filter_key h.once] at hk'
      cases hl : kvLook B k' with
      | none => rfl
      | some a => rw [hl] at hk'; simp [e] at hk'
  · intro k' a hk'
    rw [kvLook_filter_key h.once] at hk'
    cases hl : kvLook B k' with
    | none => rw [hl] at hk'; simp at hk'
    | some b =>
      rw [hl] at hk'
      by_cases e : k' = k
      · simp [e] at hk'
      · simp [e] at hk'
        subst hk'
        have hne : lit k' ≠ lit k := fun e1 => e (W.inj _ _ e1)
        have h1 := h.hit k' _ hl
        rw [has_del_other hne]
        exact ⟨h1.1, fun z => by rw [atKey_del_other hne]; exact h1.2 z⟩

/-- A range under way: those that a test keeps, or that are still to come. -/
def rest (B : List (κ × α)) (keep : κ × α → Bool) (left : Lit → Bool) (lit : κ → Lit) : List (κ × α) := B.filter (fun x => keep x || left (lit x.1))

theorem rest_start {D : DataW Unit} {B : List (κ × α)} (h : MRep lit dat D B) (keep : κ × α → Bool) : rest B keep (Maps.has D) lit = B := by
  unfold rest
  rw [List.filter_eq_self]
  intro x hx
  rw [h.has_iff, mem_kvLook h.once hx]
  simp

omit [DecidableEq κ] in
theorem rest_end (B : List (κ × α)) (keep : κ × α → Bool) {left : Lit → Bool} (hl : ∀ k, left k = false) : rest B keep left lit = B.filter keep := by
  unfold rest
  apply List.filter_congr
  intro x _
  simp [hl]

theorem rest_stays (B : List (κ × α)) (hB : NoTwice B) (W : KeyWay lit) (keep : κ × α → Bool) {left : Lit → Bool} {k : κ} {a : α} (hk : kvLook B k = some a) (hkeep : keep (k, a) = true) :
    rest B keep (fun z => left z && !z.sameKey (lit k)) lit = rest B keep left lit := by
  unfold rest
  apply List.filter_congr
  intro x hx
  by_cases e : x.1 = k
  · have h1 := mem_kvLook hB hx
    rw [e, hk] at h1
    cases h1
    have : x = (k, x.2) := by rw [← e]
    rw [this]; simp [hkeep]
  · have : (lit x.1).sameKey (lit k) = false := sameKey_ne (fun e1 => e (W.inj _ _ e1))
    simp [this]

theorem rest_struck (B : List (κ × α)) (hB : NoTwice B) (W : KeyWay lit) (keep : κ × α → Bool) {left : Lit → Bool} {k : κ} {a : α} (hk : kvLook B k = some a) (hkeep : keep (k, a) = false) :
    rest B keep (fun z => left z && !z.sameKey (lit k)) lit = (rest B keep left lit).filter (fun x => decide (x.1 ≠ k)) := by
  unfold rest
  rw [List.filter_filter]
  apply List.filter_congr
  intro x hx
  by_cases e : x.1 = k
  · have h1 := mem_kvLook hB hx
    rw [e, hk] at h1
    cases h1
    have : x = (k, x.2) := by rw [← e]
    rw [this]; simp [hkeep, WideAt.sameKey_self (W.key k)]
  · have : (lit x.1).sameKey (lit k) = false := sameKey_ne (fun e1 => e (W.inj _ _ e1))
    simp [this, e]

end
end Go.Proofs.YtgphhjghodhodaaMp
