/- What stands in a value is a value by itself. -/
import Derived.Test.YtbjidmijbphhgaaDoorBkD
namespace Go.Proofs.YtbjidmijbphhgaaDoor
open Go.RowKit
set_option linter.unusedVariables false
set_option linter.unusedSimpArgs false

/-- The value k, as it stands in the part that begins at i. -/
def shiftV (i k : Nat) (v : Val) : Val := if k = i then ⟨-1, v.kind, [], v.text⟩ else ⟨v.parent - i, v.kind, v.name, v.text⟩
theorem shift_kind (i k : Nat) (v : Val) : (shiftV i k v).kind = v.kind := by unfold shiftV; split <;> rfl
theorem shift_text (i k : Nat) (v : Val) : (shiftV i k v).text = v.text := by unfold shiftV; split <;> rfl
theorem shift_ne {i k : Nat} (h : k ≠ i) (v : Val) : shiftV i k v = ⟨v.parent - i, v.kind, v.name, v.text⟩ := by unfold shiftV; rw [if_neg h]
/-- The first n of the part that begins at i. -/
def partTo (l : List Val) (i n : Nat) : List Val := (List.range n).map fun d => shiftV i (i + d) (l.getD (i + d) v0)
theorem partTo_len (l : List Val) (i n : Nat) : (partTo l i n).length = n := by simp [partTo]
theorem partTo_at {l : List Val} {i n d : Nat} (hd : d < n) {v : Val} (hv : l[i + d]? = some v) : (partTo l i n)[d]? = some (shiftV i (i + d) v) := by
  simp [partTo, hd, List.getD_eq_getElem?_getD, hv]
theorem partTo_none {l : List Val} {i n d : Nat} (hd : n ≤ d) : (partTo l i n)[d]? = none := by
  rw [List.getElem?_eq_none]; rw [partTo_len]; exact hd
theorem partTo_succ (l : List Val) (i n : Nat) : partTo l i (n + 1) = partTo l i n ++ [shiftV i (i + n) (l.getD (i + n) v0)] := by
  simp [partTo, List.range_succ]

/-- What is asked of a part. -/
structure IsPart (l : List Val) (i n : Nat) : Prop where
  one : 1 ≤ n
  le : i + n ≤ l.length
  inn : ∀ (d : Nat) (w : Val), 1 ≤ d → d < n → l[i + d]? = some w → (i : Int) ≤ w.parent
  out : ∀ w, l[i + n]? = some w → w.parent < (i : Int)

/-- The part's text is the value's. -/
theorem part_text {l : List Val} {i n : Nat} (hP : IsPart l i n) (f : Nat) :
    (∀ d f', d < n → 2 * (l.length - (i + d)) < f → 2 * (n - d) < f' → valW f' (partTo l i n) d = ((valW f l (i + d)).1, (valW f l (i + d)).2 - i) ∧ i + d < (valW f l (i + d)).2 ∧ (valW f l (i + d)).2 ≤ i + n) ∧
    (∀ d m f' o fi, 1 ≤ d → d ≤ n → 2 * (l.length - (i + d)) + 1 < f → 2 * (n - d) + 1 < f' → loopW f' (partTo l i n) d m o fi = ((loopW f l (i + d) (i + m) o fi).1, (loopW f l (i + d) (i + m) o fi).2 - i) ∧ i + d ≤ (loopW f l (i + d) (i + m) o fi).2 ∧ (loopW f l (i + d) (i + m) o fi).2 ≤ i + n) := by
  induction f with
  | zero => exact ⟨fun d f' _ h => by omega, fun d m f' o fi _ _ h => by omega⟩
  | succ f ih =>
    obtain ⟨ih1, ih2⟩ := ih
    have hle := hP.le
    refine ⟨fun d f' hd hf hf' => ?_, fun d m f' o fi h1 hd hf hf' => ?_⟩
    · obtain ⟨f', rfl⟩ : ∃ m, f' = m + 1 := ⟨f' - 1, by omega⟩
      obtain ⟨v, hv⟩ : ∃ v, l[i + d]? = some v := ⟨_, List.getElem?_eq_getElem (show i + d < l.length by omega)⟩
      have hv' := partTo_at hd hv
      obtain ⟨a1, a2, a3⟩ := ih2 (d + 1) d f' false true (by omega) (by omega) (by omega) (by omega)
      obtain ⟨b1, b2, b3⟩ := ih2 (d + 1) d f' true true (by omega) (by omega) (by omega) (by omega)
      rw [valW, valW, hv, hv']
      dsimp only
      rw [shift_kind, shift_text]
      by_cases k0 : v.kind = 0
      · rw [if_pos k0, if_pos k0]; exact ⟨by simp only; congr 1; omega, by simp only; omega, by simp only; omega⟩
      rw [if_neg k0, if_neg k0]
      by_cases k1 : v.kind = 1
      · rw [if_pos k1, if_pos k1]; exact ⟨by simp only; congr 1; omega, by simp only; omega, by simp only; omega⟩
      rw [if_neg k1, if_neg k1]
      by_cases k2 : v.kind = 2
      · rw [if_pos k2, if_pos k2]; exact ⟨by simp only; congr 1; omega, by simp only; omega, by simp only; omega⟩
      rw [if_neg k2, if_neg k2]
      by_cases k3 : v.kind = 3
      · rw [if_pos k3, if_pos k3]; exact ⟨by simp only; congr 1; omega, by simp only; omega, by simp only; omega⟩
      rw [if_neg k3, if_neg k3]
      by_cases k4 : v.kind = 4
      · rw [if_pos k4, if_pos k4]; exact ⟨by simp only; congr 1; omega, by simp only; omega, by simp only; omega⟩
      rw [if_neg k4, if_neg k4]
      by_cases k5 : v.kind = 5
      · rw [if_pos k5, if_pos k5, a1]; exact ⟨rfl, Nat.lt_of_lt_of_le (show i + d < i + (d + 1) by omega) a2, a3⟩
      rw [if_neg k5, if_neg k5]
      by_cases k6 : v.kind = 6
      · rw [if_pos k6, if_pos k6, b1]; exact ⟨rfl, Nat.lt_of_lt_of_le (show i + d < i + (d + 1) by omega) b2, b3⟩
      rw [if_neg k6, if_neg k6]; exact ⟨by simp only; congr 1; omega, by simp only; omega, by simp only; omega⟩
    · obtain ⟨f', rfl⟩ : ∃ m, f' = m + 1 := ⟨f' - 1, by omega⟩
      by_cases hdn : d < n
      · obtain ⟨v, hv⟩ : ∃ v, l[i + d]? = some v := ⟨_, List.getElem?_eq_getElem (show i + d < l.length by omega)⟩
        have hv' := partTo_at hdn hv
        rw [shift_ne (by omega)] at hv'
        by_cases hp : v.parent = ((i + m : Nat) : Int)
        · have hp' : (⟨v.parent - i, v.kind, v.name, v.text⟩ : Val).parent = (m : Int) := by simp only; omega
          obtain ⟨a1, a2, a3⟩ := ih1 d f' hdn (by omega) (by omega)
          rw [loopW_some hv hp, loopW_some hv' hp']
          rw [a1]
          obtain ⟨d', hd'⟩ : ∃ d', (valW f l (i + d)).2 = i + d' := ⟨(valW f l (i + d)).2 - i, by omega⟩
          rw [hd'] at a2 a3 ⊢
          obtain ⟨b1, b2, b3⟩ := ih2 d' m f' o false (by omega) (by omega) (by omega) (by omega)
          simp only [Nat.add_sub_cancel_left]
          rw [b1]
          exact ⟨rfl, by omega, b3⟩
        · have hp' : ¬ (⟨v.parent - i, v.kind, v.name, v.text⟩ : Val).parent = (m : Int) := by simp only; omega
          rw [loopW_none (fun w hw hh => hp' (by rw [hv'] at hw; simp only [Option.some.injEq] at hw; rw [hw]; exact hh)), loopW_none (fun w hw hh => hp (by rw [hv] at hw; simp only [Option.some.injEq] at hw; rw [hw]; exact hh))]
          exact ⟨by simp only; congr 1; omega, by simp only; omega, by simp only; omega⟩
      · have hdn' : d = n := by omega
        subst hdn'
        rw [loopW_none (fun w hw => by rw [partTo_none (Nat.le_refl _)] at hw; cases hw), loopW_none (fun w hw hh => by have := hP.out w hw; omega)]
        exact ⟨by simp only; congr 1; omega, by simp only; omega, by simp only; omega⟩

/-! ### the part is right -/
theorem ixM_app {B o : List Nat} {i : Nat} {p : Int} (hB : ∀ x ∈ B, x < i) (ho : ∀ x ∈ o, i ≤ x) (hp : (i : Int) ≤ p) : ixM (B ++ o) p = (ixM (o.map (· - i)) (p - i)).map (B.length + ·) := by
  unfold ixM
  rw [List.findIdx?_append]
  have h1 : List.findIdx? (fun (x : Nat) => decide ((x : Int) = p)) B = none := by
    rw [List.findIdx?_eq_none_iff]
    intro x hx
    have := hB x hx
    simp; omega
  have h2 : List.findIdx? (fun (x : Nat) => decide ((x : Int) = p - i)) (o.map (· - i)) = List.findIdx? (fun (x : Nat) => decide ((x : Int) = p)) o := by
    rw [List.findIdx?_map]
    induction o with
    | nil => rfl
    | cons a o ih =>
      have ha := ho a (by simp)
      have hd : ((fun (x : Nat) => decide ((x : Int) = p - i)) ∘ (· - i)) a = decide ((a : Int) = p) := by
        simp only [Function.comp]
        by_cases c : (a : Int) = p
        · have : ((a - i : Nat) : Int) = p - i := by omega
          simp [c, this]
        · have : ¬ ((a - i : Nat) : Int) = p - i := by omega
          simp [c, this]
      rw [List.findIdx?_cons, List.findIdx?_cons, hd, ih (fun x hx => ho x (by simp [hx]))]
  rw [h1, h2]
  cases List.findIdx? (fun (x : Nat) => decide ((x : Int) = p)) o with
  | none => rfl
  | some k => simp [Nat.add_comm]
theorem part_shape {l : List Val} {i n : Nat} (hP : IsPart l i n) {B : List Nat} (hB : ∀ x ∈ B, x < i) : ∀ (m d : Nat) (o : List Nat), d + m = n → 1 ≤ d → (∀ x ∈ o, i ≤ x ∧ x < i + d) → shapeGo l (i + d) (B ++ o) (l.drop (i + d)) = true →
    shapeGo (partTo l i n) d (o.map (· - i)) ((partTo l i n).drop d) = true
  | 0, d, o, h, h1, ho, hs => by
    rw [List.drop_eq_nil_of_le (by rw [partTo_len]; omega)]; rfl
  | m + 1, d, o, h, h1, ho, hs => by
    have hle := hP.le
    obtain ⟨v, hv⟩ : ∃ v, l[i + d]? = some v := ⟨_, List.getElem?_eq_getElem (show i + d < l.length by omega)⟩
    have hv' := partTo_at (n := n) (show d < n by omega) hv
    have hin := hP.inn d v h1 (by omega) hv
    rw [shift_ne (by omega)] at hv'
    obtain ⟨o', g1, g2, g3⟩ := shape_at hs hv
    have hix := ixM_app (o := o) hB (fun x hx => (ho x hx).1) hin
    unfold nextM at g1
    rw [if_neg (by omega), hix] at g1
    cases hk : ixM (o.map (· - i)) (v.parent - i) with
    | none => rw [hk] at g1; cases g1
    | some k =>
      rw [hk] at g1
      simp only [Option.map_some] at g1
      obtain ⟨k1, q, k2, k3⟩ := ixM_mem' hk
      rw [List.length_map] at k1
      split at g1
      · cases g1
      rename_i c16
      split at g1
      · cases g1
      rename_i cn
      simp only [Option.some.injEq] at g1
      have hq : ∃ x, o[k]? = some x ∧ q = x - i := by
        rw [List.getElem?_map] at k2
        cases hx : o[k]? with
        | none => rw [hx] at k2; cases k2
        | some x => rw [hx] at k2; simp at k2; exact ⟨x, rfl, k2.symm⟩
      obtain ⟨x, hx, rfl⟩ := hq
      have hxo := ho x (List.mem_of_getElem? hx)
      have hgx : (B ++ o).getD (B.length + k) 0 = x := by
        rw [List.getD_eq_getElem?_getD, List.getElem?_append_right (by omega), Nat.add_sub_cancel_left, hx]; rfl
      have hgq : (o.map (· - i)).getD k 0 = x - i := by rw [List.getD_eq_getElem?_getD, k2]; rfl
      obtain ⟨w, hw⟩ : ∃ w, l[x]? = some w := ⟨_, List.getElem?_eq_getElem (show x < l.length by omega)⟩
      have hkind : ((partTo l i n).getD (x - i) ⟨0, 0, [], []⟩).kind = (l.getD x ⟨0, 0, [], []⟩).kind := by
        have := partTo_at (l := l) (i := i) (n := n) (d := x - i) (by omega) (v := w) (by rw [show i + (x - i) = x by omega]; exact hw)
        rw [List.getD_eq_getElem?_getD, this, List.getD_eq_getElem?_getD, hw, Option.getD_some, Option.getD_some, shift_kind]
      have htk : (B ++ o).take (B.length + k + 1) = B ++ o.take (k + 1) := by
        rw [Nat.add_assoc, List.take_append]
        congr 1
        · exact List.take_of_length_le (by omega)
        · rw [Nat.add_sub_cancel_left]
      rw [htk] at g1
      have hnext : nextM (partTo l i n) (o.map (· - i)) d ⟨v.parent - i, v.kind, v.name, v.text⟩ = some ((stackM v (i + d) (o.take (k + 1))).map (· - i)) := by
        unfold nextM
        rw [if_neg (by omega)]
        dsimp only
        rw [hk]
        dsimp only
        rw [if_neg (by omega), hgq, hkind]
        rw [hgx] at cn
        rw [if_neg cn]
        congr 1
        unfold stackM
        dsimp only
        split
        · rw [List.map_append, List.map_take]; simp
        · rw [List.map_take]
      rw [drop_at hv', shapeGo, hnext]
      dsimp only
      have hone : oneM ⟨v.parent - i, v.kind, v.name, v.text⟩ = oneM v := rfl
      rw [hone, g2, Bool.true_and]
      refine part_shape hP hB m (d + 1) (stackM v (i + d) (o.take (k + 1))) (by omega) (by omega) ?_ ?_
      · intro y hy
        unfold stackM at hy
        split at hy
        · rcases List.mem_append.1 hy with h' | h'
          · have := ho y (List.mem_of_mem_take h'); omega
          · simp at h'; omega
        · have := ho y (List.mem_of_mem_take hy); omega
      · rw [← g1] at g3
        have e : stackM v (i + d) (B ++ o.take (k + 1)) = B ++ stackM v (i + d) (o.take (k + 1)) := by
          unfold stackM; split
          · rw [List.append_assoc]
          · rfl
        rw [e] at g3
        exact g3
theorem part_check {l : List Val} (hF : Fine l) {i n p : Nat} {b : List Nat} {v : Val} (hP : IsPart l i n) (hG : Goes l i (b ++ [p])) (hv : l[i]? = some v) (hp : v.parent = (p : Int)) : checkM (partTo l i n) = 0 := by
  have hle := hP.le
  have h1 := hP.one
  have hfew := hF.few
  obtain ⟨ext, s1, _⟩ := hG.go v hv
  obtain ⟨o', g1, g2, g3⟩ := shape_at s1 hv
  have hi := hG.pos
  have hne := not_mem_last hG.inc
  have hix : ixM (b ++ [p] ++ ext) v.parent = some b.length := by
    rw [hp]
    refine ixM_some (by simp) (fun j hj hlt e => ?_) (by simp)
    have : (b ++ [p] ++ ext)[j] = b[j] := by rw [List.getElem_append_left (by simp; omega), List.getElem_append_left hlt]
    rw [this] at e
    exact hne b[j] (List.getElem_mem hlt) (by omega)
  unfold nextM at g1
  rw [if_neg (by omega), hix] at g1
  dsimp only at g1
  split at g1
  · cases g1
  split at g1
  · cases g1
  simp only [Option.some.injEq] at g1
  have ht : (b ++ [p] ++ ext).take (b.length + 1) = b ++ [p] := by
    rw [List.take_append_of_le_length (by simp), List.take_of_length_le (by simp)]
  rw [ht] at g1
  have e : stackM v i (b ++ [p]) = (b ++ [p]) ++ stackM v i [] := by
    unfold stackM; split <;> simp
  rw [e] at g1
  rw [← g1] at g3
  have hv' := partTo_at (n := n) (d := 0) (by omega) (v := v) (by simpa using hv)
  have hs0 : shiftV i (i + 0) v = ⟨-1, v.kind, [], v.text⟩ := by unfold shiftV; rw [if_pos (by omega)]
  rw [hs0] at hv'
  have hone : oneM ⟨-1, v.kind, [], v.text⟩ = true := by
    have hvd : Lib.validD ([] : Bytes) = true := rfl
    unfold oneM at g2 ⊢
    dsimp only
    split at g2
    · cases g2
    rename_i c1
    split at g2
    · cases g2
    rw [if_neg c1, if_neg (by rw [hvd]; simp)]
    exact g2
  have hshape : shapeGo (partTo l i n) 0 [] (partTo l i n) = true := by
    have e1 : partTo l i n = ⟨-1, v.kind, [], v.text⟩ :: (partTo l i n).drop 1 := by
      have := drop_at hv'
      rw [List.drop_zero] at this
      exact this
    have hnx : nextM (partTo l i n) [] 0 ⟨-1, v.kind, [], v.text⟩ = some (stackM v 0 []) := by
      unfold nextM
      rw [if_pos rfl, if_pos ⟨rfl, rfl⟩]; rfl
    have hst : (stackM v i []).map (· - i) = stackM v 0 [] := by unfold stackM; split <;> simp
    have := part_shape hP (B := b ++ [p]) hG.low (n - 1) 1 (stackM v i []) (by omega) (Nat.le_refl _) (by
      intro x hx
      unfold stackM at hx
      split at hx
      · simp at hx; omega
      · cases hx) g3
    rw [hst] at this
    have e2 : shapeGo (partTo l i n) 0 [] (⟨-1, v.kind, [], v.text⟩ :: (partTo l i n).drop 1) = true := by
      rw [shapeGo, hnx]
      dsimp only
      rw [hone, this]; rfl
    rw [← e1] at e2
    exact e2
  have hdup : NoDup (partTo l i n) := by
    intro j k vj vk j1 hjk hj hk hpp h6
    have hkn : k < n := by
      have := (List.getElem?_eq_some_iff.1 hk).1
      rw [partTo_len] at this; exact this
    obtain ⟨wj, hwj⟩ : ∃ v, l[i + j]? = some v := ⟨_, List.getElem?_eq_getElem (show i + j < l.length by omega)⟩
    obtain ⟨wk, hwk⟩ : ∃ v, l[i + k]? = some v := ⟨_, List.getElem?_eq_getElem (show i + k < l.length by omega)⟩
    have ij := hP.inn j wj j1 (by omega) hwj
    have ik := hP.inn k wk (by omega) hkn hwk
    rw [partTo_at (by omega) hwj, shift_ne (by omega)] at hj
    rw [partTo_at hkn hwk, shift_ne (by omega)] at hk
    simp only [Option.some.injEq] at hj hk
    subst hj hk
    simp only at hpp h6 ⊢
    refine hF.dup (i + j) (i + k) wj wk (by omega) (by omega) hwj hwk (by omega) ?_
    have hkind : ((partTo l i n).getD (wk.parent - i).toNat v0).kind = (l.getD wk.parent.toNat v0).kind := by
      rw [List.getD_eq_getElem?_getD, List.getD_eq_getElem?_getD]
      by_cases c : (wk.parent - i).toNat < n
      · obtain ⟨w, hw⟩ : ∃ w, l[wk.parent.toNat]? = some w := ⟨_, List.getElem?_eq_getElem (show wk.parent.toNat < l.length by omega)⟩
        have := partTo_at (l := l) (i := i) (n := n) (d := (wk.parent - i).toNat) c (v := w) (by rw [show i + (wk.parent - i).toNat = wk.parent.toNat by omega]; exact hw)
        rw [this, hw, Option.getD_some, Option.getD_some, shift_kind]
      · rw [List.getD_eq_getElem?_getD, partTo_none (by omega)] at h6
        exact absurd h6 (by decide)
    rw [← hkind]; exact h6
  unfold checkM
  rw [partTo_len, if_neg (by omega), if_neg (by intro e0; have := congrArg List.length e0; rw [partTo_len] at this; simp at this; omega), if_pos hshape, dup_of hdup]; rfl

/-! ### each text in the text of the whole -/
def Within (l : List Val) (j : Nat) (T : Bytes) : Prop := ∃ (f : Nat) (b : List Nat) (p : Nat) (v : Val), 2 * (l.length - j) < f ∧ Goes l j (b ++ [p]) ∧ l[j]? = some v ∧ v.parent = (p : Int) ∧ (valW f l j).1 <:+: T
theorem Within.mono {l : List Val} {j : Nat} {T U : Bytes} (h : Within l j T) (hs : T <:+: U) : Within l j U := by
  obtain ⟨f, b, p, v, h1, h2, h3, h4, h5⟩ := h
  exact ⟨f, b, p, v, h1, h2, h3, h4, h5.trans hs⟩
theorem infix_mid (a b c : Bytes) : b <:+: a ++ b ++ c := ⟨a, c, rfl⟩
theorem withins {l : List Val} (hF : Fine l) (f : Nat) :
    (∀ (i : Nat) (v : Val) (b : List Nat) (p : Nat), Goes l i (b ++ [p]) → l[i]? = some v → v.parent = (p : Int) → 2 * (l.length - i) < f → ∀ j, i ≤ j → j < (valW f l i).2 → Within l j (valW f l i).1) ∧
    (∀ (k i : Nat) (b : List Nat) (obj : Bool), Goes l k (b ++ [i]) → i < k → (∀ (j : Nat) (w : Val), i < j → j < k → l[j]? = some w → (i : Int) ≤ w.parent) → (l.getD i v0).kind = (if obj then 6 else 5) → 2 * (l.length - k) + 1 < f → ∀ j, k ≤ j → j < (loopW f l k i obj true).2 → Within l j (loopW f l k i obj true).1) := by
  induction f with
  | zero => exact ⟨fun i v b p _ _ _ h => by omega, fun k i b obj _ _ _ _ h => by omega⟩
  | succ f ih =>
    obtain ⟨ih1, ih2⟩ := ih
    obtain ⟨bk1, bk2⟩ := backs hF f
    refine ⟨fun i v b p hG hv hp hf j hij hj => ?_, fun k i b obj hG hik hin hk hf j hkj hj => ?_⟩
    · by_cases e : j = i
      · subst e
        exact ⟨f + 1, b, p, v, hf, hG, hv, hp, List.infix_rfl⟩
      have hil := (List.getElem?_eq_some_iff.1 hv).1
      obtain ⟨h1, h16, hname, hG2⟩ := hG.at hv hp
      by_cases hk5 : v.kind < 5
      · rw [valW_scal hv hk5 f] at hj
        simp only at hj; omega
      · have h6 := (one_form h1).1
        rw [stack_arr (by omega)] at hG2
        by_cases k5 : v.kind = 5
        · rw [valW_arr hv k5 f] at hj ⊢
          exact (ih2 (i + 1) i (b ++ [p]) false hG2 (by omega) (fun j w h1 h2 => by omega) (by rw [kind_at hv]; simpa using k5) (by omega) j (by omega) hj).mono (infix_mid _ _ _)
        · rw [valW_obj hv (by omega) f] at hj ⊢
          exact (ih2 (i + 1) i (b ++ [p]) true hG2 (by omega) (fun j w h1 h2 => by omega) (by rw [kind_at hv]; simp; omega) (by omega) j (by omega) hj).mono (infix_mid _ _ _)
    · by_cases hc : ∃ v, l[k]? = some v ∧ v.parent = (i : Int)
      · obtain ⟨v, hv, hp⟩ := hc
        have hkl := (List.getElem?_eq_some_iff.1 hv).1
        obtain ⟨a1, a2, a3, a4⟩ := bk1 k v b i hG hv hp (by omega)
        have hin2 : ∀ (j : Nat) (w : Val), i < j → j < (valW f l k).2 → l[j]? = some w → (i : Int) ≤ w.parent := by
          intro j w j1 j2 jw
          by_cases c1 : j < k
          · exact hin j w j1 c1 jw
          by_cases c2 : j = k
          · subst c2; rw [hv] at jw; simp only [Option.some.injEq] at jw; subst jw; omega
          · have := a3 j w (by omega) j2 jw; omega
        obtain ⟨f', hf'⟩ : ∃ m, f = m + 1 := ⟨f - 1, by omega⟩
        rw [loopW_some hv hp f obj true] at hj ⊢
        dsimp only at hj ⊢
        by_cases hjv : j < (valW f l k).2
        · refine (ih1 k v b i hG hv hp (by omega) j hkj hjv).mono ?_
          exact ⟨_, _, rfl⟩
        · by_cases hc2 : ∃ v', l[(valW f l k).2]? = some v' ∧ v'.parent = (i : Int)
          · obtain ⟨v', hv', hp'⟩ := hc2
            have ecom := loopW_comma hv' hp' f' obj
            rw [← hf'] at ecom
            rw [ecom] at hj ⊢
            dsimp only at hj ⊢
            refine (ih2 (valW f l k).2 i b obj a1 (by omega) hin2 hk (by omega) j (by omega) hj).mono ?_
            refine ⟨(if obj then quoteM v.name ++ [58] else []) ++ (valW f l k).1 ++ [44], [], ?_⟩
            simp
          · have hn : ∀ v, l[(valW f l k).2]? = some v → v.parent ≠ (i : Int) := fun v hv hp => hc2 ⟨v, hv, hp⟩
            rw [loopW_none hn] at hj
            dsimp only at hj; omega
      · have hn : ∀ v, l[k]? = some v → v.parent ≠ (i : Int) := fun v hv hp => hc ⟨v, hv, hp⟩
        rw [loopW_none hn] at hj
        dsimp only at hj; omega
theorem within_root {l : List Val} (h : checkM l = 0) {j : Nat} (h1 : 1 ≤ j) (hj : j < l.length) : Within l j (textM l) := by
  have hF := fine_of h
  obtain ⟨v, hv, hp, hn, h1', hG⟩ := hF.root
  obtain ⟨w1, w2⟩ := withins hF (2 * l.length)
  obtain ⟨bk1, bk2⟩ := backs hF (2 * l.length)
  unfold textM
  by_cases hk5 : v.kind < 5
  · rw [stack_not hk5] at hG
    have := goes_end hG; omega
  · have h6 := (one_form h1').1
    rw [stack_arr (by omega)] at hG
    have hG' : Goes l (0 + 1) ([] ++ [0]) := hG
    by_cases k5 : v.kind = 5
    · obtain ⟨m1, _⟩ := many_back (obj := false) bk2 hG' (by rw [kind_at hv]; simpa using k5) (by omega)
      have e := goes_end m1
      rw [valW_arr hv k5]
      exact (w2 (0 + 1) 0 [] false hG' (by omega) (fun j w h1 h2 => by omega) (by rw [kind_at hv]; simpa using k5) (by omega) j (by omega) (by omega)).mono (infix_mid _ _ _)
    · obtain ⟨m1, _⟩ := many_back (obj := true) bk2 hG' (by rw [kind_at hv]; simp; omega) (by omega)
      have e := goes_end m1
      rw [valW_obj hv (by omega)]
      exact (w2 (0 + 1) 0 [] true hG' (by omega) (fun j w h1 h2 => by omega) (by rw [kind_at hv]; simp; omega) (by omega) j (by omega) (by omega)).mono (infix_mid _ _ _)
/-- A part is right, and its text stands in the text of the whole. -/
theorem part_main {l : List Val} (h : checkM l = 0) {i n : Nat} (hP : IsPart l i n) : checkM (partTo l i n) = 0 ∧ textM (partTo l i n) <:+: textM l := by
  have hF := fine_of h
  have hle := hP.le
  have h1 := hP.one
  by_cases hi : i = 0
  · subst hi
    obtain ⟨v, hv, hp, hn, _, _⟩ := hF.root
    obtain ⟨_, hpar, _⟩ := text_back h (f := 2 * l.length + 1) (by omega)
    have hn' : n = l.length := by
      rcases Nat.lt_or_ge n l.length with hlt | hge
      · have h2 := hP.out l[n] (by rw [Nat.zero_add]; exact List.getElem?_eq_getElem hlt)
        have h3 := hpar n l[n] (by omega) (List.getElem?_eq_getElem hlt)
        omega
      · omega
    have e : partTo l 0 n = l := by
      apply List.ext_getElem?
      intro d
      by_cases hd : d < n
      · obtain ⟨w, hw⟩ : ∃ w, l[d]? = some w := ⟨_, List.getElem?_eq_getElem (show d < l.length by omega)⟩
        rw [partTo_at hd (by rw [Nat.zero_add]; exact hw), hw]
        by_cases hd0 : d = 0
        · subst hd0
          rw [hv] at hw; simp only [Option.some.injEq] at hw; subst hw
          unfold shiftV
          rw [if_pos (by omega), ← hp, ← hn]
        · rw [shift_ne (by omega)]; simp
      · rw [partTo_none (by omega), List.getElem?_eq_none (by omega)]
    rw [e]
    exact ⟨h, List.infix_rfl⟩
  · obtain ⟨f, b, p, v, hf, hG, hv, hp, hinf⟩ := within_root h (j := i) (by omega) (by omega)
    refine ⟨part_check hF hP hG hv hp, ?_⟩
    have ht := ((part_text hP f).1 0 (2 * n + 1) (by omega) (by rw [Nat.add_zero]; exact hf) (by omega)).1
    unfold textM
    rw [partTo_len, ht, Nat.add_zero]
    exact hinf
end Go.Proofs.YtbjidmijbphhgaaDoor
