/- LimitApart, the plain law: two limiters that are asked alike of one key answer alike, whatever else is asked of the second. -/
import Derived.Test.YtgphhjghodhodaaLimF
namespace Go.Proofs.Ytgphhjghodhodaa
open Go.Proofs.YtgphhjghodhodaaMp
set_option linter.unusedVariables false

/-- What a bucket that is asked is left with. -/
def taken (x : Bk) : Bk := if 1000 ≤ x.1 then (x.1 - 1000, x.2) else x

theorem allowM_few {r b : Int} (hb : 1 ≤ b) {B : List (Key × Bk)} {d : Int} {k : Key} {t : Int} (ht0 : 0 ≤ t) (ht : t ≤ 1099511627776) (hl : B.length < 256) :
    allowM r b B d k t = (decide (1000 ≤ (bkOf r b B k t).1.1), (if 1000 ≤ (bkOf r b B k t).1.1 then d else d + 1), putB B k (taken (bkOf r b B k t).1)) := by
  unfold allowM bkOf taken
  rw [if_pos ⟨ht0, ht⟩]
  cases hc : kvLook B k with
  | some c =>
    simp only
    by_cases h : 1000 ≤ (bkAt r b c t).1
    · simp [h]
    · simp [h]
  | none =>
    simp only
    rw [if_pos hl]
    have h : 1000 ≤ 1000 * b := by omega
    simp [h]

def cntB (o k : Key) (B : List (Key × Bk)) : Nat := B.countP (fun x => decide (x.1 ≠ k ∧ x.1 ≠ o))

theorem count_key_le {B : List (Key × Bk)} (hB : NoTwice B) (k : Key) : B.countP (fun x => decide (x.1 = k)) ≤ 1 := by
  induction B with
  | nil => simp
  | cons y B ih =>
    obtain ⟨h1, h2⟩ := List.pairwise_cons.1 hB
    rw [List.countP_cons]
    by_cases hy : y.1 = k
    · have : B.countP (fun x => decide (x.1 = k)) = 0 := by
        rw [List.countP_eq_zero]
        intro x hx
        simp
        intro e
        exact h1 x hx (hy.trans e.symm)
      simp [this, hy]
    · simp [hy]; exact ih h2

theorem length_le_cnt {B : List (Key × Bk)} (hB : NoTwice B) (o k : Key) : B.length ≤ cntB o k B + 2 := by
  have h1 := count_key_le hB k
  have h2 := count_key_le hB o
  have : B.length ≤ cntB o k B + (B.countP (fun x => decide (x.1 = k)) + B.countP (fun x => decide (x.1 = o))) := by
    unfold cntB
    clear h1 h2 hB
    induction B with
    | nil => simp
    | cons y B ih =>
      rw [List.countP_cons, List.countP_cons, List.countP_cons, List.length_cons]
      by_cases hy : y.1 = k <;> by_cases hz : y.1 = o <;> simp [hy, hz] <;> simp at ih <;> omega
  omega

theorem cnt_map_put (B : List (Key × Bk)) (o k q : Key) (c : Bk) : cntB o k (B.map (fun x => if x.1 = q then (q, c) else x)) = cntB o k B := by
  unfold cntB
  rw [List.countP_map]
  apply List.countP_congr
  intro x hx
  have e : (if x.1 = q then (q, c) else x).1 = x.1 := by
    split
    · rename_i h; exact h.symm
    · rfl
  simp only [Function.comp, e]

theorem cnt_putB (B : List (Key × Bk)) (o k q : Key) (c : Bk) : cntB o k (putB B q c) ≤ cntB o k B + (if q = k ∨ q = o then 0 else 1) := by
  unfold putB
  split
  · rw [cnt_map_put]; omega
  · unfold cntB
    rw [List.countP_append]
    by_cases h1 : q = k <;> by_cases h2 : q = o <;> simp [h1, h2]

theorem cnt_filter (B : List (Key × Bk)) (o k : Key) (f : Key × Bk → Bool) : cntB o k (B.filter f) ≤ cntB o k B :=
  List.Sublist.countP_le List.filter_sublist

theorem bkAt_time {r b : Int} {x : Bk} {t : Int} (h : x.2 ≤ t) : (bkAt r b x t).2 = t := by
  unfold bkAt
  split
  · omega
  · rfl

theorem times_putB {B : List (Key × Bk)} {k : Key} {c : Bk} {t : Int} (hB : ∀ x ∈ B, x.2.2 ≤ t) (hc : c.2 ≤ t) : ∀ x ∈ putB B k c, x.2.2 ≤ t := by
  intro x hx
  rcases mem_putB hx with hx | rfl
  · exact hB x hx
  · exact hc

theorem taken_time (x : Bk) : (taken x).2 = x.2 := by unfold taken; split <;> rfl

theorem bkOf_time {r b : Int} {B : List (Key × Bk)} {k : Key} {t : Int} (hB : ∀ x ∈ B, x.2.2 ≤ t) : (bkOf r b B k t).1.2 = t := by
  unfold bkOf
  cases hc : kvLook B k with
  | some c => exact bkAt_time (hB _ (kvLook_some_mem hc))
  | none => rfl

theorem bkOf_putB_same {r b : Int} (B : List (Key × Bk)) (k : Key) (c : Bk) (t : Int) : (bkOf r b (putB B k c) k t).1 = bkAt r b c t := by
  unfold bkOf
  rw [kvLook_putB, if_pos rfl]

theorem bkOf_putB_other {r b : Int} (B : List (Key × Bk)) {k q : Key} (h : k ≠ q) (c : Bk) (t : Int) : bkOf r b (putB B q c) k t = bkOf r b B k t := by
  unfold bkOf
  rw [kvLook_putB, if_neg h]

theorem bkOf_forget {r b : Int} (hr : 1 ≤ r) {B : List (Key × Bk)} (hB : NoTwice B) {k : Key} {now t : Int} (hle : now ≤ t) (ht : ∀ x ∈ B, x.2.2 ≤ now) (hf : ∀ x ∈ B, x.2.1 ≤ 1000 * b) :
    (bkOf r b (forgetM r b B now) k t).1 = (bkOf r b B k t).1 := by
  unfold forgetM bkOf
  rw [kvLook_filter_key hB]
  cases hc : kvLook B k with
  | none => rfl
  | some c =>
    simp only [Option.bind_some]
    have hmem := kvLook_some_mem hc
    have h1 := ht _ hmem
    have h2 := hf _ hmem
    simp only at h1 h2
    by_cases hk : keepB r b now (k, c) = true
    · rw [if_pos hk]
    · rw [if_neg hk]
      have hfull : 1000 * b ≤ (bkAt r b c now).1 := by
        unfold keepB at hk
        simpa using hk
      simp only
      unfold bkAt at hfull ⊢
      by_cases e : now ≤ c.2
      · rw [if_pos e] at hfull
        by_cases e' : t ≤ c.2
        · rw [if_pos e']
          exact Prod.ext (by simp only; omega) (by simp only; omega)
        · rw [if_neg e']
          have : 0 ≤ r * (t - c.2) := Int.mul_nonneg (by omega) (by omega)
          exact Prod.ext (by simp only; omega) rfl
      · rw [if_neg e] at hfull
        rw [if_neg (by omega)]
        simp only at hfull
        have : r * (now - c.2) ≤ r * (t - c.2) := Int.mul_le_mul_of_nonneg_left (by omega) (by omega)
        exact Prod.ext (by simp only; omega) rfl

/-- Behind i acts, at a time. -/
structure ApInv (r b : Int) (o k : Key) (i : Nat) (now : Int) (B1 B2 : List (Key × Bk)) : Prop where
  t1 : ∀ x ∈ B1, x.2.2 ≤ now
  t2 : ∀ x ∈ B2, x.2.2 ≤ now
  same : ∀ t, now ≤ t → (bkOf r b B1 k t).1 = (bkOf r b B2 k t).1
  n1 : cntB o k B1 ≤ i
  n2 : cntB o k B2 ≤ i

theorem ApInv.later {r b : Int} {o k : Key} {i : Nat} {now now' : Int} {B1 B2 : List (Key × Bk)} (h : ApInv r b o k i now B1 B2) (hle : now ≤ now') : ApInv r b o k i now' B1 B2 :=
  ⟨fun x hx => Int.le_trans (h.t1 x hx) hle, fun x hx => Int.le_trans (h.t2 x hx) hle, fun t ht => h.same t (by omega), h.n1, h.n2⟩

/-- Another key's call on the second: B2's own k stays. -/
theorem ApInv.other {r b : Int} {o k : Key} {i j : Nat} {now : Int} {B1 B2 : List (Key × Bk)} (h : ApInv r b o k i now B1 B2) {q : Key} (hq : q ≠ k) (hj : (if q = k ∨ q = o then 0 else 1) + i ≤ j) : ApInv r b o k j now B1 (putB B2 q (taken (bkOf r b B2 q now).1)) :=
  ⟨h.t1, times_putB h.t2 (by rw [taken_time, bkOf_time h.t2]; omega), fun t ht => by rw [bkOf_putB_other _ (fun e => hq e.symm)]; exact h.same t ht, by have := h.n1; omega, by have := cnt_putB B2 o k q (taken (bkOf r b B2 q now).1); have := h.n2; omega⟩

theorem ApInv.forget {r b : Int} (hr : 1 ≤ r) {o k : Key} {i : Nat} {now : Int} {B1 B2 : List (Key × Bk)} (h : ApInv r b o k i now B1 B2) (hB : NoTwice B2) (hf : ∀ x ∈ B2, x.2.1 ≤ 1000 * b) : ApInv r b o k i now B1 (forgetM r b B2 now) :=
  ⟨h.t1, fun x hx => h.t2 x (List.mem_filter.1 hx).1, fun t ht => by rw [bkOf_forget hr hB ht h.t2 hf]; exact h.same t ht, h.n1, Nat.le_trans (cnt_filter _ _ _ _) h.n2⟩

/-- Both are asked of k at one time. -/
theorem ApInv.both {r b : Int} {o k : Key} {i : Nat} {now : Int} {B1 B2 : List (Key × Bk)} (h : ApInv r b o k i now B1 B2) :
    ApInv r b o k i now (putB B1 k (taken (bkOf r b B1 k now).1)) (putB B2 k (taken (bkOf r b B2 k now).1)) := by
  refine ⟨times_putB h.t1 (by rw [taken_time, bkOf_time h.t1]; omega), times_putB h.t2 (by rw [taken_time, bkOf_time h.t2]; omega), fun t ht => ?_, ?_, ?_⟩
  · rw [bkOf_putB_same, bkOf_putB_same, h.same now (by omega)]
  · have := cnt_putB B1 o k k (taken (bkOf r b B1 k now).1); have := h.n1; simp at *; omega
  · have := cnt_putB B2 o k k (taken (bkOf r b B2 k now).1); have := h.n2; simp at *; omega

end Go.Proofs.Ytgphhjghodhodaa
