/- LimitBound, the plain law: one key's bucket, what it has, and how often it was allowed. -/
import Derived.Test.YtgphhjghodhodaaApP
namespace Go.Proofs.Ytgphhjghodhodaa
open Go.Proofs.YtgphhjghodhodaaMp
set_option linter.unusedVariables false

/-- One key's buckets. -/
def oneB : Option Bk → List (Key × Bk)
  | none => []
  | some c => [([107], c)]

theorem oneB_put (o : Option Bk) (c : Bk) : putB (oneB o) [107] c = oneB (some c) := by
  cases o with
  | none => rfl
  | some b => simp [oneB, putB, kvLook]

theorem oneB_len (o : Option Bk) : (oneB o).length < 256 := by cases o <;> simp [oneB]

/-- What the key has at a time. -/
def hasAt (r b : Int) (o : Option Bk) (t : Int) : Int := (bkOf r b (oneB o) [107] t).1.1

theorem hasAt_none (r b t : Int) : hasAt r b none t = 1000 * b := rfl
theorem hasAt_some (r b t : Int) (c : Bk) : hasAt r b (some c) t = (bkAt r b c t).1 := by
  unfold hasAt bkOf oneB
  simp [kvLook]

/-- The key's bucket is not of a later time. -/
def oldB (o : Option Bk) (t : Int) : Prop := ∀ c, o = some c → c.2 ≤ t

theorem bkOf_oneB {r b : Int} {o : Option Bk} {t : Int} (h : oldB o t) : (bkOf r b (oneB o) [107] t).1 = (hasAt r b o t, t) := by
  refine Prod.ext rfl ?_
  refine bkOf_time (fun x hx => ?_)
  cases o with
  | none => simp [oneB] at hx
  | some c => simp [oneB] at hx; rw [hx]; exact h c rfl

theorem allow_one {r b : Int} (hb : 1 ≤ b) {o : Option Bk} {d t : Int} (ht0 : 0 ≤ t) (ht : t ≤ 1099511627776) (h : oldB o t) :
    allowM r b (oneB o) d [107] t = (decide (1000 ≤ hasAt r b o t), (if 1000 ≤ hasAt r b o t then d else d + 1), oneB (some (if 1000 ≤ hasAt r b o t then hasAt r b o t - 1000 else hasAt r b o t, t))) := by
  rw [allowM_few hb ht0 ht (oneB_len o), bkOf_oneB h, oneB_put]
  unfold taken
  simp only
  split <;> rfl

theorem hasAt_same {r b : Int} (v t : Int) : hasAt r b (some (v, t)) t = v := by
  rw [hasAt_some]
  unfold bkAt
  simp

theorem hasAt_later {r b : Int} (hr : 1 ≤ r) {o : Option Bk} {t t' : Int} (h : oldB o t) (hle : t ≤ t') : hasAt r b o t' ≤ hasAt r b o t + r * (t' - t) := by
  have h0 : 0 ≤ r * (t' - t) := Int.mul_nonneg (by omega) (by omega)
  cases o with
  | none => rw [hasAt_none, hasAt_none]; omega
  | some c =>
    have hc := h c rfl
    rw [hasAt_some, hasAt_some]
    unfold bkAt
    by_cases e : t' ≤ c.2
    · rw [if_pos e, if_pos (by omega)]; omega
    · rw [if_neg e]
      by_cases e' : t ≤ c.2
      · rw [if_pos e']
        have : t = c.2 := by omega
        subst this
        simp only; omega
      · rw [if_neg e']
        have : r * (t' - c.2) = r * (t - c.2) + r * (t' - t) := by rw [← Int.mul_add]; congr 1; omega
        simp only; omega

theorem hasAt_nonneg {r b : Int} (hb : 1 ≤ b) (hr : 1 ≤ r) {o : Option Bk} {t : Int} (h : ∀ c, o = some c → 0 ≤ c.1) : 0 ≤ hasAt r b o t := by
  cases o with
  | none => rw [hasAt_none]; omega
  | some c =>
    rw [hasAt_some]
    have := h c rfl
    unfold bkAt
    split
    · exact this
    · have : 0 ≤ r * (t - c.2) := Int.mul_nonneg (by omega) (by omega)
      simp only; omega

theorem hasAt_le {r b : Int} {o : Option Bk} {t : Int} (h : ∀ c, o = some c → c.1 ≤ 1000 * b) : hasAt r b o t ≤ 1000 * b := by
  cases o with
  | none => rw [hasAt_none]; omega
  | some c =>
    rw [hasAt_some]
    have := h c rfl
    unfold bkAt
    split
    · exact this
    · simp only; omega

end Go.Proofs.Ytgphhjghodhodaa
