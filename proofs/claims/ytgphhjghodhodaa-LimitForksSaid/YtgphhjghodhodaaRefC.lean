/- The reference's buckets, plain: what its functions tell is what the program's lists tell. -/
import Derived.Test.YtgphhjghodhodaaRefB
namespace Go.Proofs.Ytgphhjghodhodaa
open Go.RowKit Go.Proofs.YtgphhjghodhodaaMp Go.Proofs.YtgphhjghodhodaaW.PrintWords Go.Proofs.Ytgphhjghodhodaa.PNext
set_option linter.unusedVariables false

def toB (xs : List S71) : List (Key × Bk) := xs.map (fun s => (s.f0.data.toList, (s.f1, s.f2)))

theorem toB_len (xs : List S71) : (toB xs).length = xs.length := by simp [toB]

theorem sameKey_iff (b x : S71) : sameKeyS b x = true ↔ x.f0.data.toList = b.f0.data.toList := by
  unfold sameKeyS
  rw [ByteArray.toList_eq, ByteArray.toList_eq]
  simp

theorem any_iff (xs : List S71) (b : S71) : xs.any (sameKeyS b) = (kvLook (toB xs) b.f0.data.toList).isSome := by
  induction xs with
  | nil => rfl
  | cons x xs ih =>
    rw [List.any_cons, ih]
    show _ = (kvLook ((x.f0.data.toList, (x.f1, x.f2)) :: toB xs) b.f0.data.toList).isSome
    rw [kvLook_cons]
    by_cases h : x.f0.data.toList = b.f0.data.toList
    · rw [(sameKey_iff b x).2 h]; simp [h]
    · have : sameKeyS b x = false := by
        cases hs : sameKeyS b x with
        | false => rfl
        | true => exact absurd ((sameKey_iff b x).1 hs) h
      rw [this]; simp [h]

theorem toB_with (xs : List S71) (b : S71) : toB (withS xs b) = putB (toB xs) b.f0.data.toList (b.f1, b.f2) := by
  unfold withS putB
  rw [any_iff]
  split
  · unfold toB
    rw [List.map_map, List.map_map]
    apply List.map_congr_left
    intro x _
    simp only [Function.comp, repS]
    by_cases h : x.f0.data.toList = b.f0.data.toList
    · rw [if_pos ((sameKey_iff b x).2 h), if_pos h]
    · rw [if_neg (fun hs => h ((sameKey_iff b x).1 hs)), if_neg h]
  · simp [toB]

theorem toB_filter (r b t : Int) (xs : List S71) : toB (xs.filter (keepS r b t)) = forgetM r b (toB xs) t := by
  unfold forgetM toB
  rw [List.filter_map]
  rfl

/-! ### bucket -/
theorem bucket_l0 {r b : Int} {xs : List S71} (hI : RInv r b xs) (d t : Int) (ht : t ≤ 1099511627776) (key : ByteArray) (n : Nat) : ∀ (k i : Nat), xs.length - i = n → i ≤ xs.length → n < k →
    watchfireref30_Limiter_bucket.l0 k key t i r b xs d = (match kvLook (toB (xs.drop i)) key.data.toList with
      | some c => some (key, (bkAt r b c t).1, (bkAt r b c t).2, true)
      | none => some (key, 1000 * b, t, false)) := by
  have hb1 := hI.b1
  have hb0 := hI.b0
  have hfew := hI.few
  induction n with
  | zero =>
    intro k i hn hi hk
    obtain ⟨k, rfl⟩ : ∃ m, k = m + 1 := ⟨k - 1, by omega⟩
    simp only [watchfireref30_Limiter_bucket.l0]
    rw [if_neg (by omega), List.drop_of_length_le (by omega)]
    have e : wrap64 (1000 * b) = 1000 * b := by unfold wrap64; omega
    rw [e]
    rfl
  | succ n ih =>
    intro k i hn hi hk
    obtain ⟨k, rfl⟩ : ∃ m, k = m + 1 := ⟨k - 1, by omega⟩
    have hlt : i < xs.length := by omega
    have hd : xs.drop i = rd_T71 xs i :: xs.drop (i + 1) := by
      rw [List.drop_eq_getElem_cons hlt]
      unfold rd_T71
      rw [Int.toNat_natCast, List.getD_eq_getElem?_getD, List.getElem?_eq_getElem hlt]
      rfl
    have hmem := rd_mem71 xs i hlt
    simp only [watchfireref30_Limiter_bucket.l0]
    rw [if_pos (by omega), if_pos (by omega), hd]
    show _ = (match kvLook (((rd_T71 xs i).f0.data.toList, ((rd_T71 xs i).f1, (rd_T71 xs i).f2)) :: toB (xs.drop (i + 1))) key.data.toList with
      | some c => some (key, (bkAt r b c t).1, (bkAt r b c t).2, true)
      | none => some (key, 1000 * b, t, false))
    rw [kvLook_cons, ByteArray.toList_eq, ByteArray.toList_eq]
    by_cases h : (rd_T71 xs i).f0.data.toList = key.data.toList
    · rw [if_pos h, if_pos h, at_f hI d _ hmem t ht]
      simp only [Option.bind_some]
      rw [Go.WideShapes.bytes_inj h]
    · rw [if_neg h, if_neg h]
      have e : wrap64 ((i : Int) + 1) = ((i + 1 : Nat) : Int) := by unfold wrap64; omega
      rw [e]
      exact ih k (i + 1) (by omega) (by omega) (by omega)

theorem bucket_f {r b : Int} {xs : List S71} (hI : RInv r b xs) (d t : Int) (ht : t ≤ 1099511627776) (key : ByteArray) (x : Bk) (is : Bool) (hx : bkOf r b (toB xs) key.data.toList t = (x, is)) :
    watchfireref30_Limiter_bucket.f (xs.length + 1) r b xs d key t = some (key, x.1, x.2, is) := by
  unfold watchfireref30_Limiter_bucket.f
  have := bucket_l0 hI d t ht key xs.length (xs.length + 1) 0 (by omega) (by omega) (by omega)
  rw [show ((0 : Nat) : Int) = 0 from rfl] at this
  rw [this, List.drop_zero]
  unfold bkOf at hx
  cases hc : kvLook (toB xs) key.data.toList with
  | some c => rw [hc] at hx; cases hx; rfl
  | none => rw [hc] at hx; cases hx; rfl

/-! ### Next -/
theorem next_l0 {r : Int} (hr0 : 1 ≤ r) (hr1 : r ≤ 1000000) (b d : Int) (xs : List S71) (n : Nat) : ∀ (k : Nat) (x9 h : Int), 0 ≤ x9 → x9 + 1000 - h ≤ 4398046511104 → 0 ≤ h → h < 1000 → (1000 - h).toNat = n → n < k →
    watchfireref30_Limiter_Next.l0 k x9 h r b xs d = some (x9 + ((999 - h) / r + 1)) := by
  induction n using Nat.strongRecOn with
  | _ n ih =>
    intro k x9 h h0 h1 hh0 hh1 hn hk
    obtain ⟨k, rfl⟩ : ∃ m, k = m + 1 := ⟨k - 1, by omega⟩
    simp only [watchfireref30_Limiter_Next.l0]
    rw [if_pos hh1]
    have e1 : wrap64 (x9 + 1) = x9 + 1 := by unfold wrap64; omega
    have e2 : wrap64 (h + r) = h + r := by unfold wrap64; omega
    rw [e1, e2]
    by_cases c : h + r < 1000
    · rw [ih (1000 - (h + r)).toNat (by omega) k (x9 + 1) (h + r) (by omega) (by omega) (by omega) c rfl (by omega)]
      have e3 : (999 - h) / r = (999 - (h + r)) / r + 1 := by
        have : 999 - h = (999 - (h + r)) + r := by omega
        rw [this, Int.add_ediv_of_dvd_right ⟨1, by omega⟩, Int.ediv_self (by omega)]
      rw [e3]
      congr 1; omega
    · obtain ⟨k, rfl⟩ : ∃ m, k = m + 1 := ⟨k - 1, by omega⟩
      simp only [watchfireref30_Limiter_Next.l0]
      rw [if_neg c]
      have e3 : (999 - h) / r = 0 := Int.ediv_eq_zero_of_lt (by omega) (by omega)
      rw [e3]
      congr 1

theorem time_f_yes {t : Int} (h0 : 0 ≤ t) (h1 : t ≤ 1099511627776) : watchfireref30_time.f t = some true := by
  unfold watchfireref30_time.f
  rw [if_pos (by omega)]
  simp [h1]
theorem time_f_no {t : Int} (h : ¬ (0 ≤ t ∧ t ≤ 1099511627776)) : watchfireref30_time.f t = some false := by
  unfold watchfireref30_time.f
  by_cases h0 : t ≥ 0
  · rw [if_pos h0]
    have : ¬ t ≤ 1099511627776 := fun h1 => h ⟨h0, h1⟩
    simp [this]
  · rw [if_neg h0]

theorem next_f {r b : Int} {xs : List S71} (hI : RInv r b xs) (d t : Int) (ht0 : 0 ≤ t) (ht : t ≤ 1099511627776) (key : ByteArray) (x : Bk) (is : Bool) (hx : bkOf r b (toB xs) key.data.toList t = (x, is)) (hx0 : 0 ≤ x.1) (hx2 : t ≤ x.2 ∧ x.2 ≤ 1099511627776) :
    ∃ k, watchfireref30_Limiter_Next.f k r b xs d key t = some (nextM r x t) := by
  refine ⟨xs.length + 1 + 1001, ?_⟩
  unfold watchfireref30_Limiter_Next.f
  have hb : watchfireref30_Limiter_bucket.f (xs.length + 1 + 1001) r b xs d key t = some (key, x.1, x.2, is) :=
    at_rounds (g := fun k => watchfireref30_Limiter_bucket.f k r b xs d key t) (fun k => watchfireref30_Limiter_bucket.mono _ _ _ _ _ _ k) (by omega) (bucket_f hI d t ht key x is hx)
  rw [time_f_yes ht0 ht]
  simp only [Option.bind_some, if_true]
  rw [hb]
  simp only [Option.bind_some]
  unfold nextM
  by_cases c : 1000 ≤ x.1
  · rw [if_pos c, if_pos c]
  · rw [if_neg (by omega), if_neg c]
    have e : wrap64 (x.2 - t) = x.2 - t := by unfold wrap64; omega
    rw [e, next_l0 hI.r0 hI.r1 b d xs (1000 - x.1).toNat _ (x.2 - t) x.1 (by omega) (by omega) hx0 (by omega) rfl (by omega)]
    have e3 : (1000 - x.1 + r - 1) / r = (999 - x.1) / r + 1 := by
      have h1 := hI.r0
      have : 1000 - x.1 + r - 1 = (999 - x.1) + r := by omega
      rw [this, Int.add_ediv_of_dvd_right ⟨1, by omega⟩, Int.ediv_self (by omega)]
    rw [e3]

/-! ### Allow, plain -/
def finishS (ys : List S71) (d : Int) (key : ByteArray) (x : Bk) : Bool × Int × List S71 :=
  if x.1 < 1000 then (false, d + 1, withS ys ⟨key, x.1, x.2⟩) else (true, d, withS ys ⟨key, x.1 - 1000, x.2⟩)

theorem finish_allow {r b : Int} (hb : 1 ≤ b) {xs : List S71} {d t : Int} (ht : 0 ≤ t ∧ t ≤ 1099511627776) {key : ByteArray} {x : Bk} {is : Bool} (hx : bkOf r b (toB xs) key.data.toList t = (x, is)) (hc : is = true ∨ xs.length < 256) :
    allowM r b (toB xs) d key.data.toList t = ((finishS xs d key x).1, (finishS xs d key x).2.1, toB (finishS xs d key x).2.2) := by
  unfold allowM finishS
  rw [if_pos ht]
  unfold bkOf at hx
  cases hk : kvLook (toB xs) key.data.toList with
  | some c =>
    rw [hk] at hx
    cases hx
    simp only
    by_cases h : 1000 ≤ (bkAt r b c t).1
    · rw [if_pos h, if_neg (by omega)]
      simp only [toB_with]
    · rw [if_neg h, if_pos (by omega)]
      simp only [toB_with]
  | none =>
    rw [hk] at hx
    cases hx
    simp only
    rcases hc with hc | hc
    · cases hc
    · rw [toB_len, if_pos hc, if_neg (by omega)]
      simp only [toB_with]

theorem forget_allow {r b : Int} (hb : 1 ≤ b) {xs : List S71} {d t : Int} (ht : 0 ≤ t ∧ t ≤ 1099511627776) {key : ByteArray} {x : Bk} (hx : bkOf r b (toB xs) key.data.toList t = (x, false)) (hl : 256 ≤ xs.length) :
    allowM r b (toB xs) d key.data.toList t = (if (xs.filter (keepS r b t)).length < 256 then ((finishS (xs.filter (keepS r b t)) d key x).1, (finishS (xs.filter (keepS r b t)) d key x).2.1, toB (finishS (xs.filter (keepS r b t)) d key x).2.2) else (false, d + 1, toB (xs.filter (keepS r b t)))) := by
  unfold allowM finishS
  rw [if_pos ht]
  unfold bkOf at hx
  cases hk : kvLook (toB xs) key.data.toList with
  | some c => rw [hk] at hx; cases hx
  | none =>
    rw [hk] at hx
    cases hx
    simp only
    rw [toB_len, if_neg (by omega), ← toB_filter, toB_len]
    by_cases h : (xs.filter (keepS r b t)).length < 256
    · rw [if_pos h, if_pos h, if_neg (by omega)]
      simp only [toB_with]
    · rw [if_neg h, if_neg h]

end Go.Proofs.Ytgphhjghodhodaa
