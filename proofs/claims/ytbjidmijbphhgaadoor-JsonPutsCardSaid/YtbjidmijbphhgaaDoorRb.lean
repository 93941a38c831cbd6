import Derived.Test.YtbjidmijbphhgaaDoorPPutx6
import Derived.Test.YtbjidmijbphhgaaDoorRa
/- The document's place is json's next: the stack. -/
namespace Go.Proofs.YtbjidmijbphhgaaDoor
open Go.RowKit Go.Proofs.YtbjidmijbphhgaaDoorW.PrintWords PPut
set_option linter.unusedVariables false
set_option linter.unusedSimpArgs false

def tV (x : S36) : Val := ⟨x.f0, x.f1.toNat, x.f2.data.toList, x.f3.data.toList⟩
theorem rdP (l : List S36) (i : Nat) (h : i < l.length) : rd_T36 l (i : Int) = l[i] := by
  unfold rd_T36
  rw [Int.toNat_natCast, List.getD_eq_getElem?_getD, List.getElem?_eq_getElem h]; rfl
/-- The parent of the value i. -/
def par (l : List S36) (i : Nat) : Int := (rd_T36 l (i : Int)).f0
/-- Does the value i hold others? -/
def cont (l : List S36) (i : Nat) : Prop := (rd_T36 l (i : Int)).f1 = 5 ∨ (rd_T36 l (i : Int)).f1 = 6
instance (l : List S36) (i : Nat) : Decidable (cont l i) := by unfold cont; exact inferInstance
theorem wrapS (n : Int) (h0 : -9223372036854775808 ≤ n) (h : n < 9223372036854775808) : wrap64 n = n := by unfold wrap64; omega

/-- The chain of the open ones. -/
structure Chn (l : List S36) (o : List Nat) : Prop where
  root : par l 0 = -1
  at0 : ∀ (a : Nat), o[0]? = some a → a = 0
  low : ∀ (k a : Nat), o[k]? = some a → a < l.length
  step : ∀ (k a b : Nat), o[k]? = some a → o[k + 1]? = some b → par l b = (a : Int) ∧ a < b
/-- Behind i values, i at least 1. -/
structure Stk (l : List S36) (i : Nat) (o : List Nat) : Prop where
  chn : Chn l o
  cnt : ∀ a ∈ o, a < i ∧ cont l a
  hold : cont l (i - 1) → o.getLast? = some (i - 1)
  bare : ¬ cont l (i - 1) → i - 1 ≠ 0 → ∃ a, o.getLast? = some a ∧ par l (i - 1) = (a : Int)
  lone : ¬ cont l (i - 1) → i - 1 = 0 → o = []

theorem Chn.max {l : List S36} {o : List Nat} (h : Chn l o) : ∀ (k a : Nat), o[k]? = some a → ∀ p ∈ o.take (k + 1), p ≤ a
  | 0, a, ha, p, hp => by
    have e : o.take 1 = [a] := by
      cases o with
      | nil => simp at ha
      | cons b o => simp at ha; simp [ha]
    rw [e] at hp; simp at hp; omega
  | k + 1, a, ha, p, hp => by
    have hk : k + 1 < o.length := (List.getElem?_eq_some_iff.1 ha).1
    obtain ⟨b, hb⟩ : ∃ b, o[k]? = some b := ⟨o[k], List.getElem?_eq_getElem (by omega)⟩
    obtain ⟨_, hlt⟩ := h.step k b a hb ha
    rw [List.take_add_one, ha] at hp
    rcases List.mem_append.1 hp with hp | hp
    · have := Chn.max h k b hb p hp; omega
    · simp at hp; omega

theorem in_chain {l : List S36} {o : List Nat} (h : Chn l o) (p : Nat) : ∀ (k a n : Nat), o[k]? = some a → k + 1 ≤ n → watchfireref24_in.l0 n l (a : Int) (p : Int) = some (decide (p ∈ o.take (k + 1)))
  | 0, a, n, ha, hn => by
    obtain ⟨n, rfl⟩ : ∃ m, n = m + 1 := ⟨n - 1, by omega⟩
    obtain rfl := h.at0 a ha
    have e : o.take 1 = [0] := by
      cases o with
      | nil => simp at ha
      | cons b o => simp at ha; simp [ha]
    rw [watchfireref24_in.l0, if_neg (by omega), e]
    congr 1
    by_cases hp : p = 0
    · subst hp; simp
    · have : ((((0 : Nat) : Int)) == (p : Int)) = false := by simp; omega
      rw [this]; simp [hp]
  | k + 1, a, n, ha, hn => by
    obtain ⟨n, rfl⟩ : ∃ m, n = m + 1 := ⟨n - 1, by omega⟩
    have hk : k + 1 < o.length := (List.getElem?_eq_some_iff.1 ha).1
    obtain ⟨b, hb⟩ : ∃ b, o[k]? = some b := ⟨o[k], List.getElem?_eq_getElem (by omega)⟩
    obtain ⟨hpar, hlt⟩ := h.step k b a hb ha
    have hlow := h.low _ _ ha
    rw [watchfireref24_in.l0]
    have ht : o.take (k + 2) = o.take (k + 1) ++ [a] := by rw [List.take_add_one, ha]; rfl
    rw [ht]
    by_cases c : (a : Int) > (p : Int)
    · rw [if_pos c, if_pos (by omega), if_pos (by omega)]
      have hpar' : (rd_T36 l (a : Int)).f0 = (b : Int) := hpar
      rw [hpar', in_chain h p k b n hb (by omega)]
      congr 1
      simp only [List.mem_append, List.mem_singleton]
      have : p ≠ a := by omega
      simp [this]
    · rw [if_neg c]
      congr 1
      by_cases e : a = p
      · subst e; simp
      · have hnot : p ∉ o.take (k + 1) := fun hp => by have := h.max k b hb p hp; omega
        have hne : p ≠ a := fun x => e x.symm
        have : ((a : Int) == (p : Int)) = false := by simp; omega
        rw [this]; simp [hnot, hne]
theorem deep_chain {l : List S36} {o : List Nat} (h : Chn l o) (hl : l.length ≤ 512) : ∀ (k a n : Nat) (c : Nat), o[k]? = some a → k + 1 ≤ n → c + k < 1000000 → watchfireref24_deep.l0 n l (a : Int) (c : Int) = some ((c + k : Nat) : Int)
  | 0, a, n, c, ha, hn, hc => by
    obtain ⟨n, rfl⟩ : ∃ m, n = m + 1 := ⟨n - 1, by omega⟩
    have hlow := h.low _ _ ha
    obtain rfl := h.at0 a ha
    have hr : (rd_T36 l ((0 : Nat) : Int)).f0 = -1 := h.root
    rw [watchfireref24_deep.l0, if_pos (by omega), if_pos (by omega), hr, if_neg (by omega)]; rfl
  | k + 1, a, n, c, ha, hn, hc => by
    obtain ⟨n, rfl⟩ : ∃ m, n = m + 1 := ⟨n - 1, by omega⟩
    have hk : k + 1 < o.length := (List.getElem?_eq_some_iff.1 ha).1
    obtain ⟨b, hb⟩ : ∃ b, o[k]? = some b := ⟨o[k], List.getElem?_eq_getElem (by omega)⟩
    obtain ⟨hpar, hlt⟩ := h.step k b a hb ha
    have hpar' : (rd_T36 l (a : Int)).f0 = (b : Int) := hpar
    have hlow := h.low _ _ ha
    rw [watchfireref24_deep.l0, if_pos (by omega), if_pos (by omega), hpar', if_pos (by omega), wrapS ((c : Int) + 1) (by omega) (by omega)]
    have := deep_chain h hl k b n (c + 1) hb (by omega) (by omega)
    rw [show ((c + 1 : Nat) : Int) = (c : Int) + 1 by omega] at this
    rw [this]; congr 2; omega

theorem last_at {o : List Nat} {a : Nat} (h : o.getLast? = some a) : o[o.length - 1]? = some a ∧ o.take (o.length - 1 + 1) = o := by
  have hne : o ≠ [] := by rintro rfl; simp at h
  have hp : 0 < o.length := List.length_pos_iff.2 hne
  refine ⟨by rw [← List.getLast?_eq_getElem?]; exact h, List.take_of_length_le (by omega)⟩

/-- Does the one ahead stand in p? -/
theorem in_stk {l : List S36} {i : Nat} {o : List Nat} (h : Stk l i o) (hi : 1 ≤ i) (hil : i ≤ l.length) (p : Nat) (hp : p < i) (hc : cont l p) (n : Nat) (hn : o.length + 2 ≤ n) :
    watchfireref24_in.l0 n l ((i - 1 : Nat) : Int) (p : Int) = some (decide (p ∈ o)) := by
  by_cases c : cont l (i - 1)
  · obtain ⟨h1, h2⟩ := last_at (h.hold c)
    have := in_chain h.chn p _ _ n h1 (by omega)
    rw [h2] at this
    exact this
  · have hpi : p ≠ i - 1 := fun e => c (e ▸ hc)
    by_cases z : i - 1 = 0
    · omega
    · obtain ⟨a, ha, hpa⟩ := h.bare c z
      obtain ⟨h1, h2⟩ := last_at ha
      obtain ⟨n, rfl⟩ : ∃ m, n = m + 1 := ⟨n - 1, by omega⟩
      have hpa' : (rd_T36 l ((i - 1 : Nat) : Int)).f0 = (a : Int) := hpa
      rw [watchfireref24_in.l0, if_pos (by omega), if_pos (by omega), if_pos (by omega), hpa']
      have := in_chain h.chn p _ _ n h1 (by omega)
      rw [h2] at this
      exact this

theorem ixM_mem {o : List Nat} {p : Nat} : ixM o (p : Int) = none ↔ p ∉ o := by
  unfold ixM
  rw [List.findIdx?_eq_none_iff]
  constructor
  · intro h hp; have := h p hp; simp at this
  · intro h x hx
    have : x ≠ p := fun e => h (e ▸ hx)
    simp; omega
theorem tV_kind {x : S36} (h : 0 ≤ x.f1) (k : Nat) : ((tV x).kind = k) = (x.f1 = (k : Int)) := by
  simp only [tV, eq_iff_iff]; omega
/-- What the document asks of a value that is not the first. -/
def placeG (n : Nat) (l : List S36) (a1 : Int) : Option Bool :=
  (watchfireref24_in.f n l (wrap64 (a1 - 1)) ((rd_T36 l a1).f0)).bind fun t107 => (if t107 = true then ((watchfireref24_deep.f n l a1).bind fun t108 => (if t108 ≥ 16 then (some false) else (if ((rd_T36 l a1).f2).toList = ([] : List UInt8) then (some true) else (some (((rd_T36 l ((rd_T36 l a1).f0)).f1) == 6))))) else (some false))
theorem place_eq {l : List S36} {i : Nat} {o : List Nat} (h : Stk l i o) (hi : 1 ≤ i) (hil : i < l.length) (hl : l.length ≤ 512) (ho : o.length ≤ 16) (hk : ∀ x ∈ l, 0 ≤ x.f1) (n : Nat) (hn : 20 ≤ n) :
    watchfireref24_place.f n l (i : Int) = some (nextM (l.map tV) o i (tV l[i])).isSome := by
  have e0 : watchfireref24_place.f n l (i : Int) = if par l i < 0 then some false else if par l i ≥ (i : Int) then some false else if cont l (par l i).toNat then placeG n l i else some false := by
    unfold watchfireref24_place.f
    rw [if_pos (by omega), if_pos (by omega), if_neg (by omega)]
    change (if par l i < 0 then _ else if par l i ≥ (i : Int) then _ else _) = _
    by_cases c1 : par l i < 0
    · rw [if_pos c1, if_pos c1]
    rw [if_neg c1, if_neg c1]
    by_cases c2 : par l i ≥ (i : Int)
    · rw [if_pos c2, if_pos c2]
    rw [if_neg c2, if_neg c2, if_pos (show (0 : Int) ≤ (rd_T36 l (i : Int)).f0 from by have : (rd_T36 l (i : Int)).f0 = par l i := rfl; omega), if_pos (show (rd_T36 l (i : Int)).f0 < (l.length : Int) from by have : (rd_T36 l (i : Int)).f0 = par l i := rfl; omega)]
    have hq : (rd_T36 l (i : Int)).f0 = (((par l i).toNat : Nat) : Int) := by have : (rd_T36 l (i : Int)).f0 = par l i := rfl; omega
    by_cases c5 : (rd_T36 l ((rd_T36 l (i : Int)).f0)).f1 = 5
    · rw [if_pos c5, if_pos (show cont l (par l i).toNat from .inl (by rw [← hq]; exact c5))]; rfl
    rw [if_neg c5]
    by_cases c6 : (rd_T36 l ((rd_T36 l (i : Int)).f0)).f1 = 6
    · rw [if_pos c6, if_pos (show cont l (par l i).toNat from .inr (by rw [← hq]; exact c6))]; rfl
    rw [if_neg c6, if_neg (show ¬ cont l (par l i).toNat from fun hh => by unfold cont at hh; rw [← hq] at hh; rcases hh with hh | hh; exact c5 hh; exact c6 hh)]
  rw [e0]
  have hv : (tV l[i]).parent = par l i := by unfold par; rw [rdP l i hil]; rfl
  have hnone : ixM o (par l i) = none → (nextM (l.map tV) o i (tV l[i])).isSome = false := by
    intro hh; unfold nextM; rw [if_neg (by omega), hv, hh]; rfl
  by_cases c1 : par l i < 0
  · rw [if_pos c1, hnone (ixM_none fun j hj _ => by omega)]
  rw [if_neg c1]
  by_cases c2 : par l i ≥ (i : Int)
  · rw [if_pos c2, hnone (ixM_none fun j hj _ => by have := (h.cnt _ (List.getElem_mem hj)).1; omega)]
  rw [if_neg c2]
  obtain ⟨p, hp⟩ : ∃ p : Nat, par l i = (p : Int) := ⟨(par l i).toNat, by omega⟩
  have hpt : (par l i).toNat = p := by omega
  rw [hpt]
  by_cases c3 : cont l p
  · rw [if_pos c3]
    unfold placeG watchfireref24_in.f
    have hp' : (rd_T36 l (i : Int)).f0 = (p : Int) := hp
    rw [hp', wrapS ((i : Int) - 1) (by omega) (by omega), show (i : Int) - 1 = ((i - 1 : Nat) : Int) by omega, in_stk h hi (by omega) p (by omega) c3 n (by omega), Option.bind_some]
    by_cases hm : p ∈ o
    · rw [if_pos (by simp [hm])]
      obtain ⟨k, hix⟩ : ∃ k, ixM o (p : Int) = some k := by
        cases hh : ixM o (p : Int) with
        | none => exact absurd hm (ixM_mem.1 hh)
        | some k => exact ⟨k, rfl⟩
      obtain ⟨hk1, hk2⟩ := ixM_at hix
      have hok : o[k]? = some p := by rw [List.getElem?_eq_getElem hk1]; congr 1; omega
      have hd : watchfireref24_deep.f n l (i : Int) = some ((1 + k : Nat) : Int) := by
        obtain ⟨n, rfl⟩ : ∃ m, n = m + 1 := ⟨n - 1, by omega⟩
        unfold watchfireref24_deep.f
        rw [watchfireref24_deep.l0, if_pos (by omega), if_pos (by omega), hp', if_pos (by omega), wrapS ((0 : Int) + 1) (by omega) (by omega)]
        exact deep_chain h.chn hl k p n 1 hok (by omega) (by omega)
      rw [hd, Option.bind_some]
      have nm : nextM (l.map tV) o i (tV l[i]) = if 16 ≤ k + 1 then none else if (tV l[i]).name ≠ [] ∧ ((l.map tV).getD (o.getD k 0) ⟨0, 0, [], []⟩).kind ≠ 6 then none else some (stackM (tV l[i]) i (o.take (k + 1))) := by
        unfold nextM
        rw [if_neg (show ¬ i = 0 by omega), hv, hp, hix]
      rw [nm]
      by_cases c4 : 16 ≤ k + 1
      · rw [if_pos (by omega), if_pos c4]; rfl
      rw [if_neg (by omega), if_neg c4]
      have hname : ((rd_T36 l (i : Int)).f2.toList = ([] : List UInt8)) = ((tV l[i]).name = []) := by rw [rdP l i hil, ByteArray.toList_eq]; rfl
      have hgd : o.getD k 0 = p := by rw [List.getD_eq_getElem?_getD, hok]; rfl
      have hpl : p < l.length := by omega
      have hkd : ((l.map tV).getD p ⟨0, 0, [], []⟩).kind = 6 ↔ (rd_T36 l (p : Int)).f1 = 6 := by
        rw [List.getD_eq_getElem?_getD, List.getElem?_map, List.getElem?_eq_getElem hpl, rdP l p hpl]
        have := tV_kind (hk _ (List.getElem_mem hpl)) 6
        simp only [Option.map_some, Option.getD_some]
        rw [this]; rfl
      rw [hgd]
      by_cases c5 : (tV l[i]).name = []
      · rw [if_pos (by rw [hname]; exact c5), if_neg (by simp [c5])]; rfl
      rw [if_neg (by rw [hname]; exact c5)]
      by_cases c6 : (rd_T36 l (p : Int)).f1 = 6
      · rw [if_neg (fun hh => hh.2 (hkd.2 c6))]; simp [c6]
      · rw [if_pos ⟨c5, fun hh => c6 (hkd.1 hh)⟩]
        have : ((rd_T36 l (p : Int)).f1 == 6) = false := by simp [c6]
        rw [this]; rfl
    · rw [if_neg (by simp [hm]), hnone (by rw [hp]; exact ixM_mem.2 hm)]
  · rw [if_neg c3, hnone (by rw [hp]; exact ixM_mem.2 fun hm => c3 (h.cnt p hm).2)]

theorem cont_kind {l : List S36} (hk : ∀ x ∈ l, 0 ≤ x.f1) {i : Nat} (hil : i < l.length) : ((tV l[i]).kind = 5 ∨ (tV l[i]).kind = 6) ↔ cont l i := by
  have h := hk _ (List.getElem_mem hil)
  have e5 := tV_kind h 5
  have e6 := tV_kind h 6
  rw [e5, e6]
  unfold cont
  rw [rdP l i hil]; rfl
theorem stk_first {l : List S36} (hk : ∀ x ∈ l, 0 ≤ x.f1) (h0 : 0 < l.length) {o' : List Nat} (h : nextM (l.map tV) [] 0 (tV l[0]) = some o') : Stk l 1 o' := by
  unfold nextM at h
  rw [if_pos rfl] at h
  split at h
  · rename_i hh
    simp only [Option.some.injEq] at h
    have hroot : par l 0 = -1 := by unfold par; rw [rdP l 0 h0]; exact hh.1
    have ck := cont_kind hk h0
    unfold stackM at h
    by_cases c : cont l 0
    · rw [if_pos (ck.2 c)] at h
      subst h
      refine ⟨⟨hroot, fun a ha => by simpa using ha.symm, fun k a ha => ?_, fun k a b ha hb => by simp at hb⟩, fun a ha => ?_, fun _ => by simp, fun n => absurd c n, fun n => absurd c n⟩
      · have := List.mem_of_getElem? ha
        simp at this; omega
      · simp at ha; subst ha; exact ⟨by omega, c⟩
    · rw [if_neg (fun hh => c (ck.1 hh))] at h
      subst h
      exact ⟨⟨hroot, fun a ha => by simp at ha, fun k a ha => by simp at ha, fun k a b ha hb => by simp at hb⟩, fun a ha => by simp at ha, fun n => absurd n c, fun _ n => absurd rfl n, fun _ _ => rfl⟩
  · cases h
theorem stk_next {l : List S36} (hk : ∀ x ∈ l, 0 ≤ x.f1) {i : Nat} {o o' : List Nat} (hS : Stk l i o) (hi : 1 ≤ i) (hil : i < l.length) (h : nextM (l.map tV) o i (tV l[i]) = some o') : Stk l (i + 1) o' := by
  have hv : (tV l[i]).parent = par l i := by unfold par; rw [rdP l i hil]; rfl
  unfold nextM at h
  rw [if_neg (by omega), hv] at h
  cases hix : ixM o (par l i) with
  | none => rw [hix] at h; cases h
  | some k =>
    rw [hix] at h
    dsimp only at h
    split at h
    · cases h
    split at h
    · cases h
    simp only [Option.some.injEq] at h
    obtain ⟨hk1, hk2⟩ := ixM_at hix
    have ck := cont_kind hk hil
    have hT : ∀ j, (o.take (k + 1))[j]? = if j < k + 1 then o[j]? else none := fun j => List.getElem?_take
    have hlen : (o.take (k + 1)).length = k + 1 := by rw [List.length_take]; omega
    have hC : Chn l (o.take (k + 1)) := by
      refine ⟨hS.chn.root, fun a ha => ?_, fun j a ha => ?_, fun j a b ha hb => ?_⟩
      · rw [hT, if_pos (by omega)] at ha; exact hS.chn.at0 a ha
      · rw [hT] at ha; split at ha
        · exact hS.chn.low j a ha
        · cases ha
      · rw [hT] at ha hb
        split at hb
        · rw [if_pos (by omega)] at ha; exact hS.chn.step j a b ha hb
        · cases hb
    have hlast : (o.take (k + 1))[k]? = some o[k] := by rw [hT, if_pos (by omega), List.getElem?_eq_getElem hk1]
    have hgl : (o.take (k + 1)).getLast? = some o[k] := by rw [List.getLast?_eq_getElem?, hlen]; exact hlast
    have hin : ∀ a ∈ o.take (k + 1), a < i ∧ cont l a := fun a ha => hS.cnt a (List.mem_of_mem_take ha)
    unfold stackM at h
    by_cases c : cont l i
    · rw [if_pos (ck.2 c)] at h
      subst h
      refine ⟨⟨hC.root, fun a ha => ?_, fun j a ha => ?_, fun j a b ha hb => ?_⟩, fun a ha => ?_, fun _ => by simp, fun n => absurd c n, fun n => absurd c n⟩
      · rw [List.getElem?_append_left (by omega)] at ha; exact hC.at0 a ha
      · rcases List.mem_append.1 (List.mem_of_getElem? ha) with hm | hm
        · have := (hin a hm).1; omega
        · simp at hm; omega
      · by_cases hj : j + 1 < k + 1
        · rw [List.getElem?_append_left (by omega)] at ha hb
          exact hC.step j a b ha hb
        · have hjk : j = k := by
            have := (List.getElem?_eq_some_iff.1 hb).1
            simp only [List.length_append, hlen, List.length_cons, List.length_nil] at this
            omega
          subst hjk
          rw [List.getElem?_append_left (by omega), hlast] at ha
          rw [List.getElem?_append_right (by omega), hlen, Nat.sub_self] at hb
          simp only [List.getElem?_cons_zero, Option.some.injEq] at ha hb
          subst ha
          subst hb
          have := (hS.cnt _ (List.getElem_mem hk1)).1
          exact ⟨hk2.symm, this⟩
      · rcases List.mem_append.1 ha with hm | hm
        · have := hin a hm; exact ⟨by omega, this.2⟩
        · simp at hm; subst hm; exact ⟨by omega, c⟩
    · rw [if_neg (fun hh => c (ck.1 hh))] at h
      subst h
      exact ⟨hC, fun a ha => by have := hin a ha; exact ⟨by omega, this.2⟩, fun n => absurd n c, fun _ _ => ⟨o[k], hgl, hk2.symm⟩, fun _ n => absurd n (by omega)⟩
end Go.Proofs.YtbjidmijbphhgaaDoor

/- The document's Integer and one are json's. -/
namespace Go.Proofs.YtbjidmijbphhgaaDoor
open Go.RowKit Go.Proofs.YtbjidmijbphhgaaDoorW.PrintWords PPut
set_option linter.unusedVariables false
set_option linter.unusedSimpArgs false

def isD (b : UInt8) : Bool := decide (48 ≤ b.toNat) && decide (b.toNat ≤ 57)
theorem digs_isD (b : UInt8) : digs.contains b = isD b := by
  have h : ∀ n : Fin 256, digs.contains (UInt8.ofNat n.val) = isD (UInt8.ofNat n.val) := by decide +kernel
  have := h ⟨b.toNat, UInt8.toNat_lt b⟩
  simpa using this
theorem dw_nil (p : UInt8 → Bool) : ∀ l : Bytes, l.dropWhile p = [] ↔ ∀ x ∈ l, p x = true
  | [] => by simp
  | a :: l => by
    cases h : p a with
    | true => rw [List.dropWhile_cons_of_pos h, dw_nil p l]; simp [h]
    | false => rw [List.dropWhile_cons_of_neg (by simp [h])]; simp [h]
theorem trimS_all (d : Bytes) : (Lib.trimS d digs).isEmpty = d.all isD := by
  have hc : (fun b => digs.contains b) = isD := funext digs_isD
  unfold Lib.trimS Lib.trimLeftS Lib.trimRightS
  rw [hc]
  by_cases h : d.all isD = true
  · rw [h]
    have e : d.reverse.dropWhile isD = [] := by rw [dw_nil]; intro x hx; exact List.all_eq_true.1 h x (List.mem_reverse.1 hx)
    rw [e]; rfl
  · have hf : d.all isD = false := by simpa using h
    rw [hf]
    cases e : d.reverse.dropWhile isD with
    | nil =>
      rw [dw_nil] at e
      exact absurd (List.all_eq_true.2 fun x hx => e x (List.mem_reverse.2 hx)) h
    | cons a t =>
      have ha : isD a = false := by
        have := List.head?_dropWhile_not isD d.reverse
        rw [e] at this
        simpa using this
      have hm : a ∈ (a :: t).reverse := by simp
      cases e2 : (a :: t).reverse.dropWhile isD with
      | nil =>
        rw [dw_nil] at e2
        rw [e2 a hm] at ha; cases ha
      | cons b u => rfl

/-- What the document asks of the digits. -/
def bodyR (d : Bytes) : Bool := d.all isD && decide (1 ≤ d.length) && decide (d.length ≤ 18) && (d == [48] || d.head? != some 48)
theorem int_l0 (d : Bytes) (hd : d.length < 4611686018427387904) : ∀ (n i : Nat), i + n = d.length → (d.take i).all isD = true → ∀ m, n + 1 ≤ m → watchfireref24_Integer.l0 m (str d) (i : Int) = some (bodyR d)
  | 0, i, h, ha, m, hm => by
    obtain ⟨m, rfl⟩ : ∃ k, m = k + 1 := ⟨m - 1, by omega⟩
    rw [List.take_of_length_le (by omega)] at ha
    simp only [watchfireref24_Integer.l0, str_size]
    rw [if_neg (by omega)]
    unfold bodyR
    rw [ha]
    by_cases c1 : (d.length : Int) ≥ 1
    · rw [if_pos c1]
      by_cases c2 : (d.length : Int) ≤ 18
      · rw [if_pos c2, ByteArray.toList_eq, str_toList, show decide (1 ≤ d.length) = true from decide_eq_true (by omega), show decide (d.length ≤ 18) = true from decide_eq_true (by omega)]
        by_cases c3 : d = [48]
        · subst c3; rfl
        · rw [if_neg c3, if_pos (by omega), show (0 : Int) = ((0 : Nat) : Int) by rfl, bt_str]
          have e3 : (d == [48]) = false := by simp [c3]
          rw [e3]
          congr 1
          cases d with
          | nil => simp at c1
          | cons b t =>
            simp only [List.getD_cons_zero, List.head?_cons, Bool.true_and, Bool.false_or]
            by_cases e : b = 48
            · subst e; rfl
            · have n1 : ((b.toNat : Int) != 48) = true := by
                simp only [bne_iff_ne, ne_eq]
                intro h; exact e (UInt8.toNat_inj.1 (by simpa using (show b.toNat = 48 by omega)))
              rw [n1]; simp [e]
      · rw [if_neg c2, show decide (d.length ≤ 18) = false from decide_eq_false (by omega)]; simp
    · rw [if_neg c1, show decide (1 ≤ d.length) = false from decide_eq_false (by omega)]; simp
  | n + 1, i, h, ha, m, hm => by
    obtain ⟨m, rfl⟩ : ∃ k, m = k + 1 := ⟨m - 1, by omega⟩
    have hi : i < d.length := by omega
    rw [watchfireref24_Integer.l0, str_size, if_pos (by omega), if_pos (by omega), bt_str, wrapS ((i : Int) + 1) (by omega) (by omega), List.getD_eq_getElem?_getD, List.getElem?_eq_getElem hi, Option.getD_some]
    have hno : isD d[i] = false → bodyR d = false := by
      intro hb
      unfold bodyR
      have : d.all isD = false := by
        rw [List.all_eq_false]
        exact ⟨d[i], List.getElem_mem hi, by simp [hb]⟩
      rw [this]; rfl
    by_cases c1 : ((d[i].toNat : Nat) : Int) < 48
    · rw [if_pos c1, hno (by unfold isD; rw [show decide (48 ≤ d[i].toNat) = false from decide_eq_false (by omega)]; rfl)]
    rw [if_neg c1]
    by_cases c2 : ((d[i].toNat : Nat) : Int) > 57
    · rw [if_pos c2, hno (by unfold isD; rw [show decide (d[i].toNat ≤ 57) = false from decide_eq_false (by omega)]; simp)]
    rw [if_neg c2]
    have hd1 : isD d[i] = true := by unfold isD; rw [decide_eq_true (by omega), decide_eq_true (by omega)]; rfl
    refine int_l0 d hd n (i + 1) (by omega) ?_ m (by omega)
    rw [List.take_add_one, List.getElem?_eq_getElem hi, List.all_append, ha]
    simp [hd1]
theorem int_j1 (d : Bytes) (hd : d.length < 4611686018427387904) (m : Nat) (hm : d.length + 2 ≤ m) : watchfireref24_Integer.j1 m (str d) = some (bodyR d) := by
  obtain ⟨m, rfl⟩ : ∃ k, m = k + 1 := ⟨m - 1, by omega⟩
  rw [watchfireref24_Integer.j1]
  exact int_l0 d hd d.length 0 (by omega) (by simp) m (by omega)
theorem intM_body (s : Bytes) (hs : s.head? ≠ some 45) : intM s = bodyR s := by
  have hd : intD s = s := by
    unfold intD Lib.trimPrefix
    cases s with
    | nil => rfl
    | cons b t =>
      have h1 : b ≠ 45 := fun e => hs (by simp [e])
      have h2 : ¬ 45 = b := fun e => h1 e.symm
      simp [Lib.hasPrefix, h1, h2]
  unfold intM bodyR
  rw [hd, trimS_all]
  cases s with
  | nil => rfl
  | cons b t => simp [Bool.and_comm, Bool.and_left_comm, Bool.or_comm]
theorem intM_minus (t : Bytes) (ht : t ≠ []) : intM (45 :: t) = (t.head? != some 48 && bodyR t) := by
  have hd : intD (45 :: t) = t := by unfold intD Lib.trimPrefix; simp [Lib.hasPrefix]
  unfold intM bodyR
  rw [hd, trimS_all]
  cases t with
  | nil => exact absurd rfl ht
  | cons b u =>
    by_cases e : b = 48
    · subst e; simp
    · have hb : (some b != some (48 : UInt8)) = true := by simp [e]
      simp [hb, Bool.and_comm, Bool.and_left_comm]
theorem integer_f (s : Bytes) (hs : s.length < 4611686018427387904) (m : Nat) (hm : s.length + 6 ≤ m) : watchfireref24_Integer.f m (str s) = some (intM s) := by
  obtain ⟨m, rfl⟩ : ∃ k, m = k + 1 := ⟨m - 1, by omega⟩
  unfold watchfireref24_Integer.f
  rw [str_size, show (0 : Int) = ((0 : Nat) : Int) by rfl, bt_str]
  cases s with
  | nil =>
    rw [if_neg (by simp), watchfireref24_Integer.j0, if_neg (by simp), int_j1 [] hs m (by simp at hm ⊢; omega), intM_body [] (by simp)]
  | cons b t =>
    simp only [List.getD_cons_zero, List.length_cons]
    by_cases c : b = 45
    · subst c
      cases t with
      | nil =>
        rw [if_neg (by simp), watchfireref24_Integer.j0, if_neg (by simp), int_j1 _ hs m (by simp at hm ⊢; omega)]
        rfl
      | cons a u =>
        rw [if_pos (by simp only [List.length_cons]; omega), if_pos (by simp only [List.length_cons]; omega), watchfireref24_Integer.j0, if_pos (by rfl)]
        have hx : (str (45 :: a :: u)).extract 1 (str (45 :: a :: u)).size = str (a :: u) := str_drop (45 :: a :: u) 1
        rw [hx, str_size, if_pos (by simp only [List.length_cons]; omega), str_size, if_pos (by simp only [List.length_cons]; omega), show (0 : Int) = ((0 : Nat) : Int) by rfl, bt_str, int_j1 _ (by simp at hs ⊢; omega) m (by simp at hm ⊢; omega), intM_minus _ (by simp)]
        simp only [List.getD_cons_zero, List.head?_cons]
        by_cases e : a = 48
        · subst e; rw [if_pos (by rfl)]; rfl
        · have n1 : ¬ ((a.toNat : Int) = 48) := fun h => e (UInt8.toNat_inj.1 (by simpa using (show a.toNat = 48 by omega)))
          rw [if_neg n1]; simp [e]
    · have n1 : ((b.toNat : Int) == 45) = false := by
        simp only [beq_eq_false_iff_ne, ne_eq]
        intro h; exact c (UInt8.toNat_inj.1 (by simpa using (show b.toNat = 45 by omega)))
      have hb := intM_body (b :: t) (by simp [c])
      rw [n1]
      have hj : watchfireref24_Integer.j0 (m + 1) (str (b :: t)) false = some (intM (b :: t)) := by
        rw [watchfireref24_Integer.j0, if_neg (by simp), int_j1 _ hs m (by simp at hm ⊢; omega), hb]
      split
      · rw [if_pos (by omega)]; exact hj
      · exact hj

theorem right_f (s : ByteArray) (n : Nat) (hn : s.size + 9 ≤ n) : watchfireref24_Right.f n s = some (Lib.validD s.data.toList) := by
  have h := right_l0 (n - 9) s.data.toList (by rw [← str_size, str_of]; omega)
  rw [str_of, show n - 9 + 9 = n by omega] at h
  exact h
theorem one_f (x : S36) (hx : 0 ≤ x.f1) (n : Nat) (h2 : x.f2.size + 20 ≤ n) (h3 : x.f3.size + 20 ≤ n) (h4 : x.f3.size < 4611686018427387904) : watchfireref24_one.f n x.f0 x.f1 x.f2 x.f3 = some (oneM (tV x)) := by
  have k3 := tV_kind hx 3
  have k4 := tV_kind hx 4
  have hk : ((tV x).kind : Int) = x.f1 := by simp only [tV]; omega
  unfold watchfireref24_one.f oneM
  obtain ⟨n, rfl⟩ : ∃ m, n = m + 1 := ⟨n - 1, by omega⟩
  by_cases c6 : x.f1 > 6
  · rw [if_pos c6, if_pos (by omega), watchfireref24_one.j0, if_pos rfl]
  rw [if_neg c6, if_neg (by omega), right_f x.f2 (n + 1) (by omega), Option.bind_some, watchfireref24_one.j0]
  have hn : (tV x).name = x.f2.data.toList := rfl
  have ht : (tV x).text = x.f3.data.toList := rfl
  rw [hn, ht]
  cases hv : Lib.validD x.f2.data.toList with
  | false => rw [if_pos (by rfl), if_pos rfl]
  | true =>
    rw [if_neg (show ¬ ((!true) = true) by decide), if_neg (show ¬ (true = false) by decide)]
    by_cases c3 : x.f1 = 3
    · have p3 : (tV x).kind = 3 := by rw [k3]; exact c3
      rw [if_pos c3, if_pos p3]
      have h := integer_f x.f3.data.toList (by rw [← str_size, str_of]; exact h4) n (by rw [← str_size, str_of]; omega)
      rw [str_of] at h
      rw [h]; rfl
    have n3 : ¬ (tV x).kind = 3 := by rw [k3]; exact c3
    rw [if_neg c3, if_neg n3]
    by_cases c4 : x.f1 = 4
    · have p4 : (tV x).kind = 4 := by rw [k4]; exact c4
      rw [if_pos c4, if_pos p4, right_f x.f3 n (by omega)]; rfl
    have n4 : ¬ (tV x).kind = 4 := by rw [k4]; exact c4
    rw [if_neg c4, if_neg n4, ByteArray.toList_eq]
    congr 1
    cases x.f3.data.toList <;> rfl
end Go.Proofs.YtbjidmijbphhgaaDoor

/- The document's Check is json's: the first loop. -/
namespace Go.Proofs.YtbjidmijbphhgaaDoor
open Go.RowKit Go.Proofs.YtbjidmijbphhgaaDoorW.PrintWords PPut
set_option linter.unusedVariables false
set_option linter.unusedSimpArgs false

theorem place_first {l : List S36} (h0 : 0 < l.length) (n : Nat) : watchfireref24_place.f n l ((0 : Nat) : Int) = some (nextM (l.map tV) [] 0 (tV l[0])).isSome := by
  have hr := rdP l 0 h0
  unfold watchfireref24_place.f nextM
  rw [if_pos (by omega), if_pos (by omega), if_pos (by omega), if_pos rfl, hr]
  have hp : (tV l[0]).parent = l[0].f0 := rfl
  have hn : (tV l[0]).name = l[0].f2.data.toList := rfl
  rw [hp, hn, ByteArray.toList_eq]
  by_cases c : l[0].f0 = -1
  · rw [if_pos c]
    by_cases d : l[0].f2.data.toList = []
    · rw [if_pos ⟨c, d⟩, d]; rfl
    · rw [if_neg (fun hh => d hh.2)]
      have : (l[0].f2.data.toList == ([] : List UInt8)) = false := by simpa using d
      rw [this]; rfl
  · rw [if_neg c, if_neg (fun hh => c hh.1)]; rfl

/-- What is asked of the values, so that all is within reach. -/
structure Lite (N : Nat) (l : List S36) : Prop where
  len : l.length ≤ 512
  kind : ∀ x ∈ l, 0 ≤ x.f1
  size : ∀ x ∈ l, x.f2.size + 20 ≤ N ∧ x.f3.size + 20 ≤ N
  room : N < 4611686018427387904
  low : 20 ≤ N

theorem check_l0 {N : Nat} {l : List S36} (hL : Lite N l) (hne : 0 < l.length) : ∀ (m i : Nat) (o : List Nat), i + m = l.length → (i = 0 ∧ o = [] ∨ 1 ≤ i ∧ Stk l i o) → o.length ≤ 16 →
    watchfireref24_Check.l0 (N + m + 1) l (i : Int) = if shapeGo (l.map tV) i o ((l.map tV).drop i) = true then watchfireref24_Check.l1 N l 1 else some 4
  | 0, i, o, h, hS, ho => by
    rw [watchfireref24_Check.l0, if_neg (by omega), if_neg (by omega), List.drop_eq_nil_of_le (by rw [List.length_map]; omega), if_pos (by simp [shapeGo])]
  | m + 1, i, o, h, hS, ho => by
    have hi : i < l.length := by omega
    have hx := hL.size _ (List.getElem_mem hi)
    have hr := hL.room
    have hlow := hL.low
    have hpl : watchfireref24_place.f (N + (m + 1)) l (i : Int) = some (nextM (l.map tV) o i (tV l[i])).isSome := by
      rcases hS with ⟨rfl, rfl⟩ | ⟨h1, hS⟩
      · exact place_first hi _
      · exact place_eq hS h1 hi hL.len ho hL.kind _ (by omega)
    have hone := one_f l[i] (hL.kind _ (List.getElem_mem hi)) (N + (m + 1)) (by omega) (by omega) (by omega)
    have hdrop : (l.map tV).drop i = tV l[i] :: (l.map tV).drop (i + 1) := by
      rw [List.drop_eq_getElem_cons (by rw [List.length_map]; exact hi), List.getElem_map]
    rw [watchfireref24_Check.l0, if_pos (by omega), hpl, Option.bind_some, rdP l i hi, hdrop]
    have hlen := hL.len
    unfold shapeGo
    cases hx2 : nextM (l.map tV) o i (tV l[i]) with
    | none => rw [if_neg (by simp), if_neg (by simp)]
    | some o' =>
      rw [if_pos (by rfl), if_pos (by omega), hone, Option.bind_some, wrapS ((i : Int) + 1) (by omega) (by omega)]
      dsimp only
      cases h1 : oneM (tV l[i]) with
      | false => rw [if_neg (by simp), if_neg (by simp)]
      | true =>
        rw [if_pos rfl]
        have hS' : Stk l (i + 1) o' := by
          rcases hS with ⟨rfl, rfl⟩ | ⟨h1, hS⟩
          · exact stk_first hL.kind hi hx2
          · exact stk_next hL.kind hS h1 hi hx2
        have ho' : o'.length ≤ 16 := nextM_len hx2 (fun e => by
          rcases hS with ⟨_, rfl⟩ | ⟨h1, _⟩
          · rfl
          · omega)
        have := check_l0 hL hne m (i + 1) o' (by omega) (.inr ⟨by omega, hS'⟩) ho'
        rw [show ((i + 1 : Nat) : Int) = (i : Int) + 1 by omega] at this
        rw [show N + (m + 1) = N + m + 1 by omega, this]
        simp only [Bool.true_and]

/-! ### the second loop -/
def nam (l : List S36) (i : Nat) : Bytes := (rd_T36 l (i : Int)).f2.data.toList
def six (l : List S36) (i : Nat) : Prop := (rd_T36 l (par l i)).f1 = 6
instance (l : List S36) (i : Nat) : Decidable (six l i) := by unfold six; exact inferInstance
/-- Is there one from j on, n in all, of the same parent and name? -/
def hits (l : List S36) (i : Nat) : Nat → Nat → Bool
  | 0, _ => false
  | n + 1, j => (decide (par l j = par l i ∧ nam l j = nam l i ∧ six l i)) || hits l i n (j + 1)
def Pars (l : List S36) : Prop := ∀ i, 1 ≤ i → i < l.length → ∃ m : Nat, m < i ∧ par l i = (m : Int)
theorem check_l2 {l : List S36} (hl : l.length ≤ 512) (hP : Pars l) {i : Nat} (h1 : 1 ≤ i) (hi : i < l.length) (F : Nat) : ∀ (n j : Nat), j + n = i →
    watchfireref24_Check.l2 (F + n + 1) l (i : Int) (j : Int) = if hits l i n j = true then some 7 else watchfireref24_Check.l1 F l ((i + 1 : Nat) : Int)
  | 0, j, h => by
    rw [watchfireref24_Check.l2, if_neg (by omega), wrapS ((i : Int) + 1) (by omega) (by omega), if_neg (by simp [hits])]
    rfl
  | n + 1, j, h => by
    have ih := check_l2 hl hP h1 hi F n (j + 1) (by omega)
    obtain ⟨m, hm, hp⟩ := hP i h1 hi
    have hpi : (rd_T36 l (i : Int)).f0 = par l i := rfl
    have hpj : (rd_T36 l (j : Int)).f0 = par l j := rfl
    have hni : (rd_T36 l (i : Int)).f2.toList = nam l i := ByteArray.toList_eq _
    have hnj : (rd_T36 l (j : Int)).f2.toList = nam l j := ByteArray.toList_eq _
    rw [show ((j + 1 : Nat) : Int) = (j : Int) + 1 by omega] at ih
    rw [show F + (n + 1) + 1 = (F + n + 1) + 1 by omega, watchfireref24_Check.l2, if_pos (by omega), if_pos (by omega), if_pos (by omega), if_pos (by omega), if_pos (by omega), wrapS ((j : Int) + 1) (by omega) (by omega), hpi, hpj, hni, hnj, ih]
    have hu : hits l i (n + 1) j = ((decide (par l j = par l i ∧ nam l j = nam l i ∧ six l i)) || hits l i n (j + 1)) := rfl
    have hno : ¬ (par l j = par l i ∧ nam l j = nam l i ∧ six l i) → hits l i (n + 1) j = hits l i n (j + 1) := fun hh => by rw [hu, decide_eq_false hh, Bool.false_or]
    by_cases c1 : par l j = par l i
    · rw [if_pos c1]
      by_cases c2 : nam l j = nam l i
      · rw [if_pos c2, if_pos (by omega), if_pos (by omega)]
        by_cases c3 : (rd_T36 l (par l i)).f1 = 6
        · have hy : hits l i (n + 1) j = true := by rw [hu, decide_eq_true ⟨c1, c2, c3⟩, Bool.true_or]
          rw [if_pos c3, if_pos hy]
        · rw [if_neg c3, hno (fun hh => c3 hh.2.2)]
      · rw [if_neg c2, hno (fun hh => c2 hh.2.1)]
    · rw [if_neg c1, hno (fun hh => c1 hh.1)]
theorem hits_iff (l : List S36) (i : Nat) : ∀ (n j : Nat), hits l i n j = true ↔ ∃ k, j ≤ k ∧ k < j + n ∧ par l k = par l i ∧ nam l k = nam l i ∧ six l i
  | 0, j => by simp [hits]; intro k h1 h2; omega
  | n + 1, j => by
    unfold hits
    rw [Bool.or_eq_true, decide_eq_true_eq, hits_iff l i n (j + 1)]
    constructor
    · rintro (h | ⟨k, h1, h2, h3⟩)
      · exact ⟨j, Nat.le_refl _, by omega, h⟩
      · exact ⟨k, by omega, by omega, h3⟩
    · rintro ⟨k, h1, h2, h3⟩
      by_cases e : k = j
      · subst e; exact .inl h3
      · exact .inr ⟨k, by omega, by omega, h3⟩
theorem check_l1 {l : List S36} (hl : l.length ≤ 512) (hk : ∀ x ∈ l, 0 ≤ x.f1) (hP : Pars l) : ∀ (n i : Nat) (ks : List Mem), 1 ≤ i → i + n = l.length →
    (∀ z, z ∈ ks ↔ ∃ k, 1 ≤ k ∧ k < i ∧ six l k ∧ z = (par l k, nam l k)) → ∀ F, 1000 * n + 1 ≤ F →
    watchfireref24_Check.l1 F l (i : Int) = some (if dupGo (l.map tV) i ks ((l.map tV).drop i) = true then 7 else 0)
  | 0, i, ks, h1, h, hK, F, hF => by
    obtain ⟨F, rfl⟩ : ∃ m, F = m + 1 := ⟨F - 1, by omega⟩
    rw [watchfireref24_Check.l1, if_neg (by omega), List.drop_eq_nil_of_le (by rw [List.length_map]; omega)]
    simp [dupGo]
  | n + 1, i, ks, h1, h, hK, F, hF => by
    have hi : i < l.length := by omega
    obtain ⟨m, hm, hp⟩ := hP i h1 hi
    obtain ⟨G, rfl⟩ : ∃ G, F = (G + (i - 1) + 1) + 1 := ⟨F - i - 1, by omega⟩
    have hl2 := check_l2 hl hP h1 hi G (i - 1) 1 (by omega)
    rw [show ((1 : Nat) : Int) = 1 by rfl] at hl2
    have hdrop : (l.map tV).drop i = tV l[i] :: (l.map tV).drop (i + 1) := by
      rw [List.drop_eq_getElem_cons (by rw [List.length_map]; exact hi), List.getElem_map]
    have hv1 : (tV l[i]).parent = par l i := by unfold par; rw [rdP l i hi]; rfl
    have hv2 : (tV l[i]).name = nam l i := by unfold nam; rw [rdP l i hi]; rfl
    have hml : m < l.length := by omega
    have hkd : ((l.map tV).getD (tV l[i]).parent.toNat v0).kind = 6 ↔ six l i := by
      rw [hv1, hp, Int.toNat_natCast, List.getD_eq_getElem?_getD, List.getElem?_map, List.getElem?_eq_getElem hml]
      have := tV_kind (hk _ (List.getElem_mem hml)) 6
      simp only [Option.map_some, Option.getD_some]
      rw [this]; unfold six; rw [hp, rdP l m hml]; rfl
    rw [watchfireref24_Check.l1, if_pos (by omega), hl2, hdrop]
    unfold dupGo
    by_cases c : six l i
    · rw [if_neg (show ¬ (i = 0 ∨ ((l.map tV).getD (tV l[i]).parent.toNat v0).kind ≠ 6) from fun hh => by rcases hh with hh | hh; omega; exact hh (hkd.2 c)), hv1, hv2]
      by_cases d : (par l i, nam l i) ∈ ks
      · obtain ⟨k, k1, k2, k3, k4⟩ := (hK _).1 d
        have k5 := Prod.mk.inj k4
        rw [if_pos ((hits_iff l i (i - 1) 1).2 ⟨k, k1, by omega, k5.1.symm, k5.2.symm, c⟩), if_pos d]; rfl
      · have hno : ¬ hits l i (i - 1) 1 = true := fun hh => by
          obtain ⟨k, k1, k2, k3, k4, k5⟩ := (hits_iff l i (i - 1) 1).1 hh
          exact d ((hK _).2 ⟨k, k1, by omega, by unfold six; rw [k3]; exact c, by rw [k3, k4]⟩)
        rw [if_neg hno, if_neg d]
        refine check_l1 hl hk hP n (i + 1) _ (by omega) (by omega) (fun z => ?_) G (by omega)
        rw [List.mem_append, hK z, List.mem_singleton]
        constructor
        · rintro (⟨k, k1, k2, k3, k4⟩ | rfl)
          · exact ⟨k, k1, by omega, k3, k4⟩
          · exact ⟨i, h1, by omega, c, rfl⟩
        · rintro ⟨k, k1, k2, k3, k4⟩
          by_cases e : k = i
          · subst e; exact .inr k4
          · exact .inl ⟨k, k1, by omega, k3, k4⟩
    · have hno : ¬ hits l i (i - 1) 1 = true := fun hh => by
        obtain ⟨k, k1, k2, k3, k4, k5⟩ := (hits_iff l i (i - 1) 1).1 hh
        exact c k5
      rw [if_neg hno, if_pos (show (i = 0 ∨ ((l.map tV).getD (tV l[i]).parent.toNat v0).kind ≠ 6) from .inr fun hh => c (hkd.1 hh))]
      refine check_l1 hl hk hP n (i + 1) _ (by omega) (by omega) (fun z => ?_) G (by omega)
      rw [hK z]
      constructor
      · rintro ⟨k, k1, k2, k3, k4⟩; exact ⟨k, k1, by omega, k3, k4⟩
      · rintro ⟨k, k1, k2, k3, k4⟩
        by_cases e : k = i
        · subst e; exact absurd k3 c
        · exact ⟨k, k1, by omega, k3, k4⟩

/-- The document's Check is json's. -/
theorem check_f (l : List S36) (hk : ∀ x ∈ l, 0 ≤ x.f1) (N : Nat) (hN : 1000000 ≤ N) (hr : N < 4611686018427387904) (hs : ∀ x ∈ l, x.f2.size + 20 ≤ N ∧ x.f3.size + 20 ≤ N) :
    watchfireref24_Check.f (N + l.length + 1) l = some ((checkM (l.map tV) : Nat) : Int) := by
  unfold watchfireref24_Check.f checkM
  rw [List.length_map]
  by_cases c : 512 < l.length
  · rw [if_pos (by omega), if_pos c]; rfl
  rw [if_neg (by omega), if_neg c]
  cases l with
  | nil => simp [watchfireref24_Check.l0]
  | cons a r =>
    have hne : 0 < (a :: r).length := by simp
    have hL : Lite N (a :: r) := ⟨by omega, hk, hs, hr, by omega⟩
    have h := check_l0 hL hne (a :: r).length 0 [] (by omega) (.inl ⟨rfl, rfl⟩) (by simp)
    rw [show ((0 : Nat) : Int) = 0 by rfl] at h
    rw [h, List.drop_zero, if_neg (show ¬ (a :: r).map tV = [] by simp)]
    by_cases hg : shapeGo ((a :: r).map tV) 0 [] ((a :: r).map tV) = true
    · rw [if_pos hg, if_pos hg]
      have hP : Pars (a :: r) := by
        intro i h1 hi
        obtain ⟨m, hm, hpar⟩ := shapeGo_par _ 0 [] (by simp) hg i (tV (a :: r)[i]) (by rw [List.getElem?_map, List.getElem?_eq_getElem hi]; rfl) (by omega)
        refine ⟨m, by omega, ?_⟩
        unfold par; rw [rdP _ i hi]; exact hpar
      have h2 := check_l1 (by omega) hk hP r.length 1 [] (Nat.le_refl _) (by simp; omega) (fun z => ⟨fun h => by simp at h, fun ⟨k, k1, k2, _⟩ => by omega⟩) N (by simp at c; omega)
      have h3 : dupGo ((a :: r).map tV) 0 [] ((a :: r).map tV) = dupGo ((a :: r).map tV) 1 [] (((a :: r).map tV).drop 1) := by
        conv => lhs; rw [show ((a :: r).map tV) = tV a :: r.map tV from rfl]
        rw [dupGo.eq_2, if_pos (.inl rfl)]; rfl
      rw [show ((1 : Nat) : Int) = 1 by rfl] at h2
      rw [h2, h3]
      split <;> rfl
    · rw [if_neg hg, if_neg hg]; rfl
end Go.Proofs.YtbjidmijbphhgaaDoor

/- The tree that right values are. -/
namespace Go.Proofs.YtbjidmijbphhgaaDoor
open Go.RowKit Go.Proofs.YtbjidmijbphhgaaDoorW.PrintWords PPut
set_option linter.unusedVariables false
set_option linter.unusedSimpArgs false

/-- p is j, or stands above it. -/
inductive Anc (l : List S36) (p : Nat) : Nat → Prop where
  | refl : Anc l p p
  | step {j m : Nat} : par l j = (m : Int) → m < j → Anc l p m → Anc l p j
theorem Anc.le {l : List S36} {p j : Nat} (h : Anc l p j) : p ≤ j := by
  induction h with
  | refl => exact Nat.le_refl _
  | step _ h1 _ ih => omega
theorem chn_anc {l : List S36} {o : List Nat} (h : Chn l o) : ∀ (k a : Nat), o[k]? = some a → ∀ p ∈ o.take (k + 1), Anc l p a
  | 0, a, ha, p, hp => by
    have e : o.take 1 = [a] := by
      cases o with
      | nil => simp at ha
      | cons b o => simp at ha; simp [ha]
    rw [e] at hp; simp at hp; subst hp; exact .refl
  | k + 1, a, ha, p, hp => by
    have hk : k + 1 < o.length := (List.getElem?_eq_some_iff.1 ha).1
    obtain ⟨b, hb⟩ : ∃ b, o[k]? = some b := ⟨o[k], List.getElem?_eq_getElem (by omega)⟩
    obtain ⟨hpar, hlt⟩ := h.step k b a hb ha
    rw [List.take_add_one, ha] at hp
    rcases List.mem_append.1 hp with hp | hp
    · exact .step hpar hlt (chn_anc h k b hb p hp)
    · simp at hp; subst hp; exact .refl
theorem stk_anc {l : List S36} {i : Nat} {o : List Nat} (h : Stk l i o) (hi : 1 ≤ i) (p : Nat) (hp : p ∈ o) : Anc l p (i - 1) := by
  by_cases c : cont l (i - 1)
  · obtain ⟨h1, h2⟩ := last_at (h.hold c)
    exact chn_anc h.chn _ _ h1 p (by rw [h2]; exact hp)
  · by_cases z : i - 1 = 0
    · rw [h.lone c z] at hp; cases hp
    · obtain ⟨a, ha, hpa⟩ := h.bare c z
      obtain ⟨h1, h2⟩ := last_at ha
      have ha2 := chn_anc h.chn _ _ h1 p (by rw [h2]; exact hp)
      have hai := (h.cnt a (List.mem_of_getElem? h1)).1
      by_cases e : a = i - 1
      · rw [e] at ha2; exact ha2
      · exact .step hpa (by omega) ha2

/-- Each but the first stands in the one ahead, or in one above that. -/
structure Tree (l : List S36) : Prop where
  root : par l 0 = -1
  up : ∀ j, 1 ≤ j → j < l.length → ∃ m : Nat, m < j ∧ par l j = (m : Int) ∧ Anc l m (j - 1) ∧ cont l m
theorem next_par {l : List S36} {i : Nat} {o o' : List Nat} (hS : Stk l i o) (hi : 1 ≤ i) (hil : i < l.length) (h : nextM (l.map tV) o i (tV l[i]) = some o') : ∃ m : Nat, m < i ∧ par l i = (m : Int) ∧ Anc l m (i - 1) ∧ cont l m := by
  have hv : (tV l[i]).parent = par l i := by unfold par; rw [rdP l i hil]; rfl
  unfold nextM at h
  rw [if_neg (by omega), hv] at h
  cases hix : ixM o (par l i) with
  | none => rw [hix] at h; cases h
  | some k =>
    obtain ⟨hk1, hk2⟩ := ixM_at hix
    have hm : o[k] ∈ o := List.getElem_mem hk1
    exact ⟨o[k], (hS.cnt _ hm).1, hk2.symm, stk_anc hS hi _ hm, (hS.cnt _ hm).2⟩
theorem tree_from {l : List S36} (hk : ∀ x ∈ l, 0 ≤ x.f1) : ∀ (m i : Nat) (o : List Nat), i + m = l.length → 1 ≤ i → Stk l i o → shapeGo (l.map tV) i o ((l.map tV).drop i) = true →
    ∀ j, i ≤ j → j < l.length → ∃ m : Nat, m < j ∧ par l j = (m : Int) ∧ Anc l m (j - 1) ∧ cont l m
  | 0, i, o, h, h1, hS, hg, j, hj, hjl => by omega
  | m + 1, i, o, h, h1, hS, hg, j, hj, hjl => by
    have hi : i < l.length := by omega
    have hdrop : (l.map tV).drop i = tV l[i] :: (l.map tV).drop (i + 1) := by
      rw [List.drop_eq_getElem_cons (by rw [List.length_map]; exact hi), List.getElem_map]
    rw [hdrop] at hg
    unfold shapeGo at hg
    cases hx : nextM (l.map tV) o i (tV l[i]) with
    | none => rw [hx] at hg; cases hg
    | some o' =>
      rw [hx] at hg
      simp only [Bool.and_eq_true] at hg
      by_cases e : j = i
      · subst e; exact next_par hS h1 hi hx
      · exact tree_from hk m (i + 1) o' (by omega) (by omega) (stk_next hk hS h1 hi hx) hg.2 j (by omega) hjl
theorem tree_of {l : List S36} (hk : ∀ x ∈ l, 0 ≤ x.f1) (hne : 0 < l.length) (hg : shapeGo (l.map tV) 0 [] (l.map tV) = true) : Tree l := by
  have hdrop : l.map tV = tV l[0] :: (l.map tV).drop 1 := by
    have := List.drop_eq_getElem_cons (show 0 < (l.map tV).length by rw [List.length_map]; exact hne)
    rw [List.drop_zero, List.getElem_map] at this
    exact this
  have hg2 : shapeGo (l.map tV) 0 [] (tV l[0] :: (l.map tV).drop 1) = true := by rw [← hdrop]; exact hg
  unfold shapeGo at hg2
  cases hx : nextM (l.map tV) [] 0 (tV l[0]) with
  | none => rw [hx] at hg2; cases hg2
  | some o' =>
    rw [hx] at hg2
    simp only [Bool.and_eq_true] at hg2
    have hS := stk_first hk hne hx
    exact ⟨hS.chn.root, fun j h1 hj => tree_from hk (l.length - 1) 1 o' (by omega) (Nat.le_refl _) hS hg2.2 j h1 hj⟩

/-- What lies behind a whole part has no parent in it. -/
theorem closed {l : List S36} (hT : Tree l) {k e : Nat} (hk : k < e) (hin : ∀ j, k < j → j < e → (k : Int) ≤ par l j) (he : e < l.length → par l e < (k : Int)) :
    ∀ j, e ≤ j → j < l.length → ∀ p, Anc l p j → p < k ∨ e ≤ p := by
  intro j
  induction j using Nat.strongRecOn with
  | ind j ih =>
    intro hj hjl p hp
    cases hp with
    | refl => exact .inr hj
    | step hpar hlt ha =>
      rename_i m
      by_cases h1 : m < k
      · have := ha.le; exact .inl (by omega)
      by_cases h2 : e ≤ m
      · exact ih m hlt h2 (by omega) p ha
      -- m lies in the part: it cannot
      exfalso
      by_cases h3 : j = e
      · subst h3; have := he hjl; omega
      · obtain ⟨m', _, hm2, hm3, _⟩ := hT.up j (by omega) hjl
        have e2 : m' = m := by omega
        subst e2
        have := ih (j - 1) (by omega) (by omega) (by omega) m' hm3
        omega
theorem closed_par {l : List S36} (hT : Tree l) {k e : Nat} (hk : k < e) (hin : ∀ j, k < j → j < e → (k : Int) ≤ par l j) (he : e < l.length → par l e < (k : Int)) (j : Nat) (hj : e ≤ j) (hjl : j < l.length) : par l j < (k : Int) ∨ (e : Int) ≤ par l j := by
  obtain ⟨m, hm, hp, _, _⟩ := hT.up j (by omega) hjl
  have := closed hT hk hin he j hj hjl m (.step hp hm .refl)
  omega
end Go.Proofs.YtbjidmijbphhgaaDoor

/- Where a value ends, and what stands in it. -/
namespace Go.Proofs.YtbjidmijbphhgaaDoor
open Go.RowKit Go.Proofs.YtbjidmijbphhgaaDoorW.PrintWords PPut
set_option linter.unusedVariables false
set_option linter.unusedSimpArgs false

structure IsEnd (l : List S36) (k e : Nat) : Prop where
  lt : k < e
  le : e ≤ l.length
  inn : ∀ j, k < j → j < e → (k : Int) ≤ par l j
  out : e < l.length → par l e < (k : Int)
/-- Between two that stand in i. -/
structure Lp (l : List S36) (i k : Nat) : Prop where
  lt : i < k
  le : k ≤ l.length
  inn : ∀ j, i < j → j < k → (i : Int) ≤ par l j
  at' : k < l.length → par l k ≤ (i : Int)
theorem anc_in {l : List S36} {i k e : Nat} (hE : IsEnd l k e) (hki : par l k = (i : Int)) (hik : i < k) : ∀ x, k ≤ x → x < e → ∀ m, Anc l m x → k ≤ m ∨ m ≤ i := by
  intro x
  induction x using Nat.strongRecOn with
  | ind x ih =>
    intro h1 h2 m hm
    cases hm with
    | refl => exact .inl h1
    | step hpar hlt ha =>
      rename_i q
      by_cases e1 : x = k
      · subst e1
        have : q = i := by omega
        subst this
        exact .inr ha.le
      · have := hE.inn x (by omega) h2
        exact ih q hlt (by omega) (by omega) m ha
theorem lp_next {l : List S36} (hT : Tree l) {i k e : Nat} (hL : Lp l i k) (hki : par l k = (i : Int)) (hE : IsEnd l k e) : Lp l i e := by
  refine ⟨by have := hE.lt; have := hL.lt; omega, hE.le, fun j h1 h2 => ?_, fun he => ?_⟩
  · by_cases c1 : j < k
    · exact hL.inn j h1 c1
    by_cases c2 : j = k
    · subst c2; omega
    · have := hE.inn j (by omega) h2; have := hL.lt; omega
  · have hlt := hE.lt
    obtain ⟨m, hm, hp, ha, _⟩ := hT.up e (by omega) he
    have h1 := hE.out he
    have := anc_in hE hki hL.lt (e - 1) (by omega) (by omega) m ha
    omega
theorem lp_end {l : List S36} {i k : Nat} (hL : Lp l i k) (h : k < l.length → par l k ≠ (i : Int)) : IsEnd l i k :=
  ⟨hL.lt, hL.le, hL.inn, fun hk => by have := hL.at' hk; have := h hk; omega⟩
theorem lp_first {l : List S36} (hT : Tree l) {i : Nat} (hi : i < l.length) : Lp l i (i + 1) := by
  refine ⟨by omega, by omega, fun j h1 h2 => by omega, fun h => ?_⟩
  obtain ⟨m, hm, hp, _, _⟩ := hT.up (i + 1) (by omega) h
  omega
theorem end_bare {l : List S36} (hT : Tree l) {i : Nat} (hi : i < l.length) (hc : ¬ cont l i) : IsEnd l i (i + 1) := by
  refine lp_end (lp_first hT hi) (fun h e => ?_)
  obtain ⟨m, hm, hp, _, hcm⟩ := hT.up (i + 1) (by omega) h
  have : m = i := by omega
  subst this
  exact hc hcm

theorem ends {l : List S36} (hT : Tree l) (hk : ∀ x ∈ l, 0 ≤ x.f1) (f : Nat) : (∀ i, i < l.length → 2 * (l.length - i) < f → IsEnd l i (valW f (l.map tV) i).2) ∧
    (∀ k i o fi, Lp l i k → 2 * (l.length - k) + 1 < f → IsEnd l i (loopW f (l.map tV) k i o fi).2) := by
  induction f with
  | zero => exact ⟨fun i _ h => by omega, fun k i o fi _ h => by omega⟩
  | succ f ih =>
    obtain ⟨ih1, ih2⟩ := ih
    refine ⟨fun i hi hf => ?_, fun k i o fi hL hf => ?_⟩
    · have hg : (l.map tV)[i]? = some (tV l[i]) := by rw [List.getElem?_map, List.getElem?_eq_getElem hi]; rfl
      have ck := cont_kind hk hi
      have a1 := ih2 (i + 1) i false true (lp_first hT hi) (by omega)
      have b1 := ih2 (i + 1) i true true (lp_first hT hi) (by omega)
      unfold valW
      rw [hg]
      dsimp only
      by_cases c5 : (tV l[i]).kind = 5
      · simp only [c5]; exact a1
      by_cases c6 : (tV l[i]).kind = 6
      · simp only [c6]; exact b1
      have hc : ¬ cont l i := fun h => by rcases ck.2 h with h | h; exact c5 h; exact c6 h
      have hb := end_bare hT hi hc
      repeat' split
      all_goals first | exact hb | (exfalso; omega)
    · unfold loopW
      by_cases hkl : k < l.length
      · have hg : (l.map tV)[k]? = some (tV l[k]) := by rw [List.getElem?_map, List.getElem?_eq_getElem hkl]; rfl
        have hp : (tV l[k]).parent = par l k := by unfold par; rw [rdP l k hkl]; rfl
        rw [hg]
        dsimp only
        rw [hp]
        by_cases c : par l k = (i : Int)
        · rw [if_pos c]
          have e1 := ih1 k hkl (by omega)
          have := e1.lt
          exact ih2 _ i o false (lp_next hT hL c e1) (by omega)
        · rw [if_neg c]
          exact lp_end hL (fun _ => c)
      · have hg : (l.map tV)[k]? = none := by rw [List.getElem?_eq_none]; rw [List.length_map]; omega
        rw [hg]
        exact lp_end hL (fun h => absurd h hkl)
end Go.Proofs.YtbjidmijbphhgaaDoor

/- The document's Kids against one pass. -/
namespace Go.Proofs.YtbjidmijbphhgaaDoor
open Go.RowKit Go.Proofs.YtbjidmijbphhgaaDoorW.PrintWords PPut
set_option linter.unusedVariables false
set_option linter.unusedSimpArgs false

/-- Those of n values from i on that stand in a. -/
def kidsP (l : List S36) (a : Nat) : Nat → Nat → List Int
  | 0, _ => []
  | n + 1, i => if par l i = (a : Int) then (i : Int) :: kidsP l a n (i + 1) else kidsP l a n (i + 1)
theorem kidsP_ref (l : List S36) (a : Nat) (hl : l.length ≤ 600) : ∀ (n i : Nat) (acc : List Int), i + n = l.length → acc.length ≤ i → ∀ m, n + 1 ≤ m →
    watchfireref24_Kids.l0 m l (a : Int) acc (i : Int) = some (acc ++ kidsP l a n i)
  | 0, i, acc, h, ha, m, hm => by
    obtain ⟨m, rfl⟩ : ∃ k, m = k + 1 := ⟨m - 1, by omega⟩
    rw [watchfireref24_Kids.l0, if_neg (by omega)]; simp [kidsP]
  | n + 1, i, acc, h, ha, m, hm => by
    obtain ⟨m, rfl⟩ : ∃ k, m = k + 1 := ⟨m - 1, by omega⟩
    have hp : (rd_T36 l (i : Int)).f0 = par l i := rfl
    rw [watchfireref24_Kids.l0, if_pos (by omega), if_pos (by omega), wrapS ((i : Int) + 1) (by omega) (by omega), hp]
    unfold kidsP
    by_cases c : par l i = (a : Int)
    · rw [if_pos c, if_pos c, if_pos (by omega)]
      have := kidsP_ref l a hl n (i + 1) (acc ++ [(i : Int)]) (by omega) (by simp; omega) m (by omega)
      rw [List.append_assoc] at this
      exact this
    · rw [if_neg c, if_neg c]
      exact kidsP_ref l a hl n (i + 1) acc (by omega) (by omega) m (by omega)
theorem kidsP_f (l : List S36) (a : Nat) (hl : l.length ≤ 600) (m : Nat) (hm : l.length + 1 ≤ m) : watchfireref24_Kids.f m l (a : Int) = some (kidsP l a l.length 0) := kidsP_ref l a hl l.length 0 [] (by omega) (by simp) m hm
/-- Over those that do not stand in a. -/
theorem kidsP_skip (l : List S36) (a : Nat) : ∀ (d n i : Nat), (∀ j, i ≤ j → j < i + d → par l j ≠ (a : Int)) → kidsP l a (d + n) i = kidsP l a n (i + d)
  | 0, n, i, h => by rw [Nat.zero_add]; rfl
  | d + 1, n, i, h => by
    rw [show d + 1 + n = (d + n) + 1 by omega]
    have e : kidsP l a ((d + n) + 1) i = if par l i = (a : Int) then (i : Int) :: kidsP l a (d + n) (i + 1) else kidsP l a (d + n) (i + 1) := rfl
    rw [e, if_neg (h i (Nat.le_refl _) (by omega)), kidsP_skip l a d n (i + 1) (fun j h1 h2 => h j (by omega) (by omega)), show i + 1 + d = i + (d + 1) by omega]
theorem kidsP_none (l : List S36) (a n i : Nat) (h : ∀ j, i ≤ j → j < i + n → par l j ≠ (a : Int)) : kidsP l a n i = [] := by
  have := kidsP_skip l a n 0 i h
  rw [Nat.add_zero] at this
  rw [this]; rfl
theorem kidsP_start {l : List S36} (hT : Tree l) {a : Nat} (ha : a < l.length) : kidsP l a l.length 0 = kidsP l a (l.length - (a + 1)) (a + 1) := by
  have := kidsP_skip l a (a + 1) (l.length - (a + 1)) 0 (fun j h1 h2 => by
    by_cases c : j = 0
    · subst c; have := hT.root; omega
    · obtain ⟨m, hm, hp, _, _⟩ := hT.up j (by omega) (by omega)
      omega)
  rw [show a + 1 + (l.length - (a + 1)) = l.length by omega, Nat.zero_add] at this
  exact this
/-- One that stands in a, and then those behind its end. -/
theorem kidsP_one {l : List S36} {a k e : Nat} (hL : Lp l a k) (hk : k < l.length) (hp : par l k = (a : Int)) (hE : IsEnd l k e) : kidsP l a (l.length - k) k = (k : Int) :: kidsP l a (l.length - e) e := by
  have h1 := hE.lt
  have h2 := hE.le
  have h3 := hL.lt
  rw [show l.length - k = (l.length - k - 1) + 1 by omega]
  have e1 : kidsP l a ((l.length - k - 1) + 1) k = if par l k = (a : Int) then (k : Int) :: kidsP l a (l.length - k - 1) (k + 1) else kidsP l a (l.length - k - 1) (k + 1) := rfl
  rw [e1, if_pos hp]
  congr 1
  have := kidsP_skip l a (e - (k + 1)) (l.length - e) (k + 1) (fun j j1 j2 => by have := hE.inn j (by omega) (by omega); omega)
  rw [show e - (k + 1) + (l.length - e) = l.length - k - 1 by omega, show k + 1 + (e - (k + 1)) = e by omega] at this
  exact this
theorem kidsP_end {l : List S36} (hT : Tree l) {a k : Nat} (hL : Lp l a k) (h : k < l.length → par l k ≠ (a : Int)) : kidsP l a (l.length - k) k = [] := by
  have hE := lp_end hL h
  have hlt := hL.lt
  refine kidsP_none l a _ k (fun j j1 j2 => ?_)
  have := closed_par hT hE.lt hE.inn hE.out j j1 (by omega)
  omega
end Go.Proofs.YtbjidmijbphhgaaDoor

/- The document's text is json's. -/
namespace Go.Proofs.YtbjidmijbphhgaaDoor
open Go.RowKit Go.Proofs.YtbjidmijbphhgaaDoorW.PrintWords PPut
set_option linter.unusedVariables false
set_option linter.unusedSimpArgs false

theorem quote_ge (s : Bytes) (hs : 6 * s.length + 20 < 140737488355328) : ∀ (d : Nat), watchfireref24_quote.f (2 * s.length + 1 + d) (str s) = some (str (quoteM s))
  | 0 => by
    have h := quote_l0 s hs s.length 0 [34] (by omega) (by simp)
    exact h
  | d + 1 => watchfireref24_quote.mono _ _ _ (quote_ge s hs d)
theorem quote_at (s : Bytes) (hs : 6 * s.length + 20 < 140737488355328) (n : Nat) (hn : 2 * s.length + 1 ≤ n) : watchfireref24_quote.f n (str s) = some (str (quoteM s)) := by
  have := quote_ge s hs (n - (2 * s.length + 1))
  rw [show 2 * s.length + 1 + (n - (2 * s.length + 1)) = n by omega] at this
  exact this
theorem str_app (a b : Bytes) : str a ++ str b = str (a ++ b) := by
  apply ByteArray.ext
  simp [str, ByteArray.data_append]

theorem wt_drop_le (l : List Val) : ∀ i, wt (l.drop i) ≤ wt l := by
  induction l with
  | nil => intro i; simp
  | cons a l ih =>
    intro i
    cases i with
    | zero => simp
    | succ i =>
      have := ih i
      have e : wt (a :: l) = 6 * a.name.length + 6 * a.text.length + 20 + wt l := by simp [wt]
      rw [List.drop_succ_cons, e]; omega
theorem kidsP_len (l : List S36) (a : Nat) : ∀ n i, (kidsP l a n i).length ≤ n
  | 0, i => by simp [kidsP]
  | n + 1, i => by
    have := kidsP_len l a n (i + 1)
    unfold kidsP
    split <;> simp <;> omega

/-- What is asked of the values, so that their text is within reach. -/
structure Texts (Q : Nat) (l : List S36) : Prop where
  tree : Tree l
  kind : ∀ x ∈ l, 0 ≤ x.f1 ∧ x.f1 ≤ 6
  len : l.length ≤ 512
  q1 : ∀ x ∈ l, 2 * x.f2.size + 1 ≤ Q ∧ 2 * x.f3.size + 1 ≤ Q
  q2 : l.length + 1 ≤ Q
  room : wt (l.map tV) ≤ 1000000000000

theorem text_at {Q : Nat} {l : List S36} (hX : Texts Q l) (f : Nat) :
    (∀ i, i < l.length → 2 * (l.length - i) < f → ∀ n, Q + 3 * f ≤ n → watchfireref24_text.f n l (i : Int) = some (str (valW f (l.map tV) i).1)) ∧
    (∀ k i fi (acc : Bytes) (x6 : List Int) (x7 : Nat), i < l.length → cont l i → Lp l i k → 2 * (l.length - k) + 1 < f → x6.drop x7 = kidsP l i (l.length - k) k → x7 ≤ x6.length → x6.length ≤ 600 → (fi = true ↔ x7 = 0) →
      acc.length + wt ((l.map tV).drop k) ≤ 2000000000000 → ∀ n, Q + 3 * f ≤ n →
      watchfireref24_text.l0 n l (i : Int) (str acc) x6 (x7 : Int) = some (str ((if (rd_T36 l (i : Int)).f1 = 5 then [91] else [123]) ++ acc ++ (loopW f (l.map tV) k i (decide ((rd_T36 l (i : Int)).f1 = 6)) fi).1 ++ (if (rd_T36 l (i : Int)).f1 = 5 then [93] else [125])))) := by
  induction f with
  | zero => exact ⟨fun i _ h => by omega, fun k i fi acc x6 x7 _ _ _ h => by omega⟩
  | succ f ih =>
    obtain ⟨ih1, ih2⟩ := ih
    refine ⟨fun i hi hf n hn => ?_, fun k i fi acc x6 x7 hi hc hL hf hd h7 h6 hfi hroom n hn => ?_⟩
    · obtain ⟨n, rfl⟩ : ∃ m, n = m + 1 := ⟨n - 1, by omega⟩
      have hg : (l.map tV)[i]? = some (tV l[i]) := by rw [List.getElem?_map, List.getElem?_eq_getElem hi]; rfl
      have hk := hX.kind _ (List.getElem_mem hi)
      have hkk : ((tV l[i]).kind : Int) = l[i].f1 := by simp only [tV]; omega
      have ht : (tV l[i]).text = l[i].f3.data.toList := rfl
      have hst : str (tV l[i]).text = l[i].f3 := by rw [ht, str_of]
      have hw := wt_drop hg
      have hwl : wt ((l.map tV).drop i) ≤ 1000000000000 := Nat.le_trans (wt_drop_le _ _) hX.room
      rw [watchfireref24_text.f, if_pos (by omega), if_pos (by omega), rdP l i hi]
      unfold valW
      rw [hg]
      dsimp only
      by_cases c0 : l[i].f1 = 0
      · rw [if_pos c0, if_pos (show (tV l[i]).kind = 0 by omega)]; rfl
      rw [if_neg c0, if_neg (show ¬ (tV l[i]).kind = 0 by omega)]
      by_cases c1 : l[i].f1 = 1
      · rw [if_pos c1, if_pos (show (tV l[i]).kind = 1 by omega)]; rfl
      rw [if_neg c1, if_neg (show ¬ (tV l[i]).kind = 1 by omega)]
      by_cases c2 : l[i].f1 = 2
      · rw [if_pos c2, if_pos (show (tV l[i]).kind = 2 by omega)]; rfl
      rw [if_neg c2, if_neg (show ¬ (tV l[i]).kind = 2 by omega)]
      by_cases c3 : l[i].f1 = 3
      · rw [if_pos c3, if_pos (show (tV l[i]).kind = 3 by omega), ← hst]
      rw [if_neg c3, if_neg (show ¬ (tV l[i]).kind = 3 by omega)]
      by_cases c4 : l[i].f1 = 4
      · rw [if_pos c4, if_pos (show (tV l[i]).kind = 4 by omega), ← hst, quote_at _ (by omega) n (by
          have := (hX.q1 _ (List.getElem_mem hi)).2
          have e : (tV l[i]).text.length = l[i].f3.size := by rw [← str_size, hst]
          omega)]
        rfl
      rw [if_neg c4, if_neg (show ¬ (tV l[i]).kind = 4 by omega), kidsP_f l i (by have := hX.len; omega) n (by have := hX.q2; omega), Option.bind_some, kidsP_start hX.tree hi]
      have hci : cont l i := by
        unfold cont; rw [rdP l i hi]; omega
      have key := ih2 (i + 1) i true [] (kidsP l i (l.length - (i + 1)) (i + 1)) 0 hi hci (lp_first hX.tree hi) (by omega) (by simp) (by omega) (by have := kidsP_len l i (l.length - (i + 1)) (i + 1); have := hX.len; omega) (by simp) (by have := wt_drop_le (l.map tV) (i + 1); have := hX.room; simp only [List.length_nil]; omega) n (by omega)
      have e0 : (⟨#[]⟩ : ByteArray) = str [] := rfl
      rw [e0, show (0 : Int) = ((0 : Nat) : Int) by rfl, key, rdP l i hi]
      by_cases c5 : l[i].f1 = 5
      · rw [if_pos c5, if_pos c5, if_pos (show (tV l[i]).kind = 5 by omega), c5]; simp
      · have c6 : l[i].f1 = 6 := by omega
        rw [if_neg c5, if_neg c5, if_neg (show ¬ (tV l[i]).kind = 5 by omega), if_pos (show (tV l[i]).kind = 6 by omega), c6]; simp
    · obtain ⟨n, rfl⟩ : ∃ m, n = m + 2 := ⟨n - 2, by omega⟩
      have hlen := hX.len
      have hki := hX.kind _ (List.getElem_mem hi)
      by_cases c : k < l.length ∧ par l k = (i : Int)
      · unfold loopW
        obtain ⟨hkl, hp⟩ := c
        have hg : (l.map tV)[k]? = some (tV l[k]) := by rw [List.getElem?_map, List.getElem?_eq_getElem hkl]; rfl
        have hpv : (tV l[k]).parent = (i : Int) := by rw [← hp]; unfold par; rw [rdP l k hkl]; rfl
        have hE := (ends hX.tree (fun x hx => (hX.kind x hx).1) f).1 k hkl (by omega)
        have hW := (writes_len f).1 (l.map tV) k (tV l[k]) hg (by rw [List.length_map]; omega)
        have hA := ih1 k hkl (by omega) n (by omega)
        have hd1 := hd
        rw [kidsP_one hL hkl hp hE] at hd1
        rw [hg]
        dsimp only
        rw [if_pos hpv]
        obtain ⟨e, he⟩ : ∃ e, (valW f (l.map tV) k).2 = e := ⟨_, rfl⟩
        obtain ⟨T, hT⟩ : ∃ T, (valW f (l.map tV) k).1 = T := ⟨_, rfl⟩
        rw [he] at hd1 hE hW ⊢
        rw [hT] at hA hW ⊢
        have hx7 : x7 < x6.length := by
          rcases Nat.lt_or_ge x7 x6.length with h | h
          · exact h
          · rw [List.drop_eq_nil_of_le h] at hd1; cases hd1
        have hcons := List.drop_eq_getElem_cons hx7
        rw [hcons] at hd1
        have hk7 : x6[x7] = (k : Int) := (List.cons.inj hd1).1
        have hrest := (List.cons.inj hd1).2
        have hrd : rd x6 (x7 : Int) = (k : Int) := by
          unfold rd
          rw [Int.toNat_natCast, List.getD_eq_getElem?_getD, List.getElem?_eq_getElem hx7, ← hk7]; rfl
        have hW3 := hW.2.2
        have hnm : str (tV l[k]).name = l[k].f2 := str_of _
        have hnl : (tV l[k]).name.length = l[k].f2.size := by rw [← str_size, hnm]
        have hq := hX.q1 _ (List.getElem_mem hkl)
        have hqm := quoteM_len (tV l[k]).name
        have hwk := wt_drop_le (l.map tV) k
        have hroomX := hX.room
        have s44 : (⟨#[44]⟩ : ByteArray) = str [44] := rfl
        have s58 : (⟨#[58]⟩ : ByteArray) = str [58] := rfl
        have hj : ∀ acc1 : Bytes, acc1.length ≤ acc.length + 1 → watchfireref24_text.j1 (n + 1) l (i : Int) (str acc1) x6 (x7 : Int) = some (str ((if (rd_T36 l (i : Int)).f1 = 5 then [91] else [123]) ++ (acc1 ++ (if decide ((rd_T36 l (i : Int)).f1 = 6) = true then quoteM (tV l[k]).name ++ [58] else []) ++ T) ++ (loopW f (l.map tV) e i (decide ((rd_T36 l (i : Int)).f1 = 6)) false).1 ++ (if (rd_T36 l (i : Int)).f1 = 5 then [93] else [125]))) := by
          intro acc1 hacc
          have hx7r : (x7 : Int) < (x6.length : Int) := by omega
          by_cases c6 : (rd_T36 l (i : Int)).f1 = 6
          · have key := ih2 e i false (acc1 ++ (quoteM (tV l[k]).name ++ [58]) ++ T) x6 (x7 + 1) hi hc (lp_next hX.tree hL hp hE) (by have := hE.lt; omega) hrest (by omega) h6 (by simp) (by simp only [List.length_append, List.length_cons, List.length_nil]; omega) n (by omega)
            rw [watchfireref24_text.j1, if_pos (by omega), if_pos (by omega), if_pos c6, if_pos (by omega), if_pos hx7r, hrd, if_pos (by omega), if_pos (by omega), rdP l k hkl, ← hnm, quote_at _ (by omega) n (by omega), Option.bind_some, str_app, s58, str_app, hA]
            rw [str_size, str_size, str_size, if_pos (by omega), if_pos (by simp only [List.length_append]; omega), Option.bind_some, str_size, str_size, if_pos (by simp only [List.length_append, List.length_cons, List.length_nil]; omega), str_app, wrapS ((x7 : Int) + 1) (by omega) (by omega)]
            rw [if_pos (decide_eq_true c6)]
            rw [show ((x7 + 1 : Nat) : Int) = (x7 : Int) + 1 by omega] at key
            rw [← key]
            simp only [List.append_assoc]
          · have key := ih2 e i false (acc1 ++ [] ++ T) x6 (x7 + 1) hi hc (lp_next hX.tree hL hp hE) (by have := hE.lt; omega) hrest (by omega) h6 (by simp) (by simp only [List.length_append, List.length_nil]; omega) n (by omega)
            rw [watchfireref24_text.j1, if_pos (by omega), if_pos (by omega), if_neg c6, if_pos (by omega), if_pos hx7r, hrd, hA, Option.bind_some, str_size, str_size, if_pos (by omega), str_app, wrapS ((x7 : Int) + 1) (by omega) (by omega)]
            rw [if_neg (show ¬ (decide ((rd_T36 l (i : Int)).f1 = 6) = true) by simpa using c6)]
            rw [show ((x7 + 1 : Nat) : Int) = (x7 : Int) + 1 by omega] at key
            rw [← key]
            simp only [List.append_assoc, List.nil_append]
        rw [watchfireref24_text.l0, if_pos (by omega)]
        cases fi with
        | true =>
          have h0 : x7 = 0 := hfi.1 rfl
          rw [if_neg (by omega), hj acc (by omega)]
          simp only [List.append_assoc, if_true, List.nil_append]
        | false =>
          have h0 : x7 ≠ 0 := fun h => by have := hfi.2 h; cases this
          rw [if_pos (by omega), str_size, if_pos (by omega), s44, str_app, hj (acc ++ [44]) (by simp)]
          simp only [List.append_assoc]
          rfl
      · have hnil : x6.drop x7 = [] := by rw [hd]; exact kidsP_end hX.tree hL (fun h hh => c ⟨h, hh⟩)
        have hx7 : x6.length ≤ x7 := List.drop_eq_nil_iff.1 hnil
        have hloop : loopW (f + 1) (l.map tV) k i (decide ((rd_T36 l (i : Int)).f1 = 6)) fi = ([], k) := by
          unfold loopW
          by_cases hkl : k < l.length
          · have hg : (l.map tV)[k]? = some (tV l[k]) := by rw [List.getElem?_map, List.getElem?_eq_getElem hkl]; rfl
            have hpv : (tV l[k]).parent = par l k := by unfold par; rw [rdP l k hkl]; rfl
            rw [hg]
            dsimp only
            rw [hpv, if_neg (fun h => c ⟨hkl, h⟩)]
          · have hg : (l.map tV)[k]? = none := by rw [List.getElem?_eq_none]; rw [List.length_map]; omega
            rw [hg]
        rw [hloop, watchfireref24_text.l0, if_neg (by omega), if_pos (by omega), if_pos (by omega)]
        have s91 : (⟨#[91]⟩ : ByteArray) = str [91] := rfl
        have s93 : (⟨#[93]⟩ : ByteArray) = str [93] := rfl
        have s123 : (⟨#[123]⟩ : ByteArray) = str [123] := rfl
        have s125 : (⟨#[125]⟩ : ByteArray) = str [125] := rfl
        rw [s91, s93, s123, s125, str_app, str_app, str_app, str_app, str_size, str_size, str_size]
        by_cases c5 : (rd_T36 l (i : Int)).f1 = 5
        · rw [if_pos c5, if_pos (by omega), if_pos (by simp only [List.length_append, List.length_cons, List.length_nil]; omega), if_pos c5, if_pos c5]; simp
        · rw [if_neg c5, if_pos (by omega), if_pos (by simp only [List.length_append, List.length_cons, List.length_nil]; omega), if_neg c5, if_neg c5]; simp
end Go.Proofs.YtbjidmijbphhgaaDoor

/- The document's Put is json's. -/
namespace Go.Proofs.YtbjidmijbphhgaaDoor
open Go.RowKit Go.Proofs.YtbjidmijbphhgaaDoorW.PrintWords PPut
set_option linter.unusedVariables false

theorem put_f (l : List S36) (hk : ∀ x ∈ l, 0 ≤ x.f1) (Q : Nat) (hs : ∀ x ∈ l, 2 * x.f2.size + 20 ≤ Q ∧ 2 * x.f3.size + 20 ≤ Q) (hQ : Q ≤ 1000000000000) (hQ2 : 600 ≤ Q) (hw : wt (l.map tV) ≤ 1000000000000) :
    ∃ k, watchfireref24_Put.f k l = some (str (putM (l.map tV)).1, ((putM (l.map tV)).2 : Int)) := by
  refine ⟨(1000000 + Q + 7000) + l.length + 1, ?_⟩
  unfold watchfireref24_Put.f
  rw [check_f l hk (1000000 + Q + 7000) (by omega) (by omega) (fun x hx => by have := hs x hx; omega), Option.bind_some]
  unfold putM
  by_cases c : checkM (l.map tV) = 0
  · obtain ⟨c1, c2, c3, c4⟩ := checkM_zero c
    rw [List.length_map] at c1
    have hne : 0 < l.length := by
      rcases l with _ | ⟨a, r⟩
      · exact absurd rfl c2
      · simp
    have hsix : ∀ x ∈ l, 0 ≤ x.f1 ∧ x.f1 ≤ 6 := by
      intro x hx
      have h1 := shapeGo_one _ 0 [] c3 (tV x) (List.mem_map_of_mem hx)
      have h2 := hk x hx
      have hkk : ((tV x).kind : Int) = x.f1 := by simp only [tV]; omega
      refine ⟨h2, ?_⟩
      unfold oneM at h1
      split at h1
      · cases h1
      · omega
    have hX : Texts Q l := ⟨tree_of hk hne c3, hsix, c1, fun x hx => by have := hs x hx; omega, by omega, hw⟩
    have h := (text_at hX (2 * l.length + 1)).1 0 hne (by omega) (1000000 + Q + 7000 + l.length + 1) (by omega)
    rw [show ((0 : Nat) : Int) = 0 by rfl] at h
    rw [c, if_pos rfl, if_pos (by rfl), h, Option.bind_some]
    simp only [textM, List.length_map]; rfl
  · rw [if_neg c, if_neg (by omega)]; rfl
end Go.Proofs.YtbjidmijbphhgaaDoor
