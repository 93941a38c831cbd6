/- What is read is a right list of values, no greater than its text. -/
import Derived.Test.YtbjidmijbphhgaaDoorBkD
namespace Go.Proofs.YtbjidmijbphhgaaDoor
open Go.RowKit
set_option linter.unusedVariables false
set_option linter.unusedSimpArgs false

theorem valid_app (n : Nat) : ∀ (a b : Bytes), a.length ≤ n → Lib.validD a = true → Lib.validD b = true → Lib.validD (a ++ b) = true := by
  induction n with
  | zero =>
    intro a b h _ hb
    obtain rfl : a = [] := List.eq_nil_of_length_eq_zero (by omega)
    exact hb
  | succ n ih =>
    intro a b h ha hb
    by_cases hne : a = []
    · subst hne; exact hb
    obtain ⟨p, u, r, rfl, hp, hu⟩ := valid_split hne ha
    have hl : 1 ≤ p.length := List.length_pos_iff.2 hp.ne
    rw [List.length_append] at h
    rw [List.append_assoc, hp.valid]
    exact ih u b (by omega) hu hb
theorem valid_one {c : UInt8} (h : c.toNat < 128) : Lib.validD [c] = true := by rw [Lib.validD_cons c [] h]; rfl
theorem u8_of (x : Int) (h0 : 0 ≤ x) (h : x < 256) : (x.toNat.toUInt8).toNat = x.toNat := by
  simp [Nat.toUInt8]; omega
theorem enc_valid (r : Nat) (h : r < 55296 ∨ (57344 ≤ r ∧ r ≤ 1114111)) : Lib.validD (Lib.encodeRune (r : Int)) = true ∧ (Lib.encodeRune (r : Int)).length ≤ 4 ∧ (r < 65536 → (Lib.encodeRune (r : Int)).length ≤ 3) := by
  unfold Lib.encodeRune
  by_cases c1 : r < 128
  · rw [Lib.encodeRuneZ_one (by omega) (by omega)]
    exact ⟨valid_one (by rw [u8_of _ (by omega) (by omega)]; omega), by simp, by simp⟩
  by_cases c2 : r < 2048
  · rw [Lib.encodeRuneZ_two (by omega) (by omega)]
    refine ⟨?_, by simp, by simp⟩
    simp only [List.map_cons, List.map_nil]
    rw [Lib.validD_step _ (by simp), Lib.decodeL_N]
    simp only [List.length_cons, List.length_nil, List.getD_cons_zero, List.getD_cons_succ, List.getD_nil]
    rw [u8_of _ (by omega) (by omega), u8_of _ (by omega) (by omega)]
    have e : Lib.decodeN 2 ((192 + (r : Int) / 64).toNat) ((128 + (r : Int) % 64).toNat) 0 0 = (r, 2) := by
      unfold Lib.decodeN
      rw [if_neg (by omega), if_pos (by omega), if_pos (by omega)]
      congr 1; omega
    have e' : Lib.decodeN (0 + 1 + 1) ((192 + (r : Int) / 64).toNat) ((128 + (r : Int) % 64).toNat) ((0 : UInt8).toNat) ((0 : UInt8).toNat) = (r, 2) := e
    rw [e', if_neg (by simp)]; rfl
  by_cases c3 : r < 65536
  · rw [Lib.encodeRuneZ_three (by omega)]
    refine ⟨?_, by simp, by simp⟩
    simp only [List.map_cons, List.map_nil]
    rw [Lib.validD_step _ (by simp), Lib.decodeL_N]
    simp only [List.length_cons, List.length_nil, List.getD_cons_zero, List.getD_cons_succ, List.getD_nil]
    rw [u8_of _ (by omega) (by omega), u8_of _ (by omega) (by omega), u8_of _ (by omega) (by omega)]
    have e : Lib.decodeN 3 ((224 + (r : Int) / 4096).toNat) ((128 + (r : Int) / 64 % 64).toNat) ((128 + (r : Int) % 64).toNat) 0 = (r, 3) := by
      unfold Lib.decodeN
      rw [if_neg (by omega), if_neg (by omega), if_pos (by omega), if_pos (by omega)]
      congr 1; omega
    have e' : Lib.decodeN (0 + 1 + 1 + 1) ((224 + (r : Int) / 4096).toNat) ((128 + (r : Int) / 64 % 64).toNat) ((128 + (r : Int) % 64).toNat) ((0 : UInt8).toNat) = (r, 3) := e
    rw [e', if_neg (by simp)]; rfl
  · rw [Lib.encodeRuneZ_four (by omega) (by omega)]
    refine ⟨?_, by simp, fun hh => by omega⟩
    simp only [List.map_cons, List.map_nil]
    rw [Lib.validD_step _ (by simp), Lib.decodeL_N]
    simp only [List.length_cons, List.length_nil, List.getD_cons_zero, List.getD_cons_succ, List.getD_nil]
    rw [u8_of _ (by omega) (by omega), u8_of _ (by omega) (by omega), u8_of _ (by omega) (by omega), u8_of _ (by omega) (by omega)]
    have e : Lib.decodeN 4 ((240 + (r : Int) / 262144).toNat) ((128 + (r : Int) / 4096 % 64).toNat) ((128 + (r : Int) / 64 % 64).toNat) ((128 + (r : Int) % 64).toNat) = (r, 4) := by
      unfold Lib.decodeN
      rw [if_neg (by omega), if_neg (by omega), if_neg (by omega), if_pos (by omega), if_pos (by omega)]
      congr 1; omega
    have e' : Lib.decodeN (0 + 1 + 1 + 1 + 1) ((240 + (r : Int) / 262144).toNat) ((128 + (r : Int) / 4096 % 64).toNat) ((128 + (r : Int) / 64 % 64).toNat) ((128 + (r : Int) % 64).toNat) = (r, 4) := e
    rw [e', if_neg (by simp)]; rfl

theorem four_len {s t : Bytes} {m : Nat} (h : fourM s = some (m, t)) : t.length + 4 = s.length ∧ m < 65536 := by
  match s, h with
  | a :: b :: c :: d :: u, h =>
    simp only [fourM, Option.bind_eq_some_iff, Option.map_eq_some_iff, Prod.mk.injEq] at h
    obtain ⟨x, hx, y, hy, z, hz, v, hv, rfl, rfl⟩ := h
    have l1 : ∀ (c : UInt8) (v : Nat), hexV c = some v → v < 16 := by
      intro c v h
      unfold hexV at h
      dsimp only at h
      split at h
      · simp only [Option.some.injEq] at h; omega
      split at h
      · simp only [Option.some.injEq] at h; omega
      split at h
      · simp only [Option.some.injEq] at h; omega
      · cases h
    have a1 := l1 _ _ hx
    have a2 := l1 _ _ hy
    have a3 := l1 _ _ hz
    have a4 := l1 _ _ hv
    exact ⟨by simp, by simp only [hexN, List.foldl]; omega⟩
theorem uni_len {s t : Bytes} {m : Nat} (h : uniM s = some (m, t)) : (m < 55296 ∨ (57344 ≤ m ∧ m ≤ 1114111)) ∧ (Lib.encodeRune (m : Int)).length + t.length ≤ s.length := by
  unfold uniM at h
  split at h
  · cases h
  rename_i c u h4
  obtain ⟨h1, h2⟩ := four_len h4
  split at h
  · rename_i g
    simp only [Option.some.injEq, Prod.mk.injEq] at h
    obtain ⟨rfl, rfl⟩ := h
    have h3 : c < 55296 ∨ (57344 ≤ c ∧ c ≤ 1114111) := by omega
    have := (enc_valid c h3).2.2 (by omega)
    exact ⟨h3, by omega⟩
  split at h
  · rename_i g1 g
    split at h
    · cases h
    rename_i d v h5
    obtain ⟨h6, h7⟩ := four_len h5
    split at h
    · rename_i g2
      simp only [Option.some.injEq, Prod.mk.injEq] at h
      obtain ⟨rfl, rfl⟩ := h
      rw [List.length_drop] at h6
      have h3 : 65536 + (c - 55296) * 1024 + (d - 56320) < 55296 ∨ (57344 ≤ 65536 + (c - 55296) * 1024 + (d - 56320) ∧ 65536 + (c - 55296) * 1024 + (d - 56320) ≤ 1114111) := by omega
      have := (enc_valid _ h3).2.1
      exact ⟨h3, by omega⟩
    · cases h
  · cases h
theorem esc_good {s x t : Bytes} (h : escM s = some (x, t)) : Lib.validD x = true ∧ x.length + t.length ≤ s.length := by
  cases s with
  | nil => cases h
  | cons c u =>
    simp only [escM] at h
    split at h
    · rename_i g
      simp only [Option.some.injEq, Prod.mk.injEq] at h
      obtain ⟨rfl, rfl⟩ := h
      exact ⟨valid_one (by rcases g with rfl | rfl | rfl <;> decide), by simp; omega⟩
    repeat' split at h
    all_goals first
      | (simp only [Option.some.injEq, Prod.mk.injEq] at h
         obtain ⟨rfl, rfl⟩ := h
         exact ⟨valid_one (by decide), by simp; omega⟩)
      | (simp only [Option.map_eq_some_iff, Prod.mk.injEq, Prod.exists] at h
         obtain ⟨m, v, hm, rfl, rfl⟩ := h
         obtain ⟨h1, h2⟩ := uni_len hm
         exact ⟨(enc_valid m h1).1, by simp; omega⟩)
      | cases h
theorem quot_good (f : Nat) : ∀ {s out x t : Bytes}, quotM f s out = some (x, t) → Lib.validD out = true → Lib.validD x = true ∧ x.length + t.length + 1 ≤ out.length + s.length := by
  induction f with
  | zero => intro s out x t h; cases h
  | succ f ih =>
    intro s out x t h ho
    cases s with
    | nil => cases h
    | cons c u =>
      rw [quotM_cons] at h
      split at h
      · cases h
      split at h
      · simp only [Option.some.injEq, Prod.mk.injEq] at h
        obtain ⟨rfl, rfl⟩ := h
        exact ⟨ho, by simp; omega⟩
      split at h
      · simp only [Option.bind_eq_some_iff] at h
        obtain ⟨z, hz, hq⟩ := h
        obtain ⟨h1, h2⟩ := esc_good (x := z.1) (t := z.2) hz
        obtain ⟨h3, h4⟩ := ih hq (valid_app _ _ _ (Nat.le_refl _) ho h1)
        refine ⟨h3, ?_⟩
        simp only [List.length_append, List.length_cons] at h4 ⊢; omega
      split at h
      · cases h
      · rename_i g
        have hne : c :: u ≠ [] := by simp
        have hd := dec_go (c :: u) hne
        rw [hd] at h g
        have hw := Lib.decodeL_width (c :: u)
        obtain ⟨h1, h2⟩ := piece_of hne (fun hh => g ⟨hh.1, by omega⟩)
        have hv : Lib.validD ((c :: u).take (Lib.decodeL (c :: u)).2) = true := by
          have := h2.valid []
          rw [List.append_nil] at this
          rw [this]; rfl
        obtain ⟨h3, h4⟩ := ih h (valid_app _ _ _ (Nat.le_refl _) ho hv)
        refine ⟨h3, ?_⟩
        simp only [List.length_append, List.length_take, List.length_drop] at h4
        omega
theorem skip_le (s : Bytes) : (skip s).length ≤ s.length := (List.dropWhile_sublist _).length_le
theorem quoted_good {s x t : Bytes} (h : quotedM s = some (x, t)) : Lib.validD x = true ∧ x.length + t.length + 2 ≤ s.length := by
  have hs := skip_le s
  unfold quotedM at h
  split at h
  · cases h
  rename_i c u hk
  split at h
  · obtain ⟨h1, h2⟩ := quot_good _ h rfl
    rw [hk] at hs
    simp only [List.length_cons, List.length_nil] at hs h2
    exact ⟨h1, by omega⟩
  · cases h

/-! ### lists as they are read -/
inductive Run : List Val → List Nat → Prop where
  | first {v : Val} {o : List Nat} : nextM [v] [] 0 v = some o → oneM v = true → Run [v] o
  | snoc {l : List Val} {o : List Nat} {v : Val} {o' : List Nat} : Run l o → nextM (l ++ [v]) o l.length v = some o' → oneM v = true → Run (l ++ [v]) o'
theorem stack_low {v : Val} {i : Nat} {o : List Nat} (h : ∀ m ∈ o, m < i) : ∀ m ∈ stackM v i o, m < i + 1 := by
  intro m hm
  unfold stackM at hm
  split at hm
  · rcases List.mem_append.1 hm with h' | h'
    · have := h m h'; omega
    · simp at h'; omega
  · have := h m hm; omega
theorem next_low {l : List Val} {o o' : List Nat} {i : Nat} {v : Val} (h : nextM l o i v = some o') (h0 : ∀ m ∈ o, m < i) : ∀ m ∈ o', m < i + 1 := by
  unfold nextM at h
  split at h
  · split at h
    · simp only [Option.some.injEq] at h; rw [← h]; exact stack_low h0
    · cases h
  · split at h
    · cases h
    split at h
    · cases h
    split at h
    · cases h
    · simp only [Option.some.injEq] at h; rw [← h]; exact stack_low (fun m hm => h0 m (List.mem_of_mem_take hm))
theorem Run.low {l : List Val} {o : List Nat} (h : Run l o) : ∀ m ∈ o, m < l.length := by
  induction h with
  | first h _ => intro m hm; have := next_low h (by simp) m hm; simpa using this
  | snoc hr h _ ih => intro m hm; have := next_low h ih m hm; simpa using this
theorem Run.ne {l : List Val} {o : List Nat} (h : Run l o) : l ≠ [] := by cases h <;> simp
theorem next_ext {l ext : List Val} {o : List Nat} {i : Nat} {v : Val} (h : ∀ m ∈ o, m < l.length) : nextM (l ++ ext) o i v = nextM l o i v := by
  unfold nextM
  split
  · rfl
  · cases hix : ixM o v.parent with
    | none => rfl
    | some k =>
      obtain ⟨h1, q, h2, _⟩ := ixM_mem' hix
      have hq : o.getD k 0 = q := by rw [List.getD_eq_getElem?_getD, h2]; rfl
      have hlt := h q (List.mem_of_getElem? h2)
      have e : (l ++ ext).getD q ⟨0, 0, [], []⟩ = l.getD q ⟨0, 0, [], []⟩ := by
        rw [List.getD_eq_getElem?_getD, List.getD_eq_getElem?_getD, List.getElem?_append_left hlt]
      dsimp only
      rw [hq, e]
theorem Run.shape {l : List Val} {o : List Nat} (h : Run l o) : ∀ ext r, shapeGo (l ++ ext) 0 [] (l ++ r) = shapeGo (l ++ ext) l.length o r := by
  induction h with
  | first h h1 =>
    intro ext r
    rename_i v o
    have e : nextM ([v] ++ ext) [] 0 v = some o := by rw [← h]; rfl
    show shapeGo ([v] ++ ext) 0 [] (v :: r) = _
    rw [shapeGo, e]
    dsimp only
    rw [h1]; rfl
  | snoc hr h h1 ih =>
    intro ext r
    rename_i l o v o'
    have e : nextM (l ++ [v] ++ ext) o l.length v = some o' := by rw [next_ext (fun m hm => by have := hr.low m hm; simp; omega)]; exact h
    have := ih ([v] ++ ext) (v :: r)
    rw [← List.append_assoc] at this
    rw [List.append_assoc l [v] r]
    show shapeGo (l ++ [v] ++ ext) 0 [] (l ++ (v :: r)) = _
    rw [this, shapeGo, e]
    dsimp only
    rw [h1, List.length_append]; rfl
theorem Run.par {l : List Val} {o : List Nat} (h : Run l o) : ∀ (k : Nat) (w : Val), l[k]? = some w → w.parent < (k : Int) := by
  induction h with
  | first h h1 =>
    rename_i v o
    intro k w hw
    cases k with
    | zero =>
      simp at hw; subst hw
      unfold nextM at h
      rw [if_pos rfl] at h
      split at h
      · rename_i c; have := c.1; omega
      · cases h
    | succ k => simp at hw
  | snoc hr h h1 ih =>
    rename_i l o v o'
    intro k w hw
    by_cases hk : k < l.length
    · rw [List.getElem?_append_left hk] at hw; exact ih k w hw
    · have hkl : k = l.length := by
        have := (List.getElem?_eq_some_iff.1 hw).1
        simp at this; omega
      subst hkl
      simp at hw; subst hw
      have hp : 1 ≤ l.length := List.length_pos_iff.2 hr.ne
      obtain ⟨p, hp1, hp2⟩ := next_mem hp h
      have := hr.low p hp1
      omega
/-- The chain of the open ones is b, then i, and perhaps more. -/
structure At (l : List Val) (b : List Nat) (i : Nat) : Prop where
  run : ∃ ext, Run l (b ++ [i] ++ ext)
  inc : (b ++ [i]).Pairwise (· < ·)
theorem At.low {l : List Val} {b : List Nat} {i : Nat} (h : At l b i) : ∀ m ∈ b ++ [i], m < l.length := by
  obtain ⟨ext, hr⟩ := h.run
  exact fun m hm => hr.low m (by simp at hm ⊢; rcases hm with h | h <;> simp [h])
theorem At.push {l : List Val} {b : List Nat} {i : Nat} {v : Val} (h : At l b i) (hn : b.length + 1 < 16) (hp : v.parent = (i : Int)) (hk : v.name = [] ∨ (l.getD i v0).kind = 6) (h1 : oneM v = true) : Run (l ++ [v]) (stackM v l.length (b ++ [i])) := by
  obtain ⟨ext, hr⟩ := h.run
  have hlow := h.low
  refine .snoc hr ?_ h1
  have hpos : 1 ≤ l.length := List.length_pos_iff.2 hr.ne
  have hne := not_mem_last h.inc
  have hix : ixM (b ++ [i] ++ ext) v.parent = some b.length := by
    rw [hp]
    refine ixM_some (by simp) (fun j hj hlt e => ?_) (by simp)
    have : (b ++ [i] ++ ext)[j] = b[j] := by rw [List.getElem_append_left (by simp; omega), List.getElem_append_left hlt]
    rw [this] at e
    exact hne b[j] (List.getElem_mem hlt) (by omega)
  have ht : (b ++ [i] ++ ext).take (b.length + 1) = b ++ [i] := by
    rw [List.take_append_of_le_length (by simp), List.take_of_length_le (by simp)]
  have hg : (b ++ [i] ++ ext).getD b.length 0 = i := by simp [List.getD]
  unfold nextM
  rw [if_neg (by omega), hix]
  dsimp only
  rw [if_neg (by omega), hg, ht, if_neg]
  rintro ⟨g1, g2⟩
  rcases hk with hk | hk
  · exact g1 hk
  · apply g2
    have hil := hlow i (by simp)
    have : (l ++ [v]).getD i v0 = l.getD i v0 := by
      rw [List.getD_eq_getElem?_getD, List.getD_eq_getElem?_getD, List.getElem?_append_left hil]
    exact (congrArg Val.kind this).trans hk
theorem At.scal {l : List Val} {b : List Nat} {i : Nat} {v : Val} (h : At l b i) (hn : b.length + 1 < 16) (hp : v.parent = (i : Int)) (hk : v.name = [] ∨ (l.getD i v0).kind = 6) (h1 : oneM v = true) (h5 : v.kind < 5) : At (l ++ [v]) b i :=
  ⟨⟨[], by have := h.push hn hp hk h1; rw [stack_not h5] at this; rw [List.append_nil]; exact this⟩, h.inc⟩
theorem At.cont {l : List Val} {b : List Nat} {i : Nat} {v : Val} (h : At l b i) (hn : b.length + 1 < 16) (hp : v.parent = (i : Int)) (hk : v.name = [] ∨ (l.getD i v0).kind = 6) (h1 : oneM v = true) (h5 : v.kind = 5 ∨ v.kind = 6) : At (l ++ [v]) (b ++ [i]) l.length := by
  refine ⟨⟨[], by have := h.push hn hp hk h1; rw [stack_arr h5] at this; rw [List.append_nil]; exact this⟩, ?_⟩
  rw [List.pairwise_append]
  exact ⟨h.inc, by simp, fun a ha c hc => by simp at hc; subst hc; exact h.low a ha⟩
theorem At.pop {l : List Val} {b : List Nat} {i k : Nat} (h : At l (b ++ [i]) k) : At l b i := by
  obtain ⟨ext, hr⟩ := h.run
  exact ⟨⟨[k] ++ ext, by rw [← List.append_assoc]; exact hr⟩, (List.pairwise_append.1 h.inc).1⟩
theorem getM_at {l : List Val} {i : Int} {name : Bytes} (h : getM l i name = none) (j : Nat) (v : Val) (hv : l[j]? = some v) : ¬ (v.parent = i ∧ v.name = name) := by
  unfold getM at h
  rw [List.findIdx?_eq_none_iff] at h
  have := h v (List.mem_of_getElem? hv)
  simpa using this
theorem nodup_snoc {l : List Val} {o : List Nat} (hr : Run l o) (hd : NoDup l) {v : Val} {i : Nat} (hp : v.parent = (i : Int)) (hil : i < l.length) (h : (l.getD i v0).kind = 6 → getM l i v.name = none) : NoDup (l ++ [v]) := by
  intro j k vj vk h1 hjk hj hk hpp h6
  have hjl : j < l.length := by
    have := (List.getElem?_eq_some_iff.1 hk).1
    simp at this; omega
  rw [List.getElem?_append_left hjl] at hj
  by_cases hkl : k < l.length
  · rw [List.getElem?_append_left hkl] at hk
    refine hd j k vj vk h1 hjk hj hk hpp ?_
    have hpar := hr.par k vk hk
    have : (l ++ [v]).getD vk.parent.toNat v0 = l.getD vk.parent.toNat v0 := by
      rw [List.getD_eq_getElem?_getD, List.getD_eq_getElem?_getD, List.getElem?_append_left (by omega)]
    rw [this] at h6; exact h6
  · have hkl : k = l.length := by
      have := (List.getElem?_eq_some_iff.1 hk).1
      simp at this; omega
    subst hkl
    simp at hk; subst hk
    have : (l ++ [v]).getD v.parent.toNat v0 = l.getD i v0 := by
      rw [hp, Int.toNat_natCast, List.getD_eq_getElem?_getD, List.getD_eq_getElem?_getD, List.getElem?_append_left hil]
    rw [this] at h6
    intro e
    exact getM_at (h h6) j vj hj ⟨by rw [hpp, hp], e⟩

/-- The bytes of values. -/
def vol (l : List Val) : Nat := (l.map fun v => v.name.length + v.text.length).sum
theorem vol_snoc (l : List Val) (v : Val) : vol (l ++ [v]) = vol l + (v.name.length + v.text.length) := by simp [vol]
theorem wt_vol (l : List Val) : wt l = 6 * vol l + 20 * l.length := by
  induction l with
  | nil => rfl
  | cons a l ih =>
    have e1 : wt (a :: l) = 6 * a.name.length + 6 * a.text.length + 20 + wt l := by simp [wt]
    have e2 : vol (a :: l) = a.name.length + a.text.length + vol l := by simp [vol]
    rw [e1, e2, ih, List.length_cons]; omega
theorem trim_len_bk {s x : Bytes} (h : Lib.hasPrefix s x = true) : (Lib.trimPrefix s x).length ≤ s.length := by
  unfold Lib.trimPrefix
  rw [h]; simp
theorem numRest_le (s : Bytes) : (numRest s).length ≤ s.length := (List.dropWhile_sublist _).length_le
/-- How a value was read. -/
theorem value_inv {f : Nat} {s : Bytes} {l : List Val} {nest : Nat} {name : Bytes} {parent : Int} {t : Bytes} {m : List Val} (h : valueM (f + 1) s l nest name parent = .ok (t, m)) :
    l.length < 512 ∧ nest < 16 ∧ ((∃ v : Val, v.parent = parent ∧ v.name = name ∧ v.kind < 5 ∧ (Lib.validD name = true → oneM v = true) ∧ m = l ++ [v] ∧ v.text.length + t.length ≤ s.length) ∨
      (∃ k e u, (k = 5 ∧ e = 93 ∨ k = 6 ∧ e = 125) ∧ manyM f u (l ++ [⟨parent, k, name, []⟩]) nest l.length e = .ok (t, m) ∧ u.length + 1 ≤ s.length)) := by
  have hs := skip_le s
  simp only [valueM] at h
  split at h
  · cases h
  rename_i c u hk
  rw [hk] at hs
  split at h
  · cases h
  split at h
  · cases h
  rename_i g1 g2
  refine ⟨by omega, by omega, ?_⟩
  have bare : ∀ k : Nat, k < 3 → Lib.validD name = true → oneM ⟨parent, k, name, []⟩ = true := by
    intro k hk hv
    unfold oneM
    dsimp only
    rw [if_neg (by omega), if_neg (by rw [hv]; simp), if_neg (by omega), if_neg (by omega)]; rfl
  split at h
  · split at h
    · rename_i _ hp
      simp only [Except.ok.injEq, Prod.mk.injEq] at h
      obtain ⟨rfl, rfl⟩ := h
      have := trim_len_bk hp
      exact .inl ⟨_, rfl, rfl, by simp, bare 0 (by omega), rfl, by simp only [List.length_nil]; omega⟩
    · cases h
  split at h
  · split at h
    · rename_i _ hp
      simp only [Except.ok.injEq, Prod.mk.injEq] at h
      obtain ⟨rfl, rfl⟩ := h
      have := trim_len_bk hp
      exact .inl ⟨_, rfl, rfl, by simp, bare 1 (by omega), rfl, by simp only [List.length_nil]; omega⟩
    · cases h
  split at h
  · split at h
    · rename_i _ hp
      simp only [Except.ok.injEq, Prod.mk.injEq] at h
      obtain ⟨rfl, rfl⟩ := h
      have := trim_len_bk hp
      exact .inl ⟨_, rfl, rfl, by simp, bare 2 (by omega), rfl, by simp only [List.length_nil]; omega⟩
    · cases h
  split at h
  · split at h
    · rename_i x v hq
      simp only [Except.ok.injEq, Prod.mk.injEq] at h
      obtain ⟨rfl, rfl⟩ := h
      obtain ⟨q1, q2⟩ := quoted_good hq
      refine .inl ⟨_, rfl, rfl, by simp, fun hv => ?_, rfl, by simp only [List.length_cons] at hs q2 ⊢; omega⟩
      unfold oneM
      dsimp only
      rw [if_neg (by omega), if_neg (by rw [hv]; simp), if_neg (by omega)]; exact q1
    · cases h
  split at h
  · split at h
    · rename_i _ hi
      simp only [Except.ok.injEq, Prod.mk.injEq] at h
      obtain ⟨rfl, rfl⟩ := h
      have hr := numRest_le (c :: u)
      refine .inl ⟨_, rfl, rfl, by simp, fun hv => ?_, rfl, ?_⟩
      · unfold oneM
        dsimp only
        rw [if_neg (by omega), if_neg (by rw [hv]; simp)]; exact hi
      · dsimp only
        have : (numTok (c :: u)).length ≤ (c :: u).length - (numRest (c :: u)).length := by unfold numTok; rw [List.length_take]; omega
        omega
    · cases h
  split at h
  · exact .inr ⟨5, 93, u, .inl ⟨rfl, rfl⟩, h, by simp only [List.length_cons] at hs; omega⟩
  split at h
  · exact .inr ⟨6, 125, u, .inr ⟨rfl, rfl⟩, h, by simp only [List.length_cons] at hs; omega⟩
  · cases h
theorem cont_one {p : Int} {k : Nat} {name : Bytes} (hk : k = 5 ∨ k = 6) (hv : Lib.validD name = true) : oneM ⟨p, k, name, []⟩ = true := by
  unfold oneM
  dsimp only
  rw [if_neg (by omega), if_neg (by rw [hv]; simp), if_neg (by omega), if_neg (by omega)]; rfl
/-- What a right list has become. -/
structure Grown (l m : List Val) (b : List Nat) (i : Nat) : Prop where
  at' : At m b i
  dup : NoDup m
  few : m.length ≤ 512
  pre : l <+: m
theorem pre_kind {l m : List Val} (h : l <+: m) {i : Nat} (hi : i < l.length) : (m.getD i v0).kind = (l.getD i v0).kind := by
  obtain ⟨r, rfl⟩ := h
  rw [List.getD_eq_getElem?_getD, List.getD_eq_getElem?_getD, List.getElem?_append_left hi]

theorem reads (f : Nat) :
    (∀ s l nest name (i : Nat) b t m, valueM f s l nest name i = .ok (t, m) → At l b i → nest = b.length + 1 → NoDup l → l.length ≤ 512 → (name = [] ∨ (l.getD i v0).kind = 6) → ((l.getD i v0).kind = 6 → getM l i name = none) → Lib.validD name = true →
      Grown l m b i ∧ vol m + t.length ≤ vol l + name.length + s.length) ∧
    (∀ s l nest (i : Nat) e b t m, manyM f s l nest i e = .ok (t, m) → At l b i → nest = b.length → NoDup l → l.length ≤ 512 → ((l.getD i v0).kind = 5 ∧ e = 93 ∨ (l.getD i v0).kind = 6 ∧ e = 125) → Grown l m b i ∧ vol m + t.length ≤ vol l + s.length) ∧
    (∀ s l nest (i : Nat) e b t m, loopM f s l nest i e = .ok (t, m) → At l b i → nest = b.length → NoDup l → l.length ≤ 512 → ((l.getD i v0).kind = 5 ∧ e = 93 ∨ (l.getD i v0).kind = 6 ∧ e = 125) → Grown l m b i ∧ vol m + t.length ≤ vol l + s.length) := by
  induction f with
  | zero => exact ⟨fun s l nest name i b t m h => by simp [valueM] at h, fun s l nest i e b t m h => by simp [manyM] at h, fun s l nest i e b t m h => by simp [loopM] at h⟩
  | succ f ih =>
    obtain ⟨ih1, ih2, ih3⟩ := ih
    refine ⟨?_, ?_, ?_⟩
    · intro s l nest name i b t m h hA hn hd hf hk hg hv
      obtain ⟨h1, h2, h3⟩ := value_inv h
      obtain ⟨ext, hr⟩ := hA.run
      have hil := hA.low i (by simp)
      rcases h3 with ⟨v, vp, vn, vk, v1, rfl, vl⟩ | ⟨k, e, u, hke, hm, hu⟩
      · have hv1 := v1 hv
        refine ⟨⟨hA.scal (by omega) vp (by rw [vn]; exact hk) hv1 vk, nodup_snoc hr hd vp hil (by rw [vn]; exact hg), by simp; omega, ⟨[v], rfl⟩⟩, ?_⟩
        rw [vol_snoc, vn]; omega
      · have hc : k = 5 ∨ k = 6 := by omega
        have hA2 := hA.cont (v := ⟨(i : Int), k, name, []⟩) (by omega) rfl hk (cont_one hc hv) hc
        have hd2 := nodup_snoc (v := ⟨(i : Int), k, name, []⟩) hr hd rfl hil hg
        have hkk : ((l ++ [(⟨(i : Int), k, name, []⟩ : Val)]).getD l.length v0).kind = k := by simp [List.getD]
        obtain ⟨g1, g2⟩ := ih2 _ _ _ _ _ (b ++ [i]) _ _ hm hA2 (by simp; omega) hd2 (by simp; omega) (by rw [hkk]; exact hke)
        refine ⟨⟨g1.at'.pop, g1.dup, g1.few, ?_⟩, ?_⟩
        · obtain ⟨r, hr⟩ := g1.pre
          exact ⟨[⟨(i : Int), k, name, []⟩] ++ r, by rw [← hr, List.append_assoc]⟩
        · rw [vol_snoc] at g2
          simp only [List.length_nil] at g2
          omega
    · intro s l nest i e b t m h hA hn hd hf hk
      have hs := skip_le s
      simp only [manyM] at h
      split at h
      · have := (ih3 _ _ _ _ _ _ _ _ h hA hn hd hf hk)
        refine ⟨this.1, ?_⟩
        have h2 := this.2
        simp only [List.length_nil] at h2; omega
      · rename_i c u hc
        rw [hc] at hs
        simp only [List.length_cons] at hs
        split at h
        · simp only [Except.ok.injEq, Prod.mk.injEq] at h
          obtain ⟨rfl, rfl⟩ := h
          exact ⟨⟨hA, hd, hf, List.prefix_refl _⟩, by omega⟩
        · have := (ih3 _ _ _ _ _ _ _ _ h hA hn hd hf hk)
          refine ⟨this.1, ?_⟩
          have h2 := this.2
          simp only [List.length_cons] at h2; omega
    · intro s l nest i e b t m h hA hn hd hf hk
      have hil := hA.low i (by simp)
      simp only [loopM] at h
      split at h
      · cases h
      rename_i name u hnm
      have hname : Lib.validD name = true ∧ (name = [] ∨ (l.getD i v0).kind = 6) ∧ ((l.getD i v0).kind = 6 → getM l i name = none) ∧ name.length + u.length ≤ s.length := by
        split at hnm
        · rename_i he
          have hk6 : (l.getD i v0).kind = 6 := by
            rcases hk with hk | hk
            · rw [he] at hk; exact absurd hk.2 (by decide)
            · exact hk.1
          split at hnm
          · cases hnm
          rename_i x v hq
          obtain ⟨q1, q2⟩ := quoted_good hq
          have h2 := skip_le v
          split at hnm
          · cases hnm
          rename_i c w hkk
          rw [hkk] at h2
          simp only [List.length_cons] at h2
          split at hnm
          · split at hnm
            · rename_i hgm
              simp only [Except.ok.injEq, Prod.mk.injEq] at hnm
              obtain ⟨rfl, rfl⟩ := hnm
              exact ⟨q1, .inr hk6, fun _ => hgm, by omega⟩
            · cases hnm
          · cases hnm
        · rename_i he
          simp only [Except.ok.injEq, Prod.mk.injEq] at hnm
          obtain ⟨rfl, rfl⟩ := hnm
          exact ⟨rfl, .inl rfl, fun h6 => by rcases hk with hk | hk; exact absurd h6 (by omega); exact absurd hk.2 he, by simp⟩
      obtain ⟨n1, n2, n3, n4⟩ := hname
      split at h
      · cases h
      rename_i v m' hv
      obtain ⟨g1, g2⟩ := ih1 _ _ _ _ _ b _ _ hv hA (by omega) hd hf n2 n3 n1
      have h2 := skip_le v
      have hk' : (m'.getD i v0).kind = 5 ∧ e = 93 ∨ (m'.getD i v0).kind = 6 ∧ e = 125 := by rw [pre_kind g1.pre hil]; exact hk
      split at h
      · cases h
      rename_i c w hc
      rw [hc] at h2
      simp only [List.length_cons] at h2
      split at h
      · obtain ⟨k1, k2⟩ := ih3 _ _ _ _ _ _ _ _ h g1.at' hn g1.dup g1.few hk'
        exact ⟨⟨k1.at', k1.dup, k1.few, g1.pre.trans k1.pre⟩, by omega⟩
      split at h
      · simp only [Except.ok.injEq, Prod.mk.injEq] at h
        obtain ⟨rfl, rfl⟩ := h
        exact ⟨g1, by omega⟩
      · cases h

theorem run_check {l : List Val} {o : List Nat} (hr : Run l o) (hd : NoDup l) (hf : l.length ≤ 512) : checkM l = 0 := by
  have h := hr.shape [] []
  simp only [List.append_nil] at h
  unfold checkM
  rw [if_neg (by omega), if_neg hr.ne, h]
  simp only [shapeGo, if_true]
  rw [dup_of hd]; rfl
/-- What is read is right. -/
theorem read_check {s : Bytes} {m : List Val} (h : readM s = .ok m) : checkM m = 0 ∧ vol m ≤ s.length := by
  unfold readM at h
  split at h
  · cases h
  split at h
  · cases h
  rename_i t l hv
  by_cases hs : skip t = []
  case neg => rw [if_neg hs] at h; cases h
  rw [if_pos hs] at h
  simp only [Except.ok.injEq] at h
  subst h
  obtain ⟨_, _, h3⟩ := value_inv hv
  rcases h3 with ⟨v, vp, vn, vk, v1, rfl, vl⟩ | ⟨k, e, u, hke, hm, hu⟩
  · have hv1 := v1 rfl
    have hr : Run [v] [] := .first (by unfold nextM; rw [if_pos rfl, if_pos ⟨vp, vn⟩, stack_not vk]) hv1
    refine ⟨run_check hr (fun j k vj vk h1 hjk hj hk => ?_) (by simp), ?_⟩
    · have := (List.getElem?_eq_some_iff.1 hk).1
      simp at this; omega
    · simp only [vol, List.nil_append, List.map_cons, List.map_nil, List.sum_cons, List.sum_nil, vn, List.length_nil]; omega
  · have hc : k = 5 ∨ k = 6 := by omega
    have hr : Run [⟨-1, k, [], []⟩] [0] := .first (by unfold nextM; rw [if_pos rfl, if_pos ⟨rfl, rfl⟩, stack_arr hc]; rfl) (cont_one hc rfl)
    have hA : At [⟨-1, k, [], []⟩] [] 0 := ⟨⟨[], hr⟩, by simp⟩
    obtain ⟨g1, g2⟩ := (reads _).2.1 _ _ _ _ _ [] _ _ hm hA rfl (fun j k vj vk h1 hjk hj hk => by
      have := (List.getElem?_eq_some_iff.1 hk).1
      simp at this; omega) (by simp) (by simpa [List.getD] using hke)
    obtain ⟨ext, hr2⟩ := g1.at'.run
    refine ⟨run_check hr2 g1.dup g1.few, ?_⟩
    have : vol [(⟨-1, k, [], []⟩ : Val)] = 0 := rfl
    simp only [List.nil_append] at g2
    omega
end Go.Proofs.YtbjidmijbphhgaaDoor
