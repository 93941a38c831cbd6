/- Values' list: the chain of those that are open; what is written is read back. -/
import Derived.Test.YtcdeikhfmllkdaaGreatDoorBkB
namespace Go.Proofs.YtcdeikhfmllkdaaGreatDoor
open Go.RowKit
set_option linter.unusedVariables false
set_option linter.unusedSimpArgs false

/-- Behind k values the chain base is open, at least; the parent of the next one is in it. -/
structure Goes (l : List Val) (k : Nat) (base : List Nat) : Prop where
  le : k ≤ l.length
  pos : 1 ≤ k
  inc : base.Pairwise (· < ·)
  low : ∀ x ∈ base, x < k
  go : ∀ v, l[k]? = some v → ∃ ext, shapeGo l k (base ++ ext) (l.drop k) = true ∧ ∃ p ∈ base, v.parent = (p : Int)

theorem drop_at {l : List Val} {k : Nat} {v : Val} (h : l[k]? = some v) : l.drop k = v :: l.drop (k + 1) := by
  obtain ⟨h1, h2⟩ := List.getElem?_eq_some_iff.1 h
  rw [List.drop_eq_getElem_cons h1, h2]
theorem ixM_mem' {o : List Nat} {p : Int} {k : Nat} (h : ixM o p = some k) : k < o.length ∧ ∃ q, o[k]? = some q ∧ (q : Int) = p := by
  unfold ixM at h
  rw [List.findIdx?_eq_some_iff_getElem] at h
  obtain ⟨h1, h2, _⟩ := h
  exact ⟨h1, o[k], List.getElem?_eq_getElem h1, by simpa using h2⟩
theorem shape_at {l : List Val} {k : Nat} {o : List Nat} {v : Val} (h : shapeGo l k o (l.drop k) = true) (hv : l[k]? = some v) : ∃ o', nextM l o k v = some o' ∧ oneM v = true ∧ shapeGo l (k + 1) o' (l.drop (k + 1)) = true := by
  rw [drop_at hv] at h
  simp only [shapeGo] at h
  cases hn : nextM l o k v with
  | none => rw [hn] at h; cases h
  | some o' =>
    rw [hn] at h
    simp only [Bool.and_eq_true] at h
    exact ⟨o', rfl, h.1, h.2⟩
theorem next_mem {l : List Val} {k : Nat} {o o' : List Nat} {v : Val} (hk : 1 ≤ k) (h : nextM l o k v = some o') : ∃ p ∈ o, v.parent = (p : Int) := by
  unfold nextM at h
  rw [if_neg (by omega)] at h
  cases hix : ixM o v.parent with
  | none => rw [hix] at h; cases h
  | some j =>
    obtain ⟨h1, q, h2, h3⟩ := ixM_mem' hix
    exact ⟨q, List.mem_of_getElem? h2, h3.symm⟩
theorem goes_mk {l : List Val} {k : Nat} {o : List Nat} (h : shapeGo l k o (l.drop k) = true) (hk : k ≤ l.length) (h1 : 1 ≤ k) (hi : o.Pairwise (· < ·)) (hl : ∀ x ∈ o, x < k) : Goes l k o :=
  ⟨hk, h1, hi, hl, fun v hv => by
    obtain ⟨o', h2, _, _⟩ := shape_at h hv
    exact ⟨[], by rw [List.append_nil]; exact h, next_mem h1 h2⟩⟩
theorem Goes.up {l : List Val} {k i : Nat} {b : List Nat} (h : Goes l k (b ++ [i])) (hp : ∀ v, l[k]? = some v → v.parent ≠ (i : Int)) : Goes l k b :=
  ⟨h.le, h.pos, (List.pairwise_append.1 h.inc).1, fun x hx => h.low x (by simp [hx]), fun v hv => by
    obtain ⟨ext, h1, p, hp1, hp2⟩ := h.go v hv
    refine ⟨[i] ++ ext, by rw [← List.append_assoc]; exact h1, p, ?_, hp2⟩
    rcases List.mem_append.1 hp1 with h | h
    · exact h
    · simp at h; subst h; exact absurd hp2 (hp v hv)⟩
theorem not_mem_last {b : List Nat} {p : Nat} (h : (b ++ [p]).Pairwise (· < ·)) : ∀ x ∈ b, x ≠ p := fun x hx e => by
  have := (List.pairwise_append.1 h).2.2 x hx p (by simp); omega
/-- A value that stands in the last one of the chain. -/
theorem Goes.at {l : List Val} {k p : Nat} {b : List Nat} {v : Val} (h : Goes l k (b ++ [p])) (hv : l[k]? = some v) (hp : v.parent = (p : Int)) :
    oneM v = true ∧ b.length + 1 < 16 ∧ (v.name ≠ [] → (l.getD p v0).kind = 6) ∧ Goes l (k + 1) (stackM v k (b ++ [p])) := by
  obtain ⟨ext, h1, _⟩ := h.go v hv
  obtain ⟨o', h2, h3, h4⟩ := shape_at h1 hv
  have hk := h.pos
  have hne := not_mem_last h.inc
  have hix : ixM (b ++ [p] ++ ext) v.parent = some b.length := by
    rw [hp]
    refine ixM_some (by simp) (fun j hj hlt e => ?_) (by simp)
    have : (b ++ [p] ++ ext)[j] = b[j] := by rw [List.getElem_append_left (by simp; omega), List.getElem_append_left hlt]
    rw [this] at e
    exact hne b[j] (List.getElem_mem hlt) (by omega)
  unfold nextM at h2
  rw [if_neg (by omega), hix] at h2
  dsimp only at h2
  split at h2
  · cases h2
  rename_i g1
  split at h2
  · cases h2
  rename_i g2
  simp only [Option.some.injEq] at h2
  have ht : (b ++ [p] ++ ext).take (b.length + 1) = b ++ [p] := by
    rw [List.take_append_of_le_length (by simp), List.take_of_length_le (by simp)]
  have hg : (b ++ [p] ++ ext).getD b.length 0 = p := by simp [List.getD]
  rw [ht] at h2
  rw [hg] at g2
  subst h2
  refine ⟨h3, by omega, fun hn => ?_, goes_mk h4 ((List.getElem?_eq_some_iff.1 hv).1) (by omega) ?_ ?_⟩
  · by_cases c : (l.getD p v0).kind = 6
    · exact c
    · exact absurd ⟨hn, c⟩ g2
  · unfold stackM
    split
    · rw [List.pairwise_append]
      exact ⟨h.inc, by simp, fun a ha c hc => by simp at hc; subst hc; exact h.low a ha⟩
    · exact h.inc
  · intro x hx
    unfold stackM at hx
    split at hx
    · rcases List.mem_append.1 hx with h' | h'
      · have := h.low x h'; omega
      · simp at h'; omega
    · have := h.low x hx; omega

/-- No two of one object have one name. -/
def NoDup (l : List Val) : Prop := ∀ j k vj vk, 1 ≤ j → j < k → l[j]? = some vj → l[k]? = some vk → vj.parent = vk.parent → (l.getD vk.parent.toNat v0).kind = 6 → vj.name ≠ vk.name
theorem dup_go {l : List Val} : ∀ (r : List Val) (i : Nat) (ks : List Mem), dupGo l i ks r = false →
    (∀ j (v : Val), r[j]? = some v → i + j ≠ 0 → (l.getD v.parent.toNat v0).kind = 6 → (v.parent, v.name) ∉ ks) ∧
    (∀ j k (v w : Val), j < k → r[j]? = some v → r[k]? = some w → i + j ≠ 0 → v.parent = w.parent → (l.getD w.parent.toNat v0).kind = 6 → v.name ≠ w.name)
  | [], _, _, _ => ⟨fun j v h => by simp at h, fun j k v w _ h => by simp at h⟩
  | x :: r, i, ks, h => by
    simp only [dupGo] at h
    split at h
    · rename_i c
      obtain ⟨h1, h2⟩ := dup_go r (i + 1) ks h
      refine ⟨fun j v hj hi hk => ?_, fun j k v w hjk hj hk hi hp h6 => ?_⟩
      · cases j with
        | zero =>
          simp at hj; subst hj
          rcases c with c | c
          · omega
          · exact absurd hk c
        | succ j => exact h1 j v (by simpa using hj) (by omega) hk
      · obtain ⟨k, rfl⟩ : ∃ m, k = m + 1 := ⟨k - 1, by omega⟩
        cases j with
        | zero =>
          simp at hj; subst hj
          rcases c with c | c
          · omega
          · rw [hp] at c; exact absurd h6 c
        | succ j => exact h2 j k v w (by omega) (by simpa using hj) (by simpa using hk) (by omega) hp h6
    · rename_i c
      split at h
      · cases h
      · rename_i hn
        obtain ⟨h1, h2⟩ := dup_go r (i + 1) _ h
        refine ⟨fun j v hj hi hk => ?_, fun j k v w hjk hj hk hi hp h6 => ?_⟩
        · cases j with
          | zero => simp at hj; subst hj; exact hn
          | succ j =>
            have := h1 j v (by simpa using hj) (by omega) hk
            exact fun hm => this (by simp [hm])
        · obtain ⟨k, rfl⟩ : ∃ m, k = m + 1 := ⟨k - 1, by omega⟩
          cases j with
          | zero =>
            simp at hj; subst hj
            have := h1 k w (by simpa using hk) (by omega) h6
            intro e
            exact this (by simp [← hp, ← e])
          | succ j => exact h2 j k v w (by omega) (by simpa using hj) (by simpa using hk) (by omega) hp h6
theorem nodup_of {l : List Val} (h : dupGo l 0 [] l = false) : NoDup l := fun j k vj vk h1 hjk hj hk hp h6 => (dup_go l 0 [] h).2 j k vj vk hjk hj hk (by omega) hp h6
theorem dup_mk {l : List Val} : ∀ (r : List Val) (i : Nat) (ks : List Mem),
    (∀ j (v : Val), r[j]? = some v → i + j ≠ 0 → (l.getD v.parent.toNat v0).kind = 6 → (v.parent, v.name) ∉ ks) →
    (∀ j k (v w : Val), j < k → r[j]? = some v → r[k]? = some w → i + j ≠ 0 → v.parent = w.parent → (l.getD w.parent.toNat v0).kind = 6 → v.name ≠ w.name) → dupGo l i ks r = false
  | [], _, _, _, _ => rfl
  | x :: r, i, ks, h1, h2 => by
    simp only [dupGo]
    have h2' : ∀ j k (v w : Val), j < k → r[j]? = some v → r[k]? = some w → (i + 1) + j ≠ 0 → v.parent = w.parent → (l.getD w.parent.toNat v0).kind = 6 → v.name ≠ w.name :=
      fun j k v w hjk hj hk hi hp h6 => h2 (j + 1) (k + 1) v w (by omega) (by simpa using hj) (by simpa using hk) (by omega) hp h6
    split
    · exact dup_mk r (i + 1) ks (fun j v hj hi hk => h1 (j + 1) v (by simpa using hj) (by omega) hk) h2'
    · rename_i c
      have hi : i ≠ 0 := fun e => c (.inl e)
      have hk6 : (l.getD x.parent.toNat v0).kind = 6 := by
        by_cases h : (l.getD x.parent.toNat v0).kind = 6
        · exact h
        · exact absurd (.inr h) c
      rw [if_neg (h1 0 x (by simp) (by omega) hk6)]
      refine dup_mk r (i + 1) _ (fun j v hj _ hk => ?_) h2'
      have := h1 (j + 1) v (by simpa using hj) (by omega) hk
      intro hm
      rcases List.mem_append.1 hm with hm | hm
      · exact this hm
      · simp only [List.mem_singleton, Prod.mk.injEq] at hm
        exact h2 0 (j + 1) x v (by omega) (by simp) (by simpa using hj) (by omega) hm.1.symm hk hm.2.symm
theorem dup_of {l : List Val} (h : NoDup l) : dupGo l 0 [] l = false :=
  dup_mk l 0 [] (fun _ _ _ _ _ => by simp) (fun j k v w hjk hj hk hi hp h6 => h j k v w (by omega) hjk hj hk hp h6)

/-! ### numbers -/
def isDg (b : UInt8) : Bool := decide (48 ≤ b.toNat) && decide (b.toNat ≤ 57)
theorem digs_dg (b : UInt8) : digs.contains b = isDg b := by
  have h : ∀ n : Fin 256, digs.contains (UInt8.ofNat n.val) = isDg (UInt8.ofNat n.val) := by decide +kernel
  have := h ⟨b.toNat, UInt8.toNat_lt b⟩
  simpa using this
theorem numC_is (b : UInt8) : numC.contains b = isNum b := by
  have h : ∀ n : Fin 256, numC.contains (UInt8.ofNat n.val) = isNum (UInt8.ofNat n.val) := by decide +kernel
  have := h ⟨b.toNat, UInt8.toNat_lt b⟩
  simpa using this
theorem dg_num (b : UInt8) (h : isDg b = true) : isNum b = true := by
  have h' : ∀ n : Fin 256, isDg (UInt8.ofNat n.val) = true → isNum (UInt8.ofNat n.val) = true := by decide +kernel
  have := h' ⟨b.toNat, UInt8.toNat_lt b⟩
  simp only [UInt8.ofNat_toNat] at this
  exact this h
theorem dw_all (p : UInt8 → Bool) : ∀ l : Bytes, l.dropWhile p = [] → ∀ x ∈ l, p x = true
  | [], _ => by simp
  | a :: l, h => by
    cases ha : p a with
    | true =>
      rw [List.dropWhile_cons_of_pos ha] at h
      intro x hx
      rcases List.mem_cons.1 hx with rfl | hx
      · exact ha
      · exact dw_all p l h x hx
    | false => rw [List.dropWhile_cons_of_neg (by simp [ha])] at h; cases h
theorem trimS_dg {d : Bytes} (h : (Lib.trimS d digs).isEmpty = true) : ∀ x ∈ d, isDg x = true := by
  have hc : (fun b => digs.contains b) = isDg := funext digs_dg
  unfold Lib.trimS Lib.trimLeftS Lib.trimRightS at h
  rw [hc] at h
  have h1 := dw_all isDg _ (by simpa using h)
  have h2 : ∀ x ∈ d.reverse.dropWhile isDg, isDg x = true := fun x hx => h1 x (by simpa using hx)
  intro x hx
  cases e : d.reverse.dropWhile isDg with
  | nil => exact dw_all isDg _ e x (by simpa using hx)
  | cons a t =>
    have ha : isDg a = false := by
      have := List.head?_dropWhile_not isDg d.reverse
      rw [e] at this
      simpa using this
    have := h2 a (by rw [e]; simp)
    rw [ha] at this; cases this
theorem int_chars {s : Bytes} (h : intM s = true) : s ≠ [] ∧ ∀ c ∈ s, isNum c = true := by
  have hne : s ≠ [] := by rintro rfl; revert h; decide
  refine ⟨hne, ?_⟩
  unfold intM at h
  simp only [Bool.and_eq_true] at h
  have hd := trimS_dg h.1.2
  unfold intD Lib.trimPrefix at hd
  split at hd
  · rename_i hp
    have hpre := List.isPrefixOf_iff_prefix.1 hp
    obtain ⟨t, rfl⟩ := hpre
    intro c hc
    rcases List.mem_append.1 hc with hc | hc
    · simp at hc; subst hc; decide
    · exact dg_num c (hd c (by simpa using hc))
  · exact fun c hc => dg_num c (hd c hc)
/-- What may stand behind a number. -/
def Rok (rest : Bytes) : Prop := ∀ c t, rest = c :: t → isNum c = false
theorem num_cut (s rest : Bytes) (h : ∀ c ∈ s, isNum c = true) (hr : Rok rest) : numRest (s ++ rest) = rest ∧ numTok (s ++ rest) = s := by
  have h1 : numRest (s ++ rest) = rest := by
    unfold numRest Lib.trimLeftS
    induction s with
    | nil =>
      cases rest with
      | nil => rfl
      | cons c t => rw [List.nil_append, List.dropWhile_cons_of_neg (by rw [numC_is, hr c t rfl]; simp)]
    | cons a s ih =>
      rw [List.cons_append, List.dropWhile_cons_of_pos (by rw [numC_is]; exact h a (by simp))]
      exact ih (fun c hc => h c (by simp [hc]))
  refine ⟨h1, ?_⟩
  unfold numTok
  rw [h1, List.length_append, Nat.add_sub_cancel, List.take_left]

/-! ### one value -/
/-- The text of a value in which none stands. -/
def scalT (v : Val) : Bytes :=
  if v.kind = 0 then [110, 117, 108, 108] else if v.kind = 1 then [102, 97, 108, 115, 101] else if v.kind = 2 then [116, 114, 117, 101] else if v.kind = 3 then v.text else quoteM v.text
theorem one_form {v : Val} (h : oneM v = true) : v.kind ≤ 6 ∧ Lib.validD v.name = true ∧ (v.kind = 3 → intM v.text = true) ∧ (v.kind = 4 → Lib.validD v.text = true) ∧ (v.kind ≠ 3 → v.kind ≠ 4 → v.text = []) := by
  unfold oneM at h
  split at h
  · cases h
  split at h
  · cases h
  rename_i h1 h2
  refine ⟨by omega, by simpa using h2, fun e => ?_, fun e => ?_, fun e1 e2 => ?_⟩
  · rw [if_pos e] at h; exact h
  · rw [if_neg (by omega), if_pos e] at h; exact h
  · rw [if_neg e1, if_neg e2] at h; simpa using h
theorem val_eta {v : Val} {k : Nat} {x : Bytes} (hk : v.kind = k) (ht : v.text = x) : (⟨v.parent, k, v.name, x⟩ : Val) = v := by
  cases v; simp only at hk ht; subst hk ht; rfl
theorem num_blank : ∀ c : UInt8, isNum c = true → isBlank c = false ∧ c ≠ 110 ∧ c ≠ 102 ∧ c ≠ 116 ∧ c ≠ 34 ∧ c ≠ 93 ∧ c ≠ 125 ∧ c ≠ 44 ∧ c ≠ 91 ∧ c ≠ 123 := by
  have h : ∀ n : Fin 256, isNum (UInt8.ofNat n.val) = true → (fun c : UInt8 => isBlank c = false ∧ c ≠ 110 ∧ c ≠ 102 ∧ c ≠ 116 ∧ c ≠ 34 ∧ c ≠ 93 ∧ c ≠ 125 ∧ c ≠ 44 ∧ c ≠ 91 ∧ c ≠ 123) (UInt8.ofNat n.val) := by decide +kernel
  intro c hc
  have := h ⟨c.toNat, c.toNat_lt⟩
  simp only [UInt8.ofNat_toNat] at this
  exact this hc
theorem valueM_cons {c : UInt8} {t : Bytes} (hb : isBlank c = false) (f : Nat) (l : List Val) (nest : Nat) (name : Bytes) (parent : Int) (hl : l.length < 512) (hn : nest < 16) : valueM (f + 1) (c :: t) l nest name parent =
      if c = 110 then if Lib.hasPrefix (c :: t) [110, 117, 108, 108] then .ok (Lib.trimPrefix (c :: t) [110, 117, 108, 108], l ++ [⟨parent, 0, name, []⟩]) else .error 4
      else if c = 102 then if Lib.hasPrefix (c :: t) [102, 97, 108, 115, 101] then .ok (Lib.trimPrefix (c :: t) [102, 97, 108, 115, 101], l ++ [⟨parent, 1, name, []⟩]) else .error 4
      else if c = 116 then if Lib.hasPrefix (c :: t) [116, 114, 117, 101] then .ok (Lib.trimPrefix (c :: t) [116, 114, 117, 101], l ++ [⟨parent, 2, name, []⟩]) else .error 4
      else if c = 34 then match quotedM (c :: t) with
        | some (x, u) => .ok (u, l ++ [⟨parent, 4, name, x⟩])
        | none => .error 4
      else if isNum c then if intM (numTok (c :: t)) then .ok (numRest (c :: t), l ++ [⟨parent, 3, name, numTok (c :: t)⟩]) else .error 4
      else if c = 91 then manyM f t (l ++ [⟨parent, 5, name, []⟩]) nest l.length 93
      else if c = 123 then manyM f t (l ++ [⟨parent, 6, name, []⟩]) nest l.length 125
      else .error 4 := by
  simp only [valueM, skip_not hb]
  rw [if_neg (show ¬ 512 ≤ l.length by omega), if_neg (show ¬ 16 ≤ nest by omega)]
  rfl
theorem has_pre (p u : Bytes) : Lib.hasPrefix (p ++ u) p = true := List.isPrefixOf_iff_prefix.2 ⟨u, rfl⟩
theorem trim_pre (p u : Bytes) : Lib.trimPrefix (p ++ u) p = u := by
  unfold Lib.trimPrefix
  rw [has_pre]; simp
theorem quoteM_cons (s : Bytes) : quoteM s = 34 :: (s.flatMap quoteB ++ [34]) := by simp [quoteM]
theorem value_scal {v : Val} (h1 : oneM v = true) (hk : v.kind < 5) (f : Nat) {l : List Val} {nest : Nat} (hl : l.length < 512) (hn : nest < 16) {rest : Bytes} (hr : Rok rest) :
    valueM (f + 1) (scalT v ++ rest) l nest v.name v.parent = .ok (rest, l ++ [v]) := by
  obtain ⟨_, _, g3, g4, g5⟩ := one_form h1
  unfold scalT
  by_cases k0 : v.kind = 0
  · rw [if_pos k0]
    have hp := has_pre [110, 117, 108, 108] rest
    have ht := trim_pre [110, 117, 108, 108] rest
    show valueM (f + 1) (110 :: ([117, 108, 108] ++ rest)) l nest v.name v.parent = _
    rw [valueM_cons (by decide) f l nest _ _ hl hn, if_pos rfl]
    change (if Lib.hasPrefix ([110, 117, 108, 108] ++ rest) _ = true then Except.ok (Lib.trimPrefix ([110, 117, 108, 108] ++ rest) _, _) else _) = _
    rw [hp, if_pos rfl, ht, val_eta k0 (g5 (by omega) (by omega))]
  rw [if_neg k0]
  by_cases k1 : v.kind = 1
  · rw [if_pos k1]
    have hp := has_pre [102, 97, 108, 115, 101] rest
    have ht := trim_pre [102, 97, 108, 115, 101] rest
    show valueM (f + 1) (102 :: ([97, 108, 115, 101] ++ rest)) l nest v.name v.parent = _
    rw [valueM_cons (by decide) f l nest _ _ hl hn, if_neg (by decide), if_pos rfl]
    change (if Lib.hasPrefix ([102, 97, 108, 115, 101] ++ rest) _ = true then Except.ok (Lib.trimPrefix ([102, 97, 108, 115, 101] ++ rest) _, _) else _) = _
    rw [hp, if_pos rfl, ht, val_eta k1 (g5 (by omega) (by omega))]
  rw [if_neg k1]
  by_cases k2 : v.kind = 2
  · rw [if_pos k2]
    have hp := has_pre [116, 114, 117, 101] rest
    have ht := trim_pre [116, 114, 117, 101] rest
    show valueM (f + 1) (116 :: ([114, 117, 101] ++ rest)) l nest v.name v.parent = _
    rw [valueM_cons (by decide) f l nest _ _ hl hn, if_neg (by decide), if_neg (by decide), if_pos rfl]
    change (if Lib.hasPrefix ([116, 114, 117, 101] ++ rest) _ = true then Except.ok (Lib.trimPrefix ([116, 114, 117, 101] ++ rest) _, _) else _) = _
    rw [hp, if_pos rfl, ht, val_eta k2 (g5 (by omega) (by omega))]
  rw [if_neg k2]
  by_cases k3 : v.kind = 3
  · rw [if_pos k3]
    have hi := g3 k3
    obtain ⟨hne, hall⟩ := int_chars hi
    obtain ⟨c1, c2⟩ := num_cut v.text rest hall hr
    obtain ⟨c, t, e⟩ : ∃ c t, v.text = c :: t := by
      cases h : v.text with
      | nil => exact absurd h hne
      | cons c t => exact ⟨c, t, rfl⟩
    have hc := hall c (by rw [e]; simp)
    obtain ⟨hb, n1, n2, n3, n4, _⟩ := num_blank c hc
    have e' : v.text ++ rest = c :: (t ++ rest) := by rw [e]; rfl
    rw [e', valueM_cons hb f l nest _ _ hl hn, if_neg n1, if_neg n2, if_neg n3, if_neg n4, if_pos hc, ← e', c2, c1, if_pos hi, val_eta k3 rfl]
  rw [if_neg k3]
  have k4 : v.kind = 4 := by omega
  have hq := quoted_back (g4 k4) rest
  have e' : quoteM v.text ++ rest = 34 :: (v.text.flatMap quoteB ++ [34] ++ rest) := by rw [quoteM_cons]; rfl
  rw [e'] at hq ⊢
  rw [valueM_cons (by decide) f l nest _ _ hl hn, if_neg (by decide), if_neg (by decide), if_neg (by decide), if_pos rfl, hq]
  dsimp only
  rw [val_eta k4 rfl]
theorem scal_head {v : Val} (h1 : oneM v = true) (hk : v.kind < 5) : ∃ c t, scalT v = c :: t ∧ isBlank c = false ∧ c ≠ 93 ∧ c ≠ 125 ∧ c ≠ 44 := by
  obtain ⟨_, _, g3, g4, g5⟩ := one_form h1
  unfold scalT
  by_cases k0 : v.kind = 0
  · rw [if_pos k0]; exact ⟨_, _, rfl, by decide, by decide, by decide, by decide⟩
  rw [if_neg k0]
  by_cases k1 : v.kind = 1
  · rw [if_pos k1]; exact ⟨_, _, rfl, by decide, by decide, by decide, by decide⟩
  rw [if_neg k1]
  by_cases k2 : v.kind = 2
  · rw [if_pos k2]; exact ⟨_, _, rfl, by decide, by decide, by decide, by decide⟩
  rw [if_neg k2]
  by_cases k3 : v.kind = 3
  · rw [if_pos k3]
    obtain ⟨hne, hall⟩ := int_chars (g3 k3)
    cases h : v.text with
    | nil => exact absurd h hne
    | cons c t =>
      obtain ⟨hb, n1, n2, n3, n4, n5, n6, n7, _⟩ := num_blank c (hall c (by rw [h]; simp))
      exact ⟨c, t, rfl, hb, n5, n6, n7⟩
  rw [if_neg k3, quoteM_cons]
  exact ⟨_, _, rfl, by decide, by decide, by decide, by decide⟩
theorem valW_scal {l : List Val} {i : Nat} {v : Val} (hv : l[i]? = some v) (hk : v.kind < 5) (f : Nat) : valW (f + 1) l i = (scalT v, i + 1) := by
  unfold valW scalT
  rw [hv]
  dsimp only
  repeat' split
  all_goals first | rfl | (exfalso; omega)
theorem valW_arr {l : List Val} {i : Nat} {v : Val} (hv : l[i]? = some v) (hk : v.kind = 5) (f : Nat) : valW (f + 1) l i = ([91] ++ (loopW f l (i + 1) i false true).1 ++ [93], (loopW f l (i + 1) i false true).2) := by
  rw [valW, hv]
  dsimp only
  rw [if_neg (by omega), if_neg (by omega), if_neg (by omega), if_neg (by omega), if_neg (by omega), if_pos hk]
theorem valW_obj {l : List Val} {i : Nat} {v : Val} (hv : l[i]? = some v) (hk : v.kind = 6) (f : Nat) : valW (f + 1) l i = ([123] ++ (loopW f l (i + 1) i true true).1 ++ [125], (loopW f l (i + 1) i true true).2) := by
  rw [valW, hv]
  dsimp only
  rw [if_neg (by omega), if_neg (by omega), if_neg (by omega), if_neg (by omega), if_neg (by omega), if_neg (by omega), if_pos hk]
theorem valW_head {l : List Val} {i : Nat} {v : Val} (hv : l[i]? = some v) (h1 : oneM v = true) (f : Nat) : ∃ c t, (valW (f + 1) l i).1 = c :: t ∧ isBlank c = false ∧ c ≠ 93 ∧ c ≠ 125 ∧ c ≠ 44 := by
  have h6 := (one_form h1).1
  by_cases hk : v.kind < 5
  · rw [valW_scal hv hk f]; exact scal_head h1 hk
  by_cases k5 : v.kind = 5
  · rw [valW_arr hv k5 f]; exact ⟨_, _, rfl, by decide, by decide, by decide, by decide⟩
  · rw [valW_obj hv (by omega) f]; exact ⟨_, _, rfl, by decide, by decide, by decide, by decide⟩
/-- The end of an array, or an object. -/
def endB (obj : Bool) : UInt8 := if obj then 125 else 93
theorem endB_blank (o : Bool) : isBlank (endB o) = false ∧ endB o ≠ 44 ∧ isNum (endB o) = false := by cases o <;> decide
theorem loopW_none {l : List Val} {k i : Nat} (h : ∀ v, l[k]? = some v → v.parent ≠ (i : Int)) (f : Nat) (o fi : Bool) : loopW f l k i o fi = ([], k) := by
  cases f with
  | zero => rfl
  | succ f =>
    unfold loopW
    cases hv : l[k]? with
    | none => rfl
    | some v => dsimp only; rw [if_neg (h v hv)]
theorem loopW_some {l : List Val} {k i : Nat} {v : Val} (hv : l[k]? = some v) (hp : v.parent = (i : Int)) (f : Nat) (o fi : Bool) : loopW (f + 1) l k i o fi =
    ((if fi then [] else [44]) ++ (if o then quoteM v.name ++ [58] else []) ++ (valW f l k).1 ++ (loopW f l (valW f l k).2 i o false).1, (loopW f l (valW f l k).2 i o false).2) := by
  rw [loopW, hv]
  dsimp only
  rw [if_pos hp]
theorem loopW_comma {l : List Val} {k i : Nat} {v : Val} (hv : l[k]? = some v) (hp : v.parent = (i : Int)) (f : Nat) (o : Bool) : loopW (f + 1) l k i o false = (44 :: (loopW (f + 1) l k i o true).1, (loopW (f + 1) l k i o true).2) := by
  rw [loopW_some hv hp, loopW_some hv hp]
  simp
end Go.Proofs.YtcdeikhfmllkdaaGreatDoor
