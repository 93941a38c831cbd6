import Derived.Test.YtcdeikhfmllkdaaGreatDoorJn
/- json's value: the walk. -/
namespace Go.Proofs.YtcdeikhfmllkdaaGreatDoor
open Go.RowKit
set_option linter.unusedVariables false

/-- What the next value comes to, by its first byte. -/
def kindM (f : Nat) (c : UInt8) (t : Bytes) (l : List Val) (nest : Nat) (name : Bytes) (parent : Int) : Res :=
  if c = 110 then if Lib.hasPrefix (c :: t) [110, 117, 108, 108] then .ok (Lib.trimPrefix (c :: t) [110, 117, 108, 108], l ++ [⟨parent, 0, name, []⟩]) else .error 4
  else if c = 102 then if Lib.hasPrefix (c :: t) [102, 97, 108, 115, 101] then .ok (Lib.trimPrefix (c :: t) [102, 97, 108, 115, 101], l ++ [⟨parent, 1, name, []⟩]) else .error 4
  else if c = 116 then if Lib.hasPrefix (c :: t) [116, 114, 117, 101] then .ok (Lib.trimPrefix (c :: t) [116, 114, 117, 101], l ++ [⟨parent, 2, name, []⟩]) else .error 4
  else if c = 34 then match quotedM (c :: t) with
    | some (x, u) => .ok (u, l ++ [⟨parent, 4, name, x⟩])
    | none => .error 4
  else if isNum c then if intM (numTok (c :: t)) then .ok (numRest (c :: t), l ++ [⟨parent, 3, name, numTok (c :: t)⟩]) else .error 4
  else if c = 91 then manyM f t (l ++ [⟨parent, 5, name, []⟩]) nest l.length 93
  else if c = 123 then manyM f t (l ++ [⟨parent, 6, name, []⟩]) nest l.length 125
  else .error 4
theorem valueM_at {f : Nat} {s : Bytes} {l : List Val} {n : Nat} {name : Bytes} {parent : Int} {c : UInt8} {t : Bytes} (h : skip s = c :: t) (hl : l.length < 512) (hn : n < 16) : valueM (f + 1) s l n name parent = kindM f c t l n name parent := by
  simp only [valueM, h]
  rw [if_neg (by omega), if_neg (by omega)]
  rfl
theorem ne_of_byte {c d : UInt8} (h : c ≠ d) : c.toNat ≠ d.toNat := fun e => h (UInt8.toNat_inj.1 e)

attribute [local go_sem ↓] Go.wp_at_zero Go.wp_at_succ
set_option maxRecDepth 100000 in
set_option maxHeartbeats 4000000 in
theorem value_some {f : Nat} (hm : Hid (ManyHyp f)) {w : World} {q B : Nat} {s : Bytes} {V : Value} {l : List Val} {n : Nat} (R : Rs w q B s V l n) (hT : Tabs w) (hB : B ≤ w.heap.size) (hs : s.length ≤ 65536) (hf : 3 * s.length < f + 1)
    (name : Bytes) (parent : Int) (c : UInt8) (t : Bytes) (hsk : skip s = c :: t) (hl : l.length < 512) (hn : n < 16) :
    Calls Tryz.prog 76 #[.pointer (some ⟨q, 0, none⟩), .string (str name), .int .i64 parent] w (VPost w q B V n (valueM (f + 1) s l n name parent)) := by
  obtain ⟨i0, hi0, iz0, iz1, iz2⟩ := info_parts Tryz.info78
  have hsl : t.length + 1 ≤ s.length := by have := skip_len s; rw [hsk] at this; simpa using this
  obtain ⟨p, cap, rfl⟩ := R.own.form
  have HR := Lib.hid R
  have HT := Lib.hid hT
  have HK := Lib.hid hsk
  clear R hT hsk
  obtain ⟨H0, hH0⟩ : ∃ H0, w.heap.size = H0 := ⟨_, rfl⟩
  have HH0 := Lib.hid hH0
  rw [hH0] at hB
  clear hH0
  go_enter Tryz.func76, Tryz.ntmps76
  go_wp2_with fail
  rw [HH0.out]
  have hq := HR.out.hq
  have R0 := HR.out.alloc (.cells #[.pointer (some ⟨q, 0, none⟩)] 127)
  refine (blanks_any R0.rd).mono ?_
  rintro e w1 ⟨rfl, r1, t1⟩
  have R1 := R0.turn r1 t1
  rw [HK.out] at R1
  have hz1' : H0 < w1.heap.size := by have := t1.size; simp at this; have := HH0.out; omega
  have b0 : w1.heap[H0]? = some (.cells #[.pointer (some ⟨q, 0, none⟩)] 127) := by
    rw [t1.block H0 (by simp; have := HH0.out; omega) (by omega), ← HH0.out]; exact heap_alloc_new _ _
  have T1 : Turn (fun k => k = q ∨ (Value.slice p l.length cap).ownBlock = some k) w w1 := ((Turn.of_below ((Below.refl _ _).alloc (Nat.le_refl _) _) : Turn (fun k => k = q ∨ (Value.slice p l.length cap).ownBlock = some k) w _)).trans (t1.mono (fun k _ e => .inl e))
  have tb1 : Tabs w1 := HT.out.turn T1 (by have := HT.out.ne HR.out.rd; have := HT.out.lt; rintro (h | h); omega; have := (HR.out.own.lt h).1; omega) (by have := HT.out.ne HR.out.rd; have := HT.out.lt; rintro (h | h); omega; have := (HR.out.own.lt h).1; omega) (by have := HT.out.ne HR.out.rd; have := HT.out.lt; rintro (h | h); omega; have := (HR.out.own.lt h).1; omega)
  have g0 := (cells_of b0 0).1
  have c0 := R1.rd.c0
  have c1 := R1.rd.c1
  have c2 := R1.rd.c2
  obtain ⟨hE, hsz1, h0, hx⟩ := cons_facts c t
  obtain ⟨S, hS⟩ : ∃ S, str (c :: t) = S := ⟨_, rfl⟩
  rw [hS] at c0 hE hsz1 h0 hx
  have hz0 : 0 < S.size := by omega
  have h00 := h0 hz0
  have hS1 : (1 : Int) ≤ (S.size : Int) := by omega
  have HX := Lib.hid hx
  have HS := Lib.hid hS
  have H1 := Lib.hid (And.intro R1 (And.intro b0 (And.intro T1 tb1)))
  clear R0 r1 t1 R1 b0 T1 tb1 hS h0 hx hsz1
  go_wp2_with fail
  refine (need_yes 4 _).mono ?_
  rintro e w2 ⟨rfl, rfl⟩
  have hl' : decide ((l.length : Int) < 512) = true := by simp; omega
  have hn' : decide ((n : Int) < 16) = true := by simp; omega
  go_wp2_with fail
  refine (need_yes 5 _).mono ?_
  rintro e w2 ⟨rfl, rfl⟩
  go_wp2_with fail
  refine (need_yes 4 _).mono ?_
  rintro e w2 ⟨rfl, rfl⟩
  go_wp2_with fail
  have R2 := H1.out.1.alloc (.cells #[.int .i64 l.length] 3)
  have b02 : (w1.alloc (.cells #[.int .i64 l.length] 3)).heap[H0]? = some (.cells #[.pointer (some ⟨q, 0, none⟩)] 127) := by
    rw [heap_alloc_old _ _ hz1']; exact H1.out.2.1
  have b12 : (w1.alloc (.cells #[.int .i64 l.length] 3)).heap[w1.heap.size]? = some (.cells #[.int .i64 l.length] 3) := heap_alloc_new _ _
  have T2 := H1.out.2.2.1.trans (Turn.of_below ((Below.refl _ _).alloc (Nat.le_refl _) (.cells #[.int .i64 l.length] 3)))
  have tb2 := H1.out.2.2.2.turn (S := fun _ => False) (Turn.of_below ((Below.refl _ _).alloc (Nat.le_refl _) (.cells #[.int .i64 l.length] 3))) (by simp) (by simp) (by simp)
  have hs2 : (w1.alloc (.cells #[.int .i64 l.length] 3)).heap.size = w1.heap.size + 1 := by simp
  obtain ⟨w2, hw2⟩ : ∃ w2, w1.alloc (.cells #[.int .i64 l.length] 3) = w2 := ⟨_, rfl⟩
  rw [hw2] at R2 b02 b12 T2 tb2 hs2 ⊢
  clear hw2
  obtain ⟨I, hI⟩ : ∃ I, w1.heap.size = I := ⟨_, rfl⟩
  rw [hI] at hz1' b12 hs2 ⊢
  clear hI g0 c0 c1 c2
  have g0 := (cells_of b02 0).1
  have c1 := R2.rd.c1
  have f1 := R2.rd.f 1
  have hown := R2.own
  unfold Own at hown
  have hqI : q < w2.heap.size := R2.rd.lt
  have hH2 : H0 < w2.heap.size := by omega
  have hB2 : B ≤ w2.heap.size := by omega
  have hnq : (Value.slice p l.length cap).ownBlock ≠ some q := fun e => by have := (R2.own.lt e).1; omega
  have hnH : (Value.slice p l.length cap).ownBlock ≠ some H0 := fun e => by have := (HR.out.own.lt e).2; have := HH0.out; omega
  have hnI : (Value.slice p l.length cap).ownBlock ≠ some I := fun e => by have := (HR.out.own.lt e).2; have := HH0.out; omega
  have nw1 := World.new_ne w2 ⟨H0, 0, none⟩ g0
  have nw2 := World.new_ne w2 ⟨q, 1, none⟩ c1
  have H2 := Lib.hid (And.intro R2 (And.intro b02 (And.intro b12 (And.intro T2 tb2))))
  have HS2 := Lib.hid hs2
  clear R2 b02 b12 T2 tb2 hs2
  have nf2 : ∀ o, (w2.alloc o).frozen? ⟨q, 1, none⟩ = false := fun o => (World.frozen?_of_block (a := ⟨q, 1, none⟩) (w := w2) (w' := w2.alloc o) (heap_alloc_old w2 _ hqI)).trans f1
  have nf3 : ∀ o, (w2.alloc o).drew.frozen? ⟨q, 1, none⟩ = false := nf2
  have hv0 := fun k (e : (Value.slice p l.length cap).ownBlock = some k) => HR.out.own.lt e
  have HV0 := Lib.hid hv0
  clear hv0
  go_cut [] (fun wc => VCut w q B H0 I (.slice p l.length cap) (c :: t) l ⟨parent, 0, name, []⟩ n wc)
  case first =>
    go_region_law
      (refine step_append_lies _ (by rfl) _ _ _ (by rfl) B 78 i0 _ 4 48 Tryz.underlying52 hi0 iz0 iz1 iz2 rfl (by omega) (.slice p l.length cap) l.length (vcells l) (by rfl) ((hown.alloc _).drew) ⟨w2.heap.size, 0, none⟩ 1 1 [.int .i64 parent, .int .u8 0, .string (str name), .string ⟨#[]⟩] (by rfl) (by rfl) (World.news_of_block (cs := #[.int .i64 parent, .int .u8 0, .string (str name), .string ⟨#[]⟩]) (t := 78) (fr := (0, 0)) (heap_alloc_new w2 _)) (by simp [Value.oneCell']) (by omega) (by unfold maxLen; omega) (by omega) (by simp; omega) (w2.heap.size + 1) (by simp) ?_; intro g cap' w3 hown1 hgrow hat hlt
       have c03 : w3.cell? ⟨H0, 0, none⟩ = some (.pointer (some ⟨q, 0, none⟩)) := by rw [hgrow.cell_far _ (by simp; omega) (Ne.symm hnH)]; exact (World.cell?_of_block (a := ⟨H0, 0, none⟩) (w := w2) (w' := (w2.alloc _).drew) (heap_alloc_old w2 _ hH2)).trans g0
       have c13 : w3.cell? ⟨q, 1, none⟩ = some (.slice p l.length cap) := by rw [hgrow.cell_far _ (by simp; omega) (Ne.symm hnq)]; exact (World.cell?_of_block (a := ⟨q, 1, none⟩) (w := w2) (w' := (w2.alloc _).drew) (heap_alloc_old w2 _ hqI)).trans c1
       have f13 : w3.frozen? ⟨q, 1, none⟩ = false := by rw [hgrow.frozen_far _ (by simp; omega) (Ne.symm hnq)]; exact nf3 _)
    all_goals
      go_wp2
      go_meet
      case rel => exact VCut.mk' (by have := HH0.out; omega) HV0.out (by have := HH0.out; omega) (by omega) HS2.out H2.out.1 H2.out.2.1 H2.out.2.2.1 H2.out.2.2.2.1 H2.out.2.2.2.2 hl _ hown1 hgrow hat
  case rest =>
    go_step
    have hr := valueM_at (f := f) (name := name) (parent := parent) HK.out hl hn
    obtain ⟨r, hr0⟩ : ∃ r, valueM (f + 1) s l n name parent = r := ⟨_, rfl⟩
    rw [hr0] at hr ⊢
    have htl : t.length < 65536 := by omega
    have hw : B ≤ w.heap.size := by have := HH0.out; omega
    by_cases h : c = 110
    · subst h
      by_cases hp : Lib.hasPrefix (110 :: t) [110, 117, 108, 108] = true
      · exact value_n_yes hp (by rw [hr]; simp [kindM, hp]) hcut
      · exact value_n_no (by simpa using hp) (by rw [hr]; simp [kindM, hp]) hcut
    by_cases h102 : c = 102
    · subst h102
      by_cases hp : Lib.hasPrefix (102 :: t) [102, 97, 108, 115, 101] = true
      · exact value_f_yes hp (by rw [hr]; simp [kindM, hp]) hcut
      · exact value_f_no (by simpa using hp) (by rw [hr]; simp [kindM, hp]) hcut
    by_cases h116 : c = 116
    · subst h116
      by_cases hp : Lib.hasPrefix (116 :: t) [116, 114, 117, 101] = true
      · exact value_t_yes hp (by rw [hr]; simp [kindM, hp]) hcut
      · exact value_t_no (by simpa using hp) (by rw [hr]; simp [kindM, hp]) hcut
    by_cases h34 : c = 34
    · subst h34
      cases hp : quotedM (34 :: t) with
      | some x => exact value_q_yes htl hp (by rw [hr]; simp [kindM, hp]) hcut
      | none => exact value_q_no htl hp (by rw [hr]; simp [kindM, hp]) hcut
    by_cases h45 : c = 45
    · subst h45
      cases hp : intM (numTok (45 :: t)) with
      | true => exact value_m_yes hp (by rw [hr]; simp [kindM, isNum, hp]) hcut
      | false => exact value_m_no hp (by rw [hr]; simp [kindM, isNum, hp]) hcut
    by_cases hd : 48 ≤ c.toNat ∧ c.toNat ≤ 57
    · have hn2 : isNum c = true := by simp only [isNum, decide_eq_true_eq, UInt8.le_iff_toNat_le]; right; exact hd
      cases hp : intM (numTok (c :: t)) with
      | true => exact value_d_yes hd.1 hd.2 hp (by rw [hr]; simp [kindM, h, h102, h116, h34, hn2, hp]) hcut
      | false => exact value_d_no hd.1 hd.2 hp (by rw [hr]; simp [kindM, h, h102, h116, h34, hn2, hp]) hcut
    have hn2 : isNum c = false := by
      simp only [isNum, decide_eq_false_iff_not, UInt8.le_iff_toNat_le]
      rintro (e | e)
      · exact h45 e
      · exact hd e
    by_cases h91 : c = 91
    · subst h91
      exact value_arr hm hw htl (by omega) hn (by rw [hr]; simp [kindM, isNum]) hcut
    by_cases h123 : c = 123
    · subst h123
      exact value_obj hm hw htl (by omega) hn (by rw [hr]; simp [kindM, isNum]) hcut
    have hne : c.toNat ≠ 110 ∧ c.toNat ≠ 102 ∧ c.toNat ≠ 116 ∧ c.toNat ≠ 34 ∧ c.toNat ≠ 45 ∧ c.toNat ≠ 91 ∧ c.toNat ≠ 123 :=
      ⟨ne_of_byte h, ne_of_byte h102, ne_of_byte h116, ne_of_byte h34, ne_of_byte h45, ne_of_byte h91, ne_of_byte h123⟩
    have hr4 : r = .error 4 := by rw [hr]; simp [kindM, h, h102, h116, h34, hn2, h91, h123]
    by_cases hlo : c.toNat < 48
    · exact value_else_lo hlo hne hr4 hcut
    · exact value_else_hi (by omega) hne hr4 hcut
end Go.Proofs.YtcdeikhfmllkdaaGreatDoor
