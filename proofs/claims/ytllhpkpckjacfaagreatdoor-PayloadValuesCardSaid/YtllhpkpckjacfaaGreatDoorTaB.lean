/- json's Quote; template's filters. -/
import Derived.Test.YtllhpkpckjacfaaGreatDoorTaA
import Derived.BigQuiet
import Derived.Deep.QuietTactic
namespace Go.Proofs.YtllhpkpckjacfaaGreatDoor
open Go.RowKit
set_option linter.unusedVariables false
set_option linter.unusedSimpArgs false

/-- The tables of utf8, and the length that bytealg takes, as they lie. -/
structure Tabs (w : World) : Prop where
  utf8 : Lib.Utf8Tabs 0 1 w
  max : ∃ m, w.cell? ⟨2, 0, none⟩ = some (.int .i64 m)
theorem Tabs.below {w w' : World} (h : Tabs w) (b : Below w.heap.size w w') : Tabs w' := by
  have k : ∀ p v, w.cell? p = some v → w'.cell? p = some v := fun p v e => (b.cell (World.block_lt_of_cell? w p e)).trans e
  obtain ⟨m, hm⟩ := h.max
  exact ⟨⟨fun c hc => k _ _ (h.utf8.1 c hc), fun i hi => ⟨k _ _ (h.utf8.2 i hi).1, k _ _ (h.utf8.2 i hi).2⟩⟩, m, k _ _ hm⟩

theorem valid_any {w : World} (hT : Tabs w) {s : Bytes} (hs : s.length ≤ maxLen) : Calls Tryz.prog 61 #[.string (str s)] w fun e w' => e = .returned (.bool (Lib.validD s)) ∧ Below w.heap.size w w' := by
  have := Any.utf8_ValidString Tryz.laysValid (str s) w (by rw [str_size]; unfold maxLen at hs; omega) hT.utf8
  rw [str_toList] at this
  exact this
def quoteP (s : Bytes) : Bytes × Nat := if Lib.validD s then (quoteM s, 0) else ([], 4)
theorem wb_new (w : World) : Wb (w.alloc (.cells #[.pointer none, .slice none 0 0] 86)) w.heap.size 0 w.heap.size 86 [] [] [] :=
  ⟨_, _, .inl rfl, Nat.le_refl _, rfl, heap_alloc_new _ _, World.ownsRowF_nil _ _ _ _, by simp [Value.ownBlock]⟩
set_option maxRecDepth 100000 in
set_option maxHeartbeats 2000000 in
theorem Quote_any {w : World} (hT : Tabs w) (s : Bytes) (hs : 6 * s.length + 2 ≤ 140737488355328) :
    Calls Tryz.prog 30 #[.string (str s)] w fun e w' => e = .returned (.tuple #[.string (str (quoteP s).1), .int .i64 (quoteP s).2]) ∧ Below w.heap.size w w' := by
  have hval := valid_any hT (s := s) (by unfold maxLen; omega)
  cases hv : Lib.validD s with
  | false =>
    have hp : quoteP s = ([], 4) := by simp [quoteP, hv]
    rw [hv] at hval
    rw [hp]
    have HV := Lib.hid hval
    clear hv hp hT hval
    go_enter Tryz.func30, Tryz.ntmps30
    go_wp2_with fail
    refine HV.out.mono ?_
    rintro e w1 ⟨rfl, hb⟩
    have HB := Lib.hid hb
    clear hb
    go_wp2
    go_ret2
    exact ⟨rfl, HB.out⟩
  | true =>
    have hp : quoteP s = (quoteM s, 0) := by simp [quoteP, hv]
    rw [hv] at hval
    rw [hp]
    have HV := Lib.hid hval
    clear hv hp hT hval
    go_enter Tryz.func30, Tryz.ntmps30
    go_wp2_with fail
    refine HV.out.mono ?_
    rintro e w1 ⟨rfl, hb⟩
    have HB := Lib.hid hb
    clear hb
    have HW := Lib.hid (wb_new w1)
    go_wp2_with fail
    refine (quote_w headB86 (by rfl) HW.out s (by simp only [List.length_nil]; omega) (by simp)).mono ?_
    rintro e w2 ⟨rfl, h2, f2⟩
    have H2 := Lib.hid (And.intro h2 f2)
    clear h2 f2
    go_wp2_with fail
    refine (string_w headB86 (by rfl) H2.out.1 (by simp [quoteM])).mono ?_
    rintro e w3 ⟨rfl, hb3⟩
    have H3 := Lib.hid hb3
    clear hb3
    go_wp2
    go_ret2
    refine ⟨by simp, HB.out.trans ?_⟩
    have h4 : Below w1.heap.size w1 w3 := (((Below.refl w1.heap.size w1).alloc (Nat.le_refl _) _).trans H2.out.2.below).trans H3.out
    exact h4.mono HB.out.size

/-! ### words -/
/-- A slice that reads as these texts. -/
structure Ss (w : World) (V : Value) (l : List Bytes) : Prop where
  form : ∃ A c, V = .slice A l.length c ∧ l.length ≤ c
  cells : ∀ j s, l[j]? = some s → ∃ ad n c, V = .slice (some ad) n c ∧ w.cell? (ad.add j) = some (.string (str s))
theorem Ss.below {w w' : World} {V : Value} {l : List Bytes} (h : Ss w V l) (b : Below w.heap.size w w') : Ss w' V l :=
  ⟨h.form, fun j s hj => by
    obtain ⟨ad, n, c, e, hc⟩ := h.cells j s hj
    exact ⟨ad, n, c, e, (b.cell (World.block_lt_of_cell? w _ hc)).trans hc⟩⟩
theorem bytes_ne {a b : ByteArray} (h : ¬ a = b) : (a.toList == b.toList) = false := by
  rw [beq_eq_false_iff_ne]
  intro e
  rw [ByteArray.toList_eq, ByteArray.toList_eq] at e
  exact h (ByteArray.ext (Array.ext' e))
theorem str_ne {a b : Bytes} (h : ¬ a = b) : ((str a).toList == (str b).toList) = false := bytes_ne (fun e => h (by have := congrArg (fun s => s.data.toList) e; simpa [str] using this))
def wUpper : Bytes := [117, 112, 112, 101, 114]
def wLower : Bytes := [108, 111, 119, 101, 114]
def wQuote : Bytes := [113, 117, 111, 116, 101]
def wLimit : Bytes := [108, 105, 109, 105, 116]
def wDefault : Bytes := [100, 101, 102, 97, 117, 108, 116]
theorem ret_bool {a b : Bool} (h : a = b) : Ending.returned (.bool a) = .returned (.bool b) := by rw [h]
theorem str_tl (a : Bytes) : (str a).toList = a := by rw [ByteArray.toList_eq, str_toList]

/-! ### a filter's number -/
def isDg (b : UInt8) : Bool := decide (48 ≤ b.toNat) && decide (b.toNat ≤ 57)
def digs : Bytes := [48, 49, 50, 51, 52, 53, 54, 55, 56, 57]
def decV (s : Bytes) : Nat := s.foldl (fun n c => n * 10 + (c.toNat - 48)) 0
def numberM (s : Bytes) : Option Nat := if s = [] ∨ 4 < s.length ∨ ¬ s.all isDg then none else some (decV s)
theorem digs_dg (b : UInt8) : digs.contains b = isDg b := by
  have h : ∀ n : Fin 256, digs.contains (UInt8.ofNat n.val) = isDg (UInt8.ofNat n.val) := by decide +kernel
  have := h ⟨b.toNat, UInt8.toNat_lt b⟩
  simpa using this
theorem dw_nil (p : UInt8 → Bool) : ∀ l : Bytes, l.dropWhile p = [] ↔ ∀ x ∈ l, p x = true
  | [] => by simp
  | a :: l => by
    cases h : p a with
    | true => rw [List.dropWhile_cons_of_pos h, dw_nil p l]; simp [h]
    | false => rw [List.dropWhile_cons_of_neg (by simp [h])]; simp [h]
theorem trimS_all (d : Bytes) : (Lib.trimS d digs).isEmpty = d.all isDg := by
  have hc : (fun b => digs.contains b) = isDg := funext digs_dg
  unfold Lib.trimS Lib.trimLeftS Lib.trimRightS
  rw [hc]
  by_cases h : d.all isDg = true
  · rw [h]
    have e : d.reverse.dropWhile isDg = [] := by rw [dw_nil]; intro x hx; exact List.all_eq_true.1 h x (List.mem_reverse.1 hx)
    rw [e]; rfl
  · have hf : d.all isDg = false := by simpa using h
    rw [hf]
    cases e : d.reverse.dropWhile isDg with
    | nil =>
      rw [dw_nil] at e
      exact absurd (List.all_eq_true.2 fun x hx => e x (List.mem_reverse.2 hx)) h
    | cons a t =>
      have ha : isDg a = false := by
        have := List.head?_dropWhile_not isDg d.reverse
        rw [e] at this
        simpa using this
      have hm : a ∈ (a :: t).reverse := by simp
      cases e2 : (a :: t).reverse.dropWhile isDg with
      | nil =>
        rw [dw_nil] at e2
        rw [e2 a hm] at ha; cases ha
      | cons b u => rfl
theorem digit_val (c : UInt8) (h : isDg c = true) : Lib.digitVal c = some (c.toNat - 48) := by
  have h' : ∀ n : Fin 256, isDg (UInt8.ofNat n.val) = true → Lib.digitVal (UInt8.ofNat n.val) = some ((UInt8.ofNat n.val).toNat - 48) := by decide +kernel
  have := h' ⟨c.toNat, UInt8.toNat_lt c⟩
  simp only [UInt8.ofNat_toNat] at this
  exact this h
theorem dec_from : ∀ (s : Bytes) (n : Nat), s.all isDg = true → Lib.decFrom n s = some (s.foldl (fun n c => n * 10 + (c.toNat - 48)) n)
  | [], n, _ => rfl
  | c :: s, n, h => by
    simp only [List.all_cons, Bool.and_eq_true] at h
    simp only [Lib.decFrom, digit_val c h.1, List.foldl_cons]
    exact dec_from s _ h.2
theorem atoi_of {s : Bytes} (hne : s ≠ []) (h : s.all isDg = true) : Lib.atoi s = some (decV s : Int) := by
  cases s with
  | nil => exact absurd rfl hne
  | cons c t =>
    have hc : isDg c = true := by simp only [List.all_cons, Bool.and_eq_true] at h; exact h.1
    have n45 : (c == 45) = false := by rw [beq_eq_false_iff_ne]; rintro rfl; revert hc; decide
    have n43 : (c == 43) = false := by rw [beq_eq_false_iff_ne]; rintro rfl; revert hc; decide
    unfold Lib.atoi
    dsimp only
    rw [n45, n43]
    simp only [Bool.false_eq_true, if_false, Lib.decNat, List.isEmpty_cons]
    rw [dec_from _ 0 h]; rfl
theorem drawn_below {w : World} {n : Nat} : Below w.heap.size w (w.drewN n) := below_drewN (Below.refl _ _) n
set_option maxRecDepth 100000 in
set_option maxHeartbeats 2000000 in
theorem number_no {w : World} (s : Bytes) (hs : s.length ≤ maxLen) (h : numberM s = none) :
    Calls Tryz.prog 39 #[.string (str s)] w fun e w' => e = .returned (.tuple #[.int .i64 0, .bool false]) ∧ Below w.heap.size w w' := by
  have hsz := str_size s
  have ht := str_tl s
  unfold maxLen at hs
  by_cases h0 : s = []
  · subst h0
    clear h
    have hE : (str []).toList.isEmpty = true := by rw [str_empty]; rfl
    go_enter Tryz.func39, Tryz.ntmps39
    go_wp2
    go_ret2
    exact ⟨rfl, Below.refl _ _⟩
  have hE : (str s).toList.isEmpty = false := by rw [str_empty]; cases s <;> simp_all
  have hE3 : ¬ (str s).toList = [] := by rw [str_tl]; exact h0
  have hE4 : ((str s).toList == []) = false := by rw [beq_eq_false_iff_ne]; exact hE3
  by_cases h4 : 4 < s.length
  · have hz : decide ((4 : Int) < ((str s).size : Int)) = true := by rw [hsz]; simp; omega
    clear h h0 hsz ht hs
    go_enter Tryz.func39, Tryz.ntmps39
    go_wp2
    go_ret2
    exact ⟨rfl, Below.refl _ _⟩
  have hz : decide ((4 : Int) < ((str s).size : Int)) = false := by rw [hsz]; simp; omega
  have hd : s.all isDg = false := by
    cases hh : s.all isDg with
    | false => rfl
    | true =>
      unfold numberM at h
      rw [if_neg (by simp [h0, h4, hh])] at h; cases h
  have htr : (str (Lib.trimS s digs)).toList.isEmpty = false := by rw [str_empty, trimS_all]; exact hd
  have hsm : (str s).size ≤ 9223372036854775807 := by omega
  clear hs
  have HTr := Lib.hid htr
  clear h h0 h4 hd htr ht hsz
  go_enter Tryz.func39, Tryz.ntmps39
  go_wp2_with fail
  refine (Any.strings_Trim_laid Tryz.laysTrim (by kernel_rfl) (str s) ⟨#[48, 49, 50, 51, 52, 53, 54, 55, 56, 57]⟩ _ hsm (by decide) (ascii_of_all (by decide))).mono ?_
  rintro e w1 ⟨rfl, hb⟩
  have HB := Lib.hid hb
  clear hb
  rw [show (⟨(Lib.trimS (str s).data.toList (⟨#[48, 49, 50, 51, 52, 53, 54, 55, 56, 57]⟩ : ByteArray).data.toList).toArray⟩ : ByteArray) = str (Lib.trimS s digs) from by rw [str_toList]; rfl]
  have htr := HTr.out
  go_wp2
  go_ret2
  exact ⟨rfl, HB.out⟩
set_option maxRecDepth 100000 in
set_option maxHeartbeats 2000000 in
theorem number_yes {w : World} (s : Bytes) {n : Nat} (h : numberM s = some n) :
    Calls Tryz.prog 39 #[.string (str s)] w fun e w' => e = .returned (.tuple #[.int .i64 n, .bool true]) ∧ Below w.heap.size w w' := by
  have hsz := str_size s
  unfold numberM at h
  split at h
  · cases h
  rename_i hh
  simp only [Option.some.injEq] at h
  have h0 : ¬ s = [] := fun e => hh (.inl e)
  have h4 : ¬ 4 < s.length := fun e => hh (.inr (.inl e))
  have hd : s.all isDg = true := by
    cases hx : s.all isDg with
    | true => rfl
    | false => exact absurd (.inr (.inr (by rw [hx]; simp))) hh
  have hE : (str s).toList.isEmpty = false := by rw [str_empty]; cases s <;> simp_all
  have hE3 : ¬ (str s).toList = [] := by rw [str_tl]; exact h0
  have hE4 : ((str s).toList == []) = false := by rw [beq_eq_false_iff_ne]; exact hE3
  have hz : decide ((4 : Int) < ((str s).size : Int)) = false := by rw [hsz]; simp; omega
  have htr : (str (Lib.trimS s digs)).toList.isEmpty = true := by rw [str_empty, trimS_all]; exact hd
  have hsm : (str s).size ≤ 9223372036854775807 := by omega
  have hat := atoi_of h0 hd
  rw [h] at hat
  have hs18 : (str s).size ≤ 18 := by omega
  have HA := Lib.hid hat
  have HTr := Lib.hid htr
  clear h h0 h4 hd htr hat hsz
  go_enter Tryz.func39, Tryz.ntmps39
  go_wp2_with fail
  refine (Any.strings_Trim_laid Tryz.laysTrim (by kernel_rfl) (str s) ⟨#[48, 49, 50, 51, 52, 53, 54, 55, 56, 57]⟩ _ hsm (by decide) (ascii_of_all (by decide))).mono ?_
  rintro e w1 ⟨rfl, hb⟩
  have HB := Lib.hid hb
  clear hb
  rw [show (⟨(Lib.trimS (str s).data.toList (⟨#[48, 49, 50, 51, 52, 53, 54, 55, 56, 57]⟩ : ByteArray).data.toList).toArray⟩ : ByteArray) = str (Lib.trimS s digs) from by rw [str_toList]; rfl]
  have htr := HTr.out
  go_wp2_with fail
  refine (Any.strconv_Atoi Tryz.laysAtoi (str s) n hs18 (by rw [str_toList]; exact HA.out) _).mono ?_
  rintro e w2 ⟨rfl, t, rfl⟩
  obtain ⟨w2, hw2⟩ : ∃ w2, Lib.bytesWorld w1 5 t = w2 := ⟨_, rfl⟩
  have HB2 : Hid (Below w.heap.size w w2) := Lib.hid (by rw [← hw2]; exact HB.out.trans ((Lib.bytesWorld_below w1 5 t).mono HB.out.size))
  have ew : (Lib.bytesWorld w1 (Tryz.laysAtoi_ren.t 5) t) = w2 := hw2
  rw [ew]
  clear ew hw2
  go_wp2_with fail
  go_quiet (fail)
  go_wp2
  go_ret2
  exact ⟨rfl, HB2.out.trans ((drawn_below (w := w2)).mono HB2.out.size)⟩
set_option maxRecDepth 100000 in
set_option maxHeartbeats 2000000 in
theorem filters_one {w : World} {ad : Addr} {c : Nat} {a : Bytes} (hc : 1 ≤ c) (h0 : w.cell? ad = some (.string (str a))) :
    Calls Tryz.prog 37 #[.slice (some ad) 1 c] w fun e w' => e = .returned (.bool (a == [117, 112, 112, 101, 114] || a == [108, 111, 119, 101, 114] || a == [113, 117, 111, 116, 101])) ∧ w' = w := by
  have ht := str_tl a
  go_enter Tryz.func37, Tryz.ntmps37
  go_wp2
  all_goals
    go_ret
    refine ⟨ret_bool ?_, rfl⟩
    first | rfl | (simp_all; done)
set_option maxRecDepth 100000 in
set_option maxHeartbeats 2000000 in
theorem filters_two {w : World} {ad : Addr} {c : Nat} {a b : Bytes} (hc : 2 ≤ c) (h0 : w.cell? ad = some (.string (str a))) (h1 : w.cell? ⟨ad.block, ad.off + 1, none⟩ = some (.string (str b))) (hb : b.length ≤ maxLen) :
    Calls Tryz.prog 37 #[.slice (some ad) 2 c] w fun e w' => e = .returned (.bool (if a = wLimit then (numberM b).isSome else a == [100, 101, 102, 97, 117, 108, 116])) ∧ Below w.heap.size w w' := by
  have ht := str_tl a
  by_cases hl : a = wLimit
  · rw [if_pos hl]
    subst hl
    have hl2 : (str wLimit).toList = [108, 105, 109, 105, 116] := str_tl _
    clear ht
    cases hn : numberM b with
    | none =>
      have HN := Lib.hid hn
      have HBn := Lib.hid hb
      clear hn hb
      go_enter Tryz.func37, Tryz.ntmps37
      go_wp2_with fail
      refine (number_no b HBn.out HN.out).mono ?_
      rintro e w1 ⟨rfl, hb⟩
      have HB := Lib.hid hb
      clear hb
      go_wp2
      go_ret
      exact ⟨rfl, HB.out⟩
    | some n =>
      have HN := Lib.hid hn
      clear hn hb
      go_enter Tryz.func37, Tryz.ntmps37
      go_wp2_with fail
      refine (number_yes b HN.out).mono ?_
      rintro e w1 ⟨rfl, hb⟩
      have HB := Lib.hid hb
      clear hb
      go_wp2
      go_ret
      exact ⟨rfl, HB.out⟩
  · rw [if_neg hl]
    have hne : (a == [108, 105, 109, 105, 116]) = false := by rw [beq_eq_false_iff_ne]; exact hl
    have hne2 : ¬ a = [108, 105, 109, 105, 116] := hl
    clear hl
    go_enter Tryz.func37, Tryz.ntmps37
    go_wp2
    all_goals
      go_ret
      refine ⟨ret_bool ?_, Below.refl _ _⟩
      first | rfl | (simp_all; done)
end Go.Proofs.YtllhpkpckjacfaaGreatDoor
