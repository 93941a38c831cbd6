import Derived.Test.YtllhpkpckjacfaaGreatDoorProg
import Derived.Shelf.Strings.Search3
import Derived.Test.YtllhpkpckjacfaaGreatDoorTrF
/- The library functions that the program calls are the bodies that the shelf speaks of. Printed by wip/tools/lays.py. -/
namespace Go.Proofs.YtllhpkpckjacfaaGreatDoor
open Go
set_option maxRecDepth 1000000
set_option maxHeartbeats 4000000
def Tryz.laysContains_ren : Go.Shelf.Ren := ⟨fun | 143 => 110 | 144 => 84 | 217 => 88 | 219 => 138 | 224 => 159 | 225 => 158 | 266 => 112 | 267 => 160 | 314 => 169 | n => n, fun | 3 => 3 | 4 => 4 | 5 => 5 | 9 => 9 | 46 => 98 | 51 => 212 | 146 => 213 | n => n, fun | 1 => 2 | n => n⟩
theorem Tryz.laysContains : Lays.n144 Tryz.prog Tryz.laysContains_ren where
  mixed := by kernel_rfl
  f143 := Tryz.func110.trans (congrArg some (by kernel_rfl))
  f144 := Tryz.func84.trans (congrArg some (by kernel_rfl))
  f217 := Tryz.func88.trans (congrArg some (by kernel_rfl))
  f219 := Tryz.func138.trans (congrArg some (by kernel_rfl))
  f224 := Tryz.func159.trans (congrArg some (by kernel_rfl))
  f225 := Tryz.func158.trans (congrArg some (by kernel_rfl))
  f266 := Tryz.func112.trans (congrArg some (by kernel_rfl))
  f267 := Tryz.func160.trans (congrArg some (by kernel_rfl))
  f314 := Tryz.func169.trans (congrArg some (by kernel_rfl))
  t3 := Tryz.underlying3
  a3 := Tryz.isAgg3
  z3 := Tryz.sizeOf3
  v3 := Tryz.zeroValue3
  t4 := Tryz.underlying4
  a4 := Tryz.isAgg4
  z4 := Tryz.sizeOf4
  v4 := Tryz.zeroValue4
  t5 := Tryz.underlying5
  a5 := Tryz.isAgg5
  z5 := Tryz.sizeOf5
  v5 := Tryz.zeroValue5
  t9 := Tryz.underlying9
  a9 := Tryz.isAgg9
  z9 := Tryz.sizeOf9
  v9 := Tryz.zeroValue9
  t46 := Tryz.underlying98
  a46 := Tryz.isAgg98
  z46 := Tryz.sizeOf98
  v46 := Tryz.zeroValue98
  t51 := Tryz.underlying212
  a51 := Tryz.isAgg212
  z51 := Tryz.sizeOf212
  v51 := Tryz.zeroValue212
  t146 := Tryz.underlying213
  a146 := Tryz.isAgg213
  z146 := Tryz.sizeOf213
  v146 := Tryz.zeroValue213
  g1 := by kernel_rfl
end Go.Proofs.YtllhpkpckjacfaaGreatDoor

/- payload: bytes, escapes, cuts. -/
namespace Go.Proofs.YtllhpkpckjacfaaGreatDoor
open Go.RowKit Go.Proofs.YtllhpkpckjacfaaGreatDoorW.PrintWords PTemplateFilters
set_option linter.unusedVariables false
set_option linter.unusedSimpArgs false

theorem py_cat (a b : Bytes) : str a ++ str b = str (a ++ b) := by
  apply ByteArray.ext
  simp [str]
theorem py_take (l : Bytes) (k : Nat) : (str l).extract 0 k = str (l.take k) := by
  have h : ((str l).extract 0 k).data.toList = l.take k := by rw [Lib.extract_from_zero, str_toList]
  rw [← h, str_of]
theorem u8_every (P : UInt8 → Prop) (h : ∀ n, n < 256 → P (UInt8.ofNat n)) (c : UInt8) : P c := by
  have := h c.toNat c.toNat_lt
  rwa [UInt8.ofNat_toNat] at this
/-- A Builder of its own tells its text. -/
theorem string_all {w : World} {b B : Nat} {l : Bytes} (h : Wb w b 0 B 86 [] [] l) (hB : B ≤ w.heap.size) :
    Calls Tryz.prog 58 #[.pointer (some ⟨b, 0, none⟩)] w fun e w' => e = .returned (.string (str l)) ∧ Below B w w' := by
  by_cases hl : l = []
  · subst hl
    exact string_w0 headB86 (by rfl) h hB
  · exact string_w headB86 (by rfl) h hl
/-- A Builder has what a text's first bytes come to. -/
structure FlRel (w wr : World) (b B : Nat) (f : UInt8 → Bytes) (p s : Bytes) (n : Nat) : Prop where
  le : n ≤ s.length
  wb : Wb wr b 0 B 86 [] [] (p ++ (s.take n).flatMap f)
  wf : Wf B b w wr
theorem FlRel.next {w wr w' : World} {b B : Nat} {f : UInt8 → Bytes} {p s : Bytes} {n : Nat} {c : UInt8} {x : Bytes} (h : FlRel w wr b B f p s n) (hlt : n < s.length) (hc : s[n] = c) (hx : f c = x) (hw : Wb w' b 0 B 86 [] [] (p ++ (s.take n).flatMap f ++ x)) (hf : Wf B b wr w') : FlRel w w' b B f p s (n + 1) := by
  refine ⟨hlt, ?_, h.wf.trans hf⟩
  rw [List.take_succ_eq_append_getElem hlt, List.flatMap_append, ← List.append_assoc, hc]
  simpa [hx] using hw
theorem fl_len {f : UInt8 → Bytes} {k : Nat} (hf : ∀ c, (f c).length ≤ k) (s : Bytes) (n : Nat) : ((s.take n).flatMap f).length ≤ k * s.length := by
  have h : ∀ l : Bytes, (l.flatMap f).length ≤ k * l.length := by
    intro l
    induction l with
    | nil => simp
    | cons a l ih => rw [List.flatMap_cons, List.length_append, List.length_cons, Nat.mul_add]; have := hf a; omega
  exact Nat.le_trans (h _) (Nat.mul_le_mul_left _ (by rw [List.length_take]; omega))
theorem FlRel.len {w wr : World} {b B : Nat} {f : UInt8 → Bytes} {p s : Bytes} {n k : Nat} (h : FlRel w wr b B f p s n) (hf : ∀ c, (f c).length ≤ k) : (p ++ (s.take n).flatMap f).length ≤ p.length + k * s.length := by
  rw [List.length_append]
  have := fl_len hf s n
  omega
/-- Hex digits, of a mail's. -/
def HEXDs : Bytes := [48, 49, 50, 51, 52, 53, 54, 55, 56, 57, 65, 66, 67, 68, 69, 70]
theorem HEX_get (i : Nat) (h : i < 16) (h2 : i < (⟨#[48, 49, 50, 51, 52, 53, 54, 55, 56, 57, 65, 66, 67, 68, 69, 70]⟩ : ByteArray).size) : (⟨#[48, 49, 50, 51, 52, 53, 54, 55, 56, 57, 65, 66, 67, 68, 69, 70]⟩ : ByteArray)[i]'h2 = HEXDs.getD i 0 := by
  have := str_get HEXDs i h h2
  rw [List.getD_eq_getElem?_getD, List.getElem?_eq_getElem h]
  exact this
def hexB (c : UInt8) : Bytes := [61, HEXDs.getD (c.toNat / 16) 0, HEXDs.getD (c.toNat % 16) 0]
set_option maxHeartbeats 2000000 in
set_option maxRecDepth 100000 in
theorem hex_w {w : World} {b B : Nat} {l : Bytes} (h : Wb w b 0 B 86 [] [] l) (c : UInt8) (hl : l.length ≤ 1000000) (hB : B ≤ w.heap.size) :
    Calls Tryz.prog 57 #[.pointer (some ⟨b, 0, none⟩), .int .u8 c.toNat] w fun e w' => e = .returned (.tuple #[]) ∧ Wb w' b 0 B 86 [] [] (l ++ hexB c) ∧ Wf B b w w' := by
  have HH := Lib.hid h
  have hc := c.toNat_lt
  clear h
  go_enter Tryz.func57, Tryz.ntmps57
  go_wp2_with fail
  refine (writeByte_w headB86 (by rfl) HH.out 61 rfl (by omega) hB).mono ?_
  rintro e w2 ⟨rfl, h2, f2⟩
  have H2 := Lib.hid (And.intro h2 f2)
  have hB2 : B ≤ w2.heap.size := by have := f2.size; omega
  clear h2 f2
  go_wp2_with fail
  refine (writeByte_w headB86 (by rfl) H2.out.1 (HEXDs.getD (c.toNat / 16) 0) (by rw [HEX_get _ (by omega)]) (by simp only [List.length_append, List.length_cons, List.length_nil]; omega) hB2).mono ?_
  rintro e w3 ⟨rfl, h3, f3⟩
  have H3 := Lib.hid (And.intro h3 f3)
  have hB3 : B ≤ w3.heap.size := by have := f3.size; omega
  clear h3 f3
  go_wp2_with fail
  refine (writeByte_w headB86 (by rfl) H3.out.1 (HEXDs.getD (c.toNat % 16) 0) (by rw [HEX_get _ (by omega)]) (by simp only [List.length_append, List.length_cons, List.length_nil]; omega) hB3).mono ?_
  rintro e w4 ⟨rfl, h4, f4⟩
  have H4 := Lib.hid (And.intro h4 f4)
  clear h4 f4
  go_wp2
  refine bodyPost_end (v := .tuple #[]) (by simp [results, Tryz.results57]) rfl ⟨rfl, by simpa [hexB] using H4.out.1, (H2.out.2.trans H3.out.2).trans H4.out.2⟩
/-- A letter or a digit. -/
def letterB (c : UInt8) : Bool := (48 ≤ c.toNat && c.toNat ≤ 57) || (97 ≤ c.toNat && c.toNat ≤ 122) || (65 ≤ c.toNat && c.toNat ≤ 90)
def withinB (c : UInt8) : Bool := 128 ≤ c.toNat && c.toNat ≤ 191
theorem letter_bits (c : UInt8) : (97 ≤ bits BinOp.or IntKind.u8 (c.toNat : Int) 32 ∧ bits BinOp.or IntKind.u8 (c.toNat : Int) 32 ≤ 122) ↔ ((97 ≤ c.toNat ∧ c.toNat ≤ 122) ∨ (65 ≤ c.toNat ∧ c.toNat ≤ 90)) :=
  u8_every (fun c => (97 ≤ bits BinOp.or IntKind.u8 (c.toNat : Int) 32 ∧ bits BinOp.or IntKind.u8 (c.toNat : Int) 32 ≤ 122) ↔ ((97 ≤ c.toNat ∧ c.toNat ≤ 122) ∨ (65 ≤ c.toNat ∧ c.toNat ≤ 90))) (by decide +kernel) c
set_option maxHeartbeats 800000 in
set_option maxRecDepth 100000 in
theorem letter_any (c : UInt8) (w : World) : Calls Tryz.prog 55 #[.int .u8 c.toNat] w fun e w' => e = .returned (.bool (letterB c)) ∧ w' = w := by
  have hc := c.toNat_lt
  go_enter Tryz.func55, Tryz.ntmps55
  have hb := letter_bits c
  go_wp2
  all_goals
    go_ret
    refine ⟨ret_bool ?_, rfl⟩
    rw [Bool.eq_iff_iff]
    simp only [letterB, Bool.or_eq_true, Bool.and_eq_true, decide_eq_true_eq, Bool.false_eq_true, true_iff, false_iff]
    omega
set_option maxHeartbeats 800000 in
set_option maxRecDepth 100000 in
theorem within_any (c : UInt8) (w : World) : Calls Tryz.prog 60 #[.int .u8 c.toNat] w fun e w' => e = .returned (.bool (withinB c)) ∧ w' = w := by
  have hc := c.toNat_lt
  go_enter Tryz.func60, Tryz.ntmps60
  go_wp2
  go_ret
  refine ⟨ret_bool ?_, rfl⟩
  rw [Bool.eq_iff_iff]
  simp only [withinB, Bool.and_eq_true, decide_eq_true_eq, beq_iff_eq]
  omega
/-- A byte of a chat's text. -/
def escB (c : UInt8) : Bytes :=
  if c = 38 then [38, 97, 109, 112, 59]
  else if c = 60 then [38, 108, 116, 59]
  else if c = 62 then [38, 103, 116, 59]
  else if c.toNat < 32 ∧ c ≠ 10 then [32]
  else [c]
def escM (s : Bytes) : Bytes := s.flatMap escB
theorem escB_len (c : UInt8) : (escB c).length ≤ 5 := by
  unfold escB
  repeat' split
  all_goals simp
theorem beq_no {c : UInt8} {k : Nat} (hk : k < 256) (h : ¬ c = UInt8.ofNat k) : ((c.toNat : Int) == (k : Int)) = false := by
  rw [beq_eq_false_iff_ne]
  intro e
  refine h (UInt8.toNat_inj.1 ?_)
  have : c.toNat = k := by omega
  rw [this, UInt8.toNat_ofNat']
  omega
set_option maxHeartbeats 4000000 in
set_option maxRecDepth 100000 in
theorem Escape_any (w : World) (s : Bytes) (hs : s.length ≤ 100000) : Calls Tryz.prog 26 #[.string (str s)] w fun e w' => e = .returned (.string (str (escM s))) ∧ Below w.heap.size w w' := by
  have hsz := str_size s
  obtain ⟨S, hS⟩ : ∃ S, str s = S := ⟨_, rfl⟩
  have HGet : Hid (∀ n (hn : n < s.length) (hn2 : n < S.size), S[n]'hn2 = s[n]'hn) := by
    subst hS; exact Lib.hid (fun n hn hn2 => str_get s n hn hn2)
  rw [hS] at hsz ⊢
  clear hS
  have HW := Lib.hid (wb_new w)
  go_enter Tryz.func26, Tryz.ntmps26
  go_upto_region 2 with (fail)
  generalize hW1 : w.alloc _ = w1 at HW ⊢
  have HB1 : Hid (Below w.heap.size w w1) := by subst hW1; exact Lib.hid (below_alloc (Below.refl _ _) _)
  obtain ⟨b, hb⟩ : ∃ b, w.heap.size = b := ⟨_, rfl⟩
  have hsz1 : b ≤ w1.heap.size := by rw [← hb]; exact HB1.out.size
  rw [hb] at HW ⊢
  have HBb := Lib.hid hb
  clear hW1 hb
  go_wp2_with fail
  go_loopw [8] (fun k wr => ∃ n : Nat, k = .int .i64 n ∧ FlRel w1 wr b b escB [] s n) (fun k _ => s.length - (intOf k).toNat)
  case atStart => exact ⟨0, rfl, ⟨Nat.zero_le _, by simpa using HW.out, Wf.refl _ _ _⟩⟩
  case round =>
    obtain ⟨n, rfl, hr⟩ := hrel
    have hcur := hr.len escB_len
    have hBr : b ≤ wr.heap.size := by have := hr.wf.size; omega
    have HR := Lib.hid hr
    simp only [List.length_nil] at hcur
    clear hr
    by_cases hlt : n < s.length
    · obtain ⟨c, hc⟩ : ∃ c, s[n] = c := ⟨_, rfl⟩
      have hn2 : n < S.size := by omega
      have hsc := (HGet.out n hlt hn2).trans hc
      have HSC := Lib.hid hc
      clear hc
      by_cases h38 : c = 38
      · subst h38
        go_wp2_with fail
        refine (writeString_w headB86 (by rfl) HR.out.wb [38, 97, 109, 112, 59] (by simp only [List.length_cons, List.length_nil]; omega) hBr).mono ?_
        rintro e w2 ⟨⟨v2, rfl⟩, h2, f2⟩
        have H2 := Lib.hid (And.intro h2 f2)
        clear h2 f2
        go_wp2
        go_roundw
        case measure => simp [intOf]; omega
        case rel => exact ⟨n + 1, by go_num, HR.out.next hlt HSC.out rfl H2.out.1 H2.out.2⟩
      have hn38 : ((c.toNat : Int) == 38) = false := beq_no (k := 38) (by decide) h38
      by_cases h60 : c = 60
      · subst h60
        go_wp2_with fail
        refine (writeString_w headB86 (by rfl) HR.out.wb [38, 108, 116, 59] (by simp only [List.length_cons, List.length_nil]; omega) hBr).mono ?_
        rintro e w2 ⟨⟨v2, rfl⟩, h2, f2⟩
        have H2 := Lib.hid (And.intro h2 f2)
        clear h2 f2
        go_wp2
        go_roundw
        case measure => simp [intOf]; omega
        case rel => exact ⟨n + 1, by go_num, HR.out.next hlt HSC.out rfl H2.out.1 H2.out.2⟩
      have hn60 : ((c.toNat : Int) == 60) = false := beq_no (k := 60) (by decide) h60
      by_cases h62 : c = 62
      · subst h62
        go_wp2_with fail
        refine (writeString_w headB86 (by rfl) HR.out.wb [38, 103, 116, 59] (by simp only [List.length_cons, List.length_nil]; omega) hBr).mono ?_
        rintro e w2 ⟨⟨v2, rfl⟩, h2, f2⟩
        have H2 := Lib.hid (And.intro h2 f2)
        clear h2 f2
        go_wp2
        go_roundw
        case measure => simp [intOf]; omega
        case rel => exact ⟨n + 1, by go_num, HR.out.next hlt HSC.out rfl H2.out.1 H2.out.2⟩
      have hn62 : ((c.toNat : Int) == 62) = false := beq_no (k := 62) (by decide) h62
      by_cases h32 : c.toNat < 32
      · have h32' : decide ((c.toNat : Int) < 32) = true := by simp; omega
        by_cases h10 : c = 10
        · subst h10
          go_wp2_with fail
          refine (writeByte_w headB86 (by rfl) HR.out.wb 10 rfl (by omega) hBr).mono ?_
          rintro e w2 ⟨rfl, h2, f2⟩
          have H2 := Lib.hid (And.intro h2 f2)
          clear h2 f2
          go_wp2
          go_roundw
          case measure => simp [intOf]; omega
          case rel => exact ⟨n + 1, by go_num, HR.out.next hlt HSC.out rfl H2.out.1 H2.out.2⟩
        have hn10 : ((c.toNat : Int) != 10) = true := by have h2 : ((c.toNat : Int) == 10) = false := beq_no (k := 10) (by decide) h10; simp only [bne, h2, Bool.not_false]
        have HQB := Lib.hid (show escB c = [32] by unfold escB; rw [if_neg h38, if_neg h60, if_neg h62, if_pos ⟨h32, h10⟩])
        go_wp2_with fail
        refine (writeByte_w headB86 (by rfl) HR.out.wb 32 rfl (by omega) hBr).mono ?_
        rintro e w2 ⟨rfl, h2, f2⟩
        have H2 := Lib.hid (And.intro h2 f2)
        clear h2 f2
        go_wp2
        go_roundw
        case measure => simp [intOf]; omega
        case rel => exact ⟨n + 1, by go_num, HR.out.next hlt HSC.out HQB.out H2.out.1 H2.out.2⟩
      · have h32' : decide ((c.toNat : Int) < 32) = false := by simp; omega
        have HQB := Lib.hid (show escB c = [c] by unfold escB; rw [if_neg h38, if_neg h60, if_neg h62, if_neg (fun h => h32 h.1)])
        go_wp2_with fail
        refine (writeByte_w headB86 (by rfl) HR.out.wb c rfl (by omega) hBr).mono ?_
        rintro e w2 ⟨rfl, h2, f2⟩
        have H2 := Lib.hid (And.intro h2 f2)
        clear h2 f2
        go_wp2
        go_roundw
        case measure => simp [intOf]; omega
        case rel => exact ⟨n + 1, by go_num, HR.out.next hlt HSC.out HQB.out H2.out.1 H2.out.2⟩
    · have hn : n = s.length := by have := HR.out.le; omega
      have HNN := Lib.hid hn
      clear hn
      have hwb := HR.out.wb
      rw [HNN.out, List.take_length, List.nil_append] at hwb
      have HSt := Lib.hid (string_all hwb hBr)
      clear hwb
      go_wp2_with fail
      refine HSt.out.mono ?_
      rintro e w2 ⟨rfl, h2⟩
      have H2 := Lib.hid h2
      clear h2
      go_wp2
      go_ret
      exact ⟨rfl, HB1.out.trans (by rw [HBb.out]; exact HR.out.wf.below.trans H2.out)⟩
end Go.Proofs.YtllhpkpckjacfaaGreatDoor

/- payload: cuts and headers. -/
namespace Go.Proofs.YtllhpkpckjacfaaGreatDoor
open Go.RowKit Go.Proofs.YtllhpkpckjacfaaGreatDoorW.PrintWords PTemplateFilters
set_option linter.unusedVariables false
set_option linter.unusedSimpArgs false

/-- Where a text is cut. -/
def cutN (s : Bytes) : Nat → Nat
  | 0 => 0
  | n + 1 => if withinB (s.getD (n + 1) 0) then cutN s n else n + 1
def cutM (s : Bytes) (most : Int) : Bytes := if (s.length : Int) ≤ most then s else if most < 3 then [] else s.take (cutN s (most - 3).toNat) ++ [46, 46, 46]
theorem cut_end {s : Bytes} {N k : Nat} (h : cutN s N = k) : (str s).extract 0 k ++ { data := #[46, 46, 46] } = str (s.take (cutN s N) ++ [46, 46, 46]) := by
  rw [py_take, h, show ({ data := #[46, 46, 46] } : ByteArray) = str [46, 46, 46] from rfl, py_cat]
theorem cut_zero {s : Bytes} {N : Nat} (h : cutN s N = 0) : ({ data := #[46, 46, 46] } : ByteArray) = str (s.take (cutN s N) ++ [46, 46, 46]) := by
  rw [h]; rfl
def CtRel (w : World) (s : Bytes) (N : Nat) (v : Value) (wr : World) : Prop := ∃ n : Nat, v = .int .i64 n ∧ n ≤ N ∧ wr = w ∧ cutN s n = cutN s N
set_option maxHeartbeats 800000 in
set_option maxRecDepth 100000 in
theorem Cut_any (w : World) (s : Bytes) (hs : s.length ≤ 100000) (most : Int) : Calls Tryz.prog 28 #[.string (str s), .int .i64 most] w fun e w' => e = .returned (.string (str (cutM s most))) ∧ w' = w := by
  have hsz := str_size s
  by_cases h1 : (s.length : Int) ≤ most
  · have hm : cutM s most = s := by unfold cutM; rw [if_pos h1]
    rw [hm]
    clear hm
    go_enter Tryz.func28, Tryz.ntmps28
    go_wp2
    go_ret
    exact ⟨rfl, rfl⟩
  · by_cases h3 : most < 3
    · have hm : cutM s most = [] := by unfold cutM; rw [if_neg h1, if_pos h3]
      rw [hm]
      clear hm
      go_enter Tryz.func28, Tryz.ntmps28
      go_wp2
      go_ret
      exact ⟨rfl, rfl⟩
    · obtain ⟨N, hN⟩ : ∃ N : Nat, most = (N : Int) + 3 := ⟨(most - 3).toNat, by omega⟩
      subst hN
      have hm : cutM s ((N : Int) + 3) = s.take (cutN s N) ++ [46, 46, 46] := by
        unfold cutM
        rw [if_neg h1, if_neg h3, show (((N : Int) + 3) - 3).toNat = N by omega]
      rw [hm]
      clear hm
      have hw : IntKind.i64.wrap (((N : Int) + 3) - 3) = (N : Int) := by rw [IntKind.wrap_i64]; omega
      have hNs : N + 3 < s.length := by omega
      go_enter Tryz.func28, Tryz.ntmps28
      go_wp2_with fail
      go_loopw [5] (fun v wr => CtRel w s N v wr) (fun v _ => (intOf v).toNat)
      case atStart => exact ⟨N, rfl, Nat.le_refl _, rfl, rfl⟩
      case round =>
        obtain ⟨n, rfl, hn, rfl, hc⟩ := hrel
        cases n with
        | zero =>
          have HH := Lib.hid (cut_zero hc.symm)
          clear hc
          rw [show ((0 : Nat) : Int) = 0 from rfl]
          go_wp2_with fail
          go_ret
          exact ⟨congrArg (fun x => Ending.returned (.string x)) HH.out, rfl⟩
        | succ n =>
          have hi : n + 1 < s.length := by omega
          have hn0 : (0 : Int) < ((n + 1 : Nat) : Int) := by omega
          have hni : ((n + 1 : Nat) : Int) < (s.length : Int) := by omega
          have hw1 : IntKind.i64.wrap (((n + 1 : Nat) : Int) - 1) = (n : Int) := by rw [IntKind.wrap_i64]; omega
          cases hwi : withinB (s[n + 1]'hi) with
          | true =>
            have HWi := Lib.hid (within_any (s[n + 1]'hi) wr)
            rw [hwi] at HWi
            have hst : cutN s (n + 1) = cutN s n := by rw [cutN, List.getD_eq_getElem?_getD, List.getElem?_eq_getElem hi, Option.getD_some, if_pos hwi]
            have HH := Lib.hid (And.intro hst hc)
            clear hst hc hwi
            go_wp2_with (first | (go_at_call 60; (refine HWi.out.mono ?_); rintro e w2 ⟨rfl, rfl⟩))
            go_roundw
            case rel => exact ⟨n, rfl, by omega, rfl, HH.out.1.symm.trans HH.out.2⟩
            case measure => simp [intOf]
          | false =>
            have HWi := Lib.hid (within_any (s[n + 1]'hi) wr)
            rw [hwi] at HWi
            have hst : cutN s (n + 1) = n + 1 := by rw [cutN, List.getD_eq_getElem?_getD, List.getElem?_eq_getElem hi, Option.getD_some, if_neg (by rw [hwi]; simp)]
            have HH := Lib.hid (cut_end (k := n + 1) (hst.symm.trans hc).symm)
            clear hst hc hwi
            go_wp2_with (first | (go_at_call 60; (refine HWi.out.mono ?_); rintro e w2 ⟨rfl, rfl⟩))
            go_ret
            exact ⟨congrArg (fun x => Ending.returned (.string x)) HH.out, rfl⟩
/-- May a text stand in a header as it is? -/
def okB (c : UInt8) : Bool := 32 ≤ c.toNat && c.toNat ≤ 126
def printB (s : Bytes) : Bool := decide (Lib.trimS s [32] = s) && !Lib.contains s [61, 63] && s.all okB
def PrRel (w : World) (s : Bytes) (v : Value) (wr : World) : Prop := ∃ n : Nat, v = .int .i64 n ∧ n ≤ s.length ∧ wr = w ∧ (s.take n).all okB = true
theorem ok_step {s : Bytes} {n : Nat} (h : (s.take n).all okB = true) (hn : n < s.length) (h1 : ¬ (s[n].toNat : Int) < 32) (h2 : ¬ 126 < (s[n].toNat : Int)) : (s.take (n + 1)).all okB = true := by
  rw [List.take_succ_eq_append_getElem hn, List.all_append, h]
  simp [okB]
  omega
theorem ok_no {s : Bytes} {n : Nat} (hn : n < s.length) (h : (s[n].toNat : Int) < 32 ∨ 126 < (s[n].toNat : Int)) : s.all okB = false := by
  rw [List.all_eq_false]
  refine ⟨s[n], List.getElem_mem hn, ?_⟩
  simp [okB]
  omega
set_option maxHeartbeats 1600000 in
set_option maxRecDepth 100000 in
theorem printable_any {w : World} (hT : Tabs w) (s : Bytes) (hs : s.length ≤ 100000) : Calls Tryz.prog 53 #[.string (str s)] w fun e w' => e = .returned (.bool (printB s)) ∧ Below w.heap.size w w' := by
  have hsz := str_size s
  have HTr := Lib.hid (Any.strings_Trim_laid Tryz.laysTrim (by kernel_rfl) (str s) ⟨#[32]⟩ w (by omega) (by decide) (ascii_of_all (by decide)))
  rw [show (⟨(Lib.trimS (str s).data.toList (⟨#[32]⟩ : ByteArray).data.toList).toArray⟩ : ByteArray) = str (Lib.trimS s [32]) from by rw [str_toList]; rfl] at HTr
  obtain ⟨t, ht⟩ : ∃ t, Lib.trimS s [32] = t := ⟨_, rfl⟩
  obtain ⟨m, hm⟩ := hT.max
  have HCo : Hid (∀ w1, Below w.heap.size w w1 → Calls Tryz.prog 84 #[.string (str s), .string ⟨#[61, 63]⟩] w1 fun e w' => e = .returned (.bool (Lib.contains s [61, 63])) ∧ w' = w1) := Lib.hid (fun w1 hb => by
    have := Any.strings_Contains Tryz.laysContains (str s) ⟨#[61, 63]⟩ m w1 (by omega) (pw_cell_below hb hm)
    rw [str_toList] at this
    exact this)
  obtain ⟨co, hco⟩ : ∃ c, Lib.contains s [61, 63] = c := ⟨_, rfl⟩
  have HP := Lib.hid (And.intro ht hco)
  rw [ht] at HTr
  rw [hco] at HCo
  clear hco hm
  by_cases hts : t = s
  · subst hts
    cases co
    · go_enter Tryz.func53, Tryz.ntmps53
      go_wp2_with (first | (go_at_call 73; (refine HTr.out.mono ?_); rintro e w2 ⟨rfl, hb2⟩) | (go_at_call 84; (refine (HCo.out w2 hb2).mono ?_); rintro e w3 ⟨rfl, rfl⟩))
      go_loopw [14] (fun v wr => PrRel w3 t v wr) (fun v _ => t.length - (intOf v).toNat)
      case atStart => exact ⟨0, rfl, Nat.zero_le _, rfl, rfl⟩
      case round =>
        obtain ⟨n, rfl, hn, rfl, hall⟩ := hrel
        by_cases hlt : n < t.length
        · have hi : (n : Int) < (t.length : Int) := by omega
          have hi0 : (0 : Int) ≤ (n : Int) := by omega
          go_wp2_with fail
          · rename_i h1 h2
            have HX := Lib.hid (ok_no hlt (by rcases h2 with h2 | h2; exact Or.inl h2; exact Or.inr h2))
            go_ret
            refine ⟨ret_bool ?_, hb2⟩
            unfold printB
            rw [HX.out]
            simp only [Bool.and_false]
            first | done | (simp; done) | (simp; omega)
          · rename_i h1 h2
            refine ⟨⟨n + 1, rfl, hlt, rfl, ok_step hall hlt (fun h => Int.not_lt.2 h1 h) (fun h => Int.not_lt.2 h2.2 h)⟩, ?_⟩
            simp [intOf]; omega
          · rename_i h1
            have HX := Lib.hid (ok_no hlt (Or.inl h1))
            go_ret
            refine ⟨ret_bool ?_, hb2⟩
            unfold printB
            rw [HX.out]
            simp only [Bool.and_false]
        · have hi : ¬ (n : Int) < (t.length : Int) := by omega
          have hx : t.all okB = true := by rw [List.take_of_length_le (by omega)] at hall; exact hall
          have HX := Lib.hid hx
          clear hx hall
          go_wp2_with fail
          go_ret
          refine ⟨ret_bool ?_, hb2⟩
          unfold printB
          rw [HP.out.1, HP.out.2, HX.out]
          simp
    · go_enter Tryz.func53, Tryz.ntmps53
      go_wp2_with (first | (go_at_call 73; (refine HTr.out.mono ?_); rintro e w2 ⟨rfl, hb2⟩) | (go_at_call 84; (refine (HCo.out w2 hb2).mono ?_); rintro e w3 ⟨rfl, rfl⟩))
      go_ret
      refine ⟨ret_bool ?_, hb2⟩
      unfold printB
      rw [HP.out.2]
      simp
  · have hne := str_ne hts
    go_enter Tryz.func53, Tryz.ntmps53
    go_wp2_with (first | (go_at_call 73; (refine HTr.out.mono ?_); rintro e w2 ⟨rfl, hb2⟩) | (go_at_call 84; (refine (HCo.out w2 hb2).mono ?_); rintro e w3 ⟨rfl, rfl⟩))
    all_goals
      go_ret
      refine ⟨ret_bool ?_, hb2⟩
      unfold printB
      rw [HP.out.1]
      simp [hts]
/-- A byte of a header's word. -/
def headB' (c : UInt8) : Bytes := if letterB c = true then [c] else if c = 32 then [95] else hexB c
def wBegin : Bytes := [61, 63, 117, 116, 102, 45, 56, 63, 113, 63]
def headM (s : Bytes) : Bytes := if printB s = true then s else wBegin ++ s.flatMap headB' ++ [63, 61]
theorem headB_len (c : UInt8) : (headB' c).length ≤ 3 := by
  unfold headB'
  repeat' split
  all_goals simp [hexB]
set_option maxHeartbeats 4000000 in
set_option maxRecDepth 100000 in
theorem Header_any {w : World} (hT : Tabs w) (s : Bytes) (hs : s.length ≤ 100000) : Calls Tryz.prog 24 #[.string (str s)] w fun e w' => e = .returned (.string (str (headM s))) ∧ Below w.heap.size w w' := by
  have hsz := str_size s
  have HPr := Lib.hid (printable_any hT s hs)
  cases hp : printB s with
  | true =>
    have hm : headM s = s := by unfold headM; rw [if_pos hp]
    rw [hm]
    rw [hp] at HPr
    clear hm hp
    go_enter Tryz.func24, Tryz.ntmps24
    go_wp2_with (first | (go_at_call 53; (refine HPr.out.mono ?_); rintro e w2 ⟨rfl, hb2⟩))
    go_ret
    exact ⟨rfl, hb2⟩
  | false =>
    have hm : headM s = wBegin ++ s.flatMap headB' ++ [63, 61] := by unfold headM; rw [if_neg (by rw [hp]; simp)]
    rw [hm]
    rw [hp] at HPr
    clear hm hp
    obtain ⟨S, hS⟩ : ∃ S, str s = S := ⟨_, rfl⟩
    have HGet : Hid (∀ n (hn : n < s.length) (hn2 : n < S.size), S[n]'hn2 = s[n]'hn) := by
      subst hS; exact Lib.hid (fun n hn hn2 => str_get s n hn hn2)
    rw [hS] at hsz HPr ⊢
    clear hS
    go_enter Tryz.func24, Tryz.ntmps24
    go_upto_region 4 with (first | (go_at_call 53; (refine HPr.out.mono ?_); rintro e w2 ⟨rfl, hb2⟩))
    have HW0 := Lib.hid (wb_new w2)
    have HB2 := Lib.hid hb2
    clear hb2
    generalize hW1 : w2.alloc _ = w1 at HW0 ⊢
    have HB1 : Hid (Below w2.heap.size w2 w1) := by subst hW1; exact Lib.hid (below_alloc (Below.refl _ _) _)
    obtain ⟨b, hb⟩ : ∃ b, w2.heap.size = b := ⟨_, rfl⟩
    have hsz1 : b ≤ w1.heap.size := by rw [← hb]; exact HB1.out.size
    rw [hb] at HW0 ⊢
    have HBb := Lib.hid hb
    clear hW1 hb
    go_wp2_with fail
    refine (writeString_w headB86 (by rfl) HW0.out wBegin (by decide) hsz1).mono ?_
    rintro e w3 ⟨⟨v3, rfl⟩, h3, f3⟩
    have HW : Hid (Wb w3 b 0 b 86 [] [] wBegin) := Lib.hid (by simpa using h3)
    have HF3 := Lib.hid f3
    have hsz3 : b ≤ w3.heap.size := by have := f3.size; omega
    clear h3 f3
    go_wp2_with fail
    go_loopw [12] (fun k wr => ∃ n : Nat, k = .int .i64 n ∧ FlRel w3 wr b b headB' wBegin s n) (fun k _ => s.length - (intOf k).toNat)
    case atStart => exact ⟨0, rfl, ⟨Nat.zero_le _, by simpa using HW.out, Wf.refl _ _ _⟩⟩
    case round =>
      obtain ⟨n, rfl, hr⟩ := hrel
      have hcur := hr.len headB_len
      have hBr : b ≤ wr.heap.size := by have := hr.wf.size; omega
      have HR := Lib.hid hr
      simp only [wBegin, List.length_cons, List.length_nil] at hcur
      rw [show ([61, 63, 117, 116, 102, 45, 56, 63, 113, 63] : Bytes) = wBegin from rfl] at hcur
      clear hr
      by_cases hlt : n < s.length
      · obtain ⟨c, hc⟩ : ∃ c, s[n] = c := ⟨_, rfl⟩
        have hn2 : n < S.size := by omega
        have hsc := (HGet.out n hlt hn2).trans hc
        have HSC := Lib.hid hc
        clear hc
        have HLe := Lib.hid (letter_any c wr)
        cases hl : letterB c with
        | true =>
          have HQB := Lib.hid (show headB' c = [c] by unfold headB'; rw [if_pos hl])
          rw [hl] at HLe
          clear hl
          go_wp2_with (go_at_call 55; (refine HLe.out.mono ?_); rintro e w5 ⟨rfl, rfl⟩)
          refine (writeByte_w headB86 (by rfl) HR.out.wb c rfl (by omega) hBr).mono ?_
          rintro e w2 ⟨rfl, h2, f2⟩
          have H2 := Lib.hid (And.intro h2 f2)
          clear h2 f2
          go_wp2
          go_roundw
          case measure => simp [intOf]; omega
          case rel => exact ⟨n + 1, by go_num, HR.out.next hlt HSC.out HQB.out H2.out.1 H2.out.2⟩
        | false =>
          rw [hl] at HLe
          by_cases h32 : c = 32
          · subst h32
            clear hl
            go_wp2_with (go_at_call 55; (refine HLe.out.mono ?_); rintro e w5 ⟨rfl, rfl⟩)
            refine (writeByte_w headB86 (by rfl) HR.out.wb 95 rfl (by omega) hBr).mono ?_
            rintro e w2 ⟨rfl, h2, f2⟩
            have H2 := Lib.hid (And.intro h2 f2)
            clear h2 f2
            go_wp2
            go_roundw
            case measure => simp [intOf]; omega
            case rel => exact ⟨n + 1, by go_num, HR.out.next (x := [95]) hlt HSC.out rfl H2.out.1 H2.out.2⟩
          · have HQB := Lib.hid (show headB' c = hexB c by unfold headB'; rw [if_neg (by rw [hl]; simp), if_neg h32])
            have h32' : ((c.toNat : Int) == 32) = false := beq_no (k := 32) (by decide) h32
            clear hl
            go_wp2_with (go_at_call 55; (refine HLe.out.mono ?_); rintro e w5 ⟨rfl, rfl⟩)
            refine (hex_w HR.out.wb c (by omega) hBr).mono ?_
            rintro e w2 ⟨rfl, h2, f2⟩
            have H2 := Lib.hid (And.intro h2 f2)
            clear h2 f2
            go_wp2
            go_roundw
            case measure => simp [intOf]; omega
            case rel => exact ⟨n + 1, by go_num, HR.out.next hlt HSC.out HQB.out H2.out.1 H2.out.2⟩
      · have hn : n = s.length := by have := HR.out.le; omega
        have HNN := Lib.hid hn
        clear hn
        have hwb := HR.out.wb
        rw [HNN.out, List.take_length] at hwb
        have HWb := Lib.hid hwb
        have hln : (wBegin ++ s.flatMap headB').length + 2 ≤ 140737488355328 := by
          rw [HNN.out, List.take_length] at hcur
          omega
        clear hwb hcur
        go_wp2_with fail
        refine (writeString_w headB86 (by rfl) HWb.out [63, 61] (by simp only [List.length_cons, List.length_nil]; omega) hBr).mono ?_
        rintro e w2 ⟨⟨v2, rfl⟩, h2, f2⟩
        have HSt := Lib.hid (string_all h2 (by have := f2.size; omega))
        have HF2 := Lib.hid f2
        clear h2 f2
        go_wp2_with fail
        refine HSt.out.mono ?_
        rintro e w4 ⟨rfl, h4⟩
        have H4 := Lib.hid h4
        clear h4
        go_wp2
        go_ret
        have hend : Below b w1 w4 := ((HF3.out.below.trans HR.out.wf.below).trans HF2.out.below).trans H4.out
        exact ⟨rfl, HB2.out.trans ((HB1.out.trans (by rw [HBb.out]; exact hend)).mono HB2.out.size)⟩
end Go.Proofs.YtllhpkpckjacfaaGreatDoor

/- payload: a mail's text, quoted. -/
namespace Go.Proofs.YtllhpkpckjacfaaGreatDoor
open Go.RowKit Go.Proofs.YtllhpkpckjacfaaGreatDoorW.PrintWords PTemplateFilters
set_option linter.unusedVariables false
set_option linter.unusedSimpArgs false

def plainB (c : UInt8) : Bool := 32 < c.toNat && c.toNat ≤ 126 && c.toNat != 61
def blankB (c : UInt8) : Bool := c.toNat == 32 || c.toNat == 9
/-- A byte, and whether it is its line's last one. -/
def wayB (c : UInt8) (last : Bool) : Bytes := if plainB c || (blankB c && !last) then [c] else hexB c
def lastB : Bytes → Bool
  | [] => true
  | c :: _ => c == 10
/-- A text, quoted, behind so many bytes of a line. -/
def quotM : Bytes → Nat → Bytes
  | [], _ => []
  | c :: r, line =>
    if c = 10 then [13, 10] ++ quotM r 0
    else if 75 < line + (wayB c (lastB r)).length then [61, 13, 10] ++ wayB c (lastB r) ++ quotM r (wayB c (lastB r)).length
    else wayB c (lastB r) ++ quotM r (line + (wayB c (lastB r)).length)
theorem wayB_len (c : UInt8) (l : Bool) : (wayB c l).length = 1 ∨ (wayB c l).length = 3 := by
  unfold wayB
  split
  · exact Or.inl rfl
  · exact Or.inr rfl
theorem quotM_len (s : Bytes) : ∀ line, (quotM s line).length ≤ 6 * s.length := by
  induction s with
  | nil => intro line; simp [quotM]
  | cons c r ih =>
    intro line
    have hw := wayB_len c (lastB r)
    rw [quotM]
    split
    · have := ih 0; simp; omega
    · split
      · have := ih (wayB c (lastB r)).length; simp; omega
      · have := ih (line + (wayB c (lastB r)).length); simp; omega
set_option maxHeartbeats 800000 in
set_option maxRecDepth 100000 in
theorem plain_any (c : UInt8) (w : World) : Calls Tryz.prog 67 #[.int .u8 c.toNat] w fun e w' => e = .returned (.bool (plainB c)) ∧ w' = w := by
  have hc := c.toNat_lt
  go_enter Tryz.func67, Tryz.ntmps67
  go_wp2
  all_goals
    go_ret
    refine ⟨ret_bool ?_, rfl⟩
    rw [Bool.eq_iff_iff]
    simp only [plainB, Bool.and_eq_true, decide_eq_true_eq, Bool.false_eq_true, true_iff, false_iff, bne_iff_ne, ne_eq]
    omega
set_option maxHeartbeats 800000 in
set_option maxRecDepth 100000 in
theorem blank_any (c : UInt8) (w : World) : Calls Tryz.prog 68 #[.int .u8 c.toNat] w fun e w' => e = .returned (.bool (blankB c)) ∧ w' = w := by
  have hc := c.toNat_lt
  go_enter Tryz.func68, Tryz.ntmps68
  go_wp2
  all_goals
    go_ret
    refine ⟨ret_bool ?_, rfl⟩
    rw [Bool.eq_iff_iff]
    simp only [blankB, Bool.or_eq_true, decide_eq_true_eq, Bool.false_eq_true, true_iff, false_iff, beq_iff_eq, ne_eq]
    omega
/-- A Builder and a line's length beside it. -/
structure QS (w : World) (b g B : Nat) (acc : Bytes) (line : Nat) : Prop where
  wb : Wb w b 0 B 86 [] [] acc
  gb : w.heap[g]? = some (.cells #[.int .i64 line] 3)
  hB : B ≤ w.heap.size
  hb : B ≤ b
  hg : B ≤ g
  ne : g ≠ b
theorem QS.wrote {w w' : World} {b g B : Nat} {acc acc' : Bytes} {line : Nat} (h : QS w b g B acc line) (hw : Wb w' b 0 B 86 [] [] acc') (hf : Wf B b w w') : QS w' b g B acc' line :=
  ⟨hw, hf.others g _ h.gb (by simpa using h.ne) (by intro c fz e; cases e), Nat.le_trans h.hB hf.size, h.hb, h.hg, h.ne⟩
theorem QS.set {w : World} {b g B : Nat} {acc : Bytes} {line : Nat} (h : QS w b g B acc line) (k : Nat) : QS (w.setCell ⟨g, 0, none⟩ (.int .i64 k)) b g B acc k := by
  obtain ⟨p, v, hp, U⟩ := h.wb
  have hne : v.ownBlock ≠ some g := ownF_ne U.own h.gb (by decide)
  refine ⟨⟨p, v, hp, U.base, U.at', ?_, ownF_kept U.own (fun k hk => Below.heap_setCell _ _ _ _ (by intro e; exact hne (hk.trans (by rw [e])))), U.ne⟩, ?_, ?_, h.hb, h.hg, h.ne⟩
  · rw [Below.heap_setCell _ _ _ _ (by intro e; exact h.ne e.symm)]
    exact U.row
  · exact blk_set h.gb 0 _
  · simpa using h.hB
theorem QS.setBelow {w0 w : World} {b g B : Nat} {acc : Bytes} {line : Nat} (h : QS w b g B acc line) (hb : Below B w0 w) (x : Value) : Below B w0 (w.setCell ⟨g, 0, none⟩ x) := hb.setCell (p := ⟨g, 0, none⟩) h.hg _
theorem QS.cell {w : World} {b g B : Nat} {acc : Bytes} {line : Nat} (h : QS w b g B acc line) : w.cell? ⟨g, 0, none⟩ = some (.int .i64 line) ∧ w.frozen? ⟨g, 0, none⟩ = false := cells_of h.gb 0
set_option maxHeartbeats 2000000 in
set_option maxRecDepth 100000 in
theorem room_no {w : World} {b g B : Nat} {acc : Bytes} {line : Nat} (h : QS w b g B acc line) (k : Nat) (hk : k ≤ 3) (hl : line + k ≤ 75) :
    Calls Tryz.prog 66 #[.int .i64 k, .pointer (some ⟨g, 0, none⟩), .pointer (some ⟨b, 0, none⟩)] w fun e w' => e = .returned (.tuple #[]) ∧ QS w' b g B acc (line + k) ∧ Below B w w' := by
  obtain ⟨c1, c2⟩ := h.cell
  have H := Lib.hid h
  have hw : IntKind.i64.wrap ((line : Int) + (k : Int)) = (line : Int) + (k : Int) := by rw [IntKind.wrap_i64]; omega
  have hno : ¬ (75 : Int) < (line : Int) + (k : Int) := by omega
  clear h
  go_enter Tryz.func66, Tryz.ntmps66
  go_wp2
  refine bodyPost_end (v := .tuple #[]) (by simp [results, Tryz.results66]) rfl ⟨rfl, ?_, ?_⟩
  · exact H.out.set (line + k)
  · exact H.out.setBelow (Below.refl _ _) _
set_option maxHeartbeats 2000000 in
set_option maxRecDepth 100000 in
theorem room_yes {w : World} {b g B : Nat} {acc : Bytes} {line : Nat} (h : QS w b g B acc line) (k : Nat) (hk : k ≤ 3) (hl : 75 < line + k) (hll : line ≤ 75) (ha : acc.length ≤ 1000000) :
    Calls Tryz.prog 66 #[.int .i64 k, .pointer (some ⟨g, 0, none⟩), .pointer (some ⟨b, 0, none⟩)] w fun e w' => e = .returned (.tuple #[]) ∧ QS w' b g B (acc ++ [61, 13, 10]) k ∧ Below B w w' := by
  obtain ⟨c1, c2⟩ := h.cell
  have H := Lib.hid h
  have hw : IntKind.i64.wrap ((line : Int) + (k : Int)) = (line : Int) + (k : Int) := by rw [IntKind.wrap_i64]; omega
  have hyes : (75 : Int) < (line : Int) + (k : Int) := by omega
  have hwk : IntKind.i64.wrap ((0 : Int) + (k : Int)) = (k : Int) := by rw [IntKind.wrap_i64]; omega
  clear h
  go_enter Tryz.func66, Tryz.ntmps66
  go_wp2_with fail
  refine (writeString_w headB86 (by rfl) H.out.wb [61, 13, 10] (by simp only [List.length_cons, List.length_nil]; omega) H.out.hB).mono ?_
  rintro e w2 ⟨⟨v2, rfl⟩, h2, f2⟩
  have H2 := Lib.hid (H.out.wrote h2 f2)
  have HF := Lib.hid f2
  obtain ⟨d1, d2⟩ := H2.out.cell
  clear h2 f2
  go_wp2
  refine bodyPost_end (v := .tuple #[]) (by simp [results, Tryz.results66]) rfl ⟨rfl, ?_, ?_⟩
  · exact (H2.out.set 0).set k
  · exact (H2.out.set 0).setBelow (H2.out.setBelow HF.out.below _) _
/-- What the loop keeps. -/
def QtR (w1 : World) (s : Bytes) (b g B : Nat) (n : Nat) (wr : World) : Prop := n ≤ s.length ∧ ∃ acc line, QS wr b g B acc line ∧ acc ++ quotM (s.drop n) line = quotM s 0 ∧ line ≤ 75 ∧ acc.length ≤ 6 * n ∧ Below B w1 wr
theorem quot_nl {acc s r : Bytes} {n line : Nat} {c : UInt8} (hd : s.drop n = c :: r) (h : acc ++ quotM (s.drop n) line = quotM s 0) (hc : c = 10) : (acc ++ [13, 10]) ++ quotM r 0 = quotM s 0 := by
  rw [hd, quotM, if_pos hc] at h
  simpa using h
theorem quot_full {acc s r : Bytes} {n line : Nat} {c : UInt8} {x : Bytes} (hd : s.drop n = c :: r) (h : acc ++ quotM (s.drop n) line = quotM s 0) (hc : ¬ c = 10) (hx : wayB c (lastB r) = x) (hl : 75 < line + x.length) : ((acc ++ [61, 13, 10]) ++ x) ++ quotM r x.length = quotM s 0 := by
  rw [hd, quotM, if_neg hc, hx, if_pos hl] at h
  simpa using h
theorem quot_on {acc s r : Bytes} {n line : Nat} {c : UInt8} {x : Bytes} (hd : s.drop n = c :: r) (h : acc ++ quotM (s.drop n) line = quotM s 0) (hc : ¬ c = 10) (hx : wayB c (lastB r) = x) (hl : ¬ 75 < line + x.length) : (acc ++ x) ++ quotM r (line + x.length) = quotM s 0 := by
  rw [hd, quotM, if_neg hc, hx, if_neg hl] at h
  simpa using h
theorem last_end {s : Bytes} {n : Nat} (h : n + 1 = s.length) : lastB (s.drop (n + 1)) = true := by rw [h, List.drop_length]; rfl
theorem last_at {s : Bytes} {n : Nat} (h : n + 1 < s.length) : lastB (s.drop (n + 1)) = (s[n + 1] == 10) := by rw [List.drop_eq_getElem_cons h]; rfl
set_option maxHeartbeats 4000000 in
set_option maxRecDepth 100000 in
theorem Quoted_any (w : World) (s : Bytes) (hs : s.length ≤ 100000) : Calls Tryz.prog 33 #[.string (str s)] w fun e w' => e = .returned (.string (str (quotM s 0))) ∧ Below w.heap.size w w' := by
  have hsz := str_size s
  obtain ⟨S, hS⟩ : ∃ S, str s = S := ⟨_, rfl⟩
  have HGet : Hid (∀ n (hn : n < s.length) (hn2 : n < S.size), S[n]'hn2 = s[n]'hn) := by
    subst hS; exact Lib.hid (fun n hn hn2 => str_get s n hn hn2)
  rw [hS] at hsz ⊢
  clear hS
  have HW := Lib.hid (wb_new w)
  go_enter Tryz.func33, Tryz.ntmps33
  go_upto_region 4 with (fail)
  have hq0 : QS ((w.alloc (.cells #[.pointer none, .slice none 0 0] 86)).alloc (.cells #[.int .i64 0] 3)) w.heap.size (w.heap.size + 1) w.heap.size [] 0 := by
    have ha : (w.alloc (.cells #[.pointer none, .slice none 0 0] 86)).heap.size = w.heap.size + 1 := by simp
    refine ⟨HW.out.below (below_alloc (Below.refl _ _) _), ?_, by simp; omega, Nat.le_refl _, by omega, by omega⟩
    have := heap_alloc_new (w.alloc (.cells #[.pointer none, .slice none 0 0] 86)) (.cells #[.int .i64 0] 3)
    rw [ha] at this
    exact this
  have hb0 : Below w.heap.size w ((w.alloc (.cells #[.pointer none, .slice none 0 0] 86)).alloc (.cells #[.int .i64 0] 3)) := (below_alloc (Below.refl _ _) _).alloc (by simp) _
  generalize hW1 : (w.alloc (.cells #[.pointer none, .slice none 0 0] 86)).alloc _ = w1 at hq0 hb0 ⊢
  have HB0 := Lib.hid hb0
  have HQ0 := Lib.hid hq0
  obtain ⟨b, hb⟩ : ∃ b, w.heap.size = b := ⟨_, rfl⟩
  obtain ⟨g, hg⟩ : ∃ g, w.heap.size + 1 = g := ⟨_, rfl⟩
  rw [hg, hb] at HQ0
  rw [hb] at HB0
  rw [hg, hb]
  have HBb := Lib.hid hb
  clear hW1 hb hg hq0 hb0 HW
  go_wp2_with fail
  go_loopw [12] (fun k wr => ∃ n : Nat, k = .int .i64 n ∧ QtR w1 s b g b n wr) (fun k _ => s.length - (intOf k).toNat)
  case atStart => exact ⟨0, rfl, Nat.zero_le _, [], 0, HQ0.out, by simp, by omega, by simp, Below.refl _ _⟩
  case round =>
    obtain ⟨n, rfl, hn, acc, line, hq, he, hll, hacc, hbr⟩ := hrel
    by_cases hlt : n < s.length
    · obtain ⟨c, hc⟩ : ∃ c, s[n] = c := ⟨_, rfl⟩
      obtain ⟨r, hr⟩ : ∃ r, s.drop (n + 1) = r := ⟨_, rfl⟩
      have hdr : s.drop n = c :: r := by rw [List.drop_eq_getElem_cons hlt, hc, hr]
      have hn2 : n < S.size := by omega
      have hsc := (HGet.out n hlt hn2).trans hc
      have hw1 : IntKind.i64.wrap ((n : Int) + 1) = ((n + 1 : Nat) : Int) := by rw [IntKind.wrap_i64]; omega
      have HE := Lib.hid (And.intro he (And.intro hdr (And.intro hr hll)))
      have HQ := Lib.hid hq
      have HBr := Lib.hid hbr
      have hacc2 : acc.length ≤ 600000 := by omega
      clear hq he hbr hdr hr hc
      go_upto_region 8 with (fail)
      go_cut [8, 12] from 12 to 53 (fun v8 v12 wx => v8 = .bool (lastB r) ∧ v12 = .int .i64 n ∧ wx = wr)
      case first =>
        by_cases hl1 : n + 1 = s.length
        · have hl : lastB r = true := by rw [← HE.out.2.2.1]; exact last_end hl1
          have hl2 : ((n + 1 : Nat) : Int) = (s.length : Int) := by omega
          have HLt := Lib.hid hl
          clear hl
          go_wp2_with fail
          go_meet
          case rel => exact ⟨congrArg Value.bool HLt.out.symm, rfl, rfl⟩
        · have hl1' : n + 1 < s.length := by omega
          have hl2 : ¬ ((n + 1 : Nat) : Int) = (s.length : Int) := by omega
          have hl3 : (((n : Int) + 1) == (s.length : Int)) = false := by rw [beq_eq_false_iff_ne]; omega
          have hn3 : n + 1 < S.size := by omega
          have hl : lastB r = (s[n + 1] == 10) := by rw [← HE.out.2.2.1]; exact last_at hl1'
          have hd := HGet.out (n + 1) hl1' hn3
          obtain ⟨d, hd2⟩ : ∃ d, s[n + 1] = d := ⟨_, rfl⟩
          rw [hd2] at hd hl
          by_cases h10 : d = 10
          · have hlt2 : lastB r = true := by rw [hl, h10]; rfl
            have HLt := Lib.hid hlt2
            subst h10
            clear hl hlt2 hd2
            go_wp2_with fail
            go_meet
            case rel => exact ⟨congrArg Value.bool HLt.out.symm, rfl, rfl⟩
          · have hlt2 : lastB r = false := by rw [hl]; exact beq_eq_false_iff_ne.2 h10
            have HLt := Lib.hid hlt2
            have hd10 : ((d.toNat : Int) == 10) = false := beq_no (k := 10) (by decide) h10
            clear hl hlt2 hd2
            go_wp2_with fail
            go_meet
            case rel => exact ⟨congrArg Value.bool HLt.out.symm, rfl, rfl⟩
      case rest =>
        obtain ⟨rfl, rfl, hwx⟩ := hcut
        rw [hwx]
        clear hwx
        obtain ⟨la, hla⟩ : ∃ l, lastB r = l := ⟨_, rfl⟩
        have HLa := Lib.hid hla
        rw [hla]
        clear hla
        by_cases h10 : c = 10
        · subst h10
          go_wp2_with fail
          refine (writeString_w headB86 (by rfl) HQ.out.wb [13, 10] (by simp only [List.length_cons, List.length_nil]; omega) HQ.out.hB).mono ?_
          rintro e w2 ⟨⟨v2, rfl⟩, h2, f2⟩
          have H2 := Lib.hid (And.intro (HQ.out.wrote h2 f2) f2.below)
          obtain ⟨d1, d2⟩ := H2.out.1.cell
          clear h2 f2
          go_wp2
          go_roundw
          case measure => simp [intOf]; omega
          case rel => exact ⟨n + 1, by go_num, hlt, _, 0, H2.out.1.set 0, (by rw [HE.out.2.2.1]; exact quot_nl HE.out.2.1 HE.out.1 rfl), (by omega), (by simp; omega), HBr.out.trans (H2.out.1.setBelow H2.out.2 _)⟩
        · have hn10 : ((c.toNat : Int) == 10) = false := beq_no (k := 10) (by decide) h10
          obtain ⟨wB, hwB⟩ : ∃ x, (plainB c || (blankB c && !la)) = x := ⟨_, rfl⟩
          have HX : Hid (wayB c (lastB r) = if wB = true then [c] else hexB c) := Lib.hid (by rw [HLa.out, ← hwB]; rfl)
          have HWB := Lib.hid hwB
          clear hwB
          go_upto_region 14 with (fail)
          go_cut [38, 12] from 12 to 53 (fun v38 v12 wx => v38 = .bool wB ∧ v12 = .int .i64 n ∧ wx = wr)
          case first =>
            have HPl := Lib.hid (plain_any c wr)
            have HBl := Lib.hid (blank_any c wr)
            obtain ⟨pl, hpl⟩ : ∃ x, plainB c = x := ⟨_, rfl⟩
            obtain ⟨bl, hbl⟩ : ∃ x, blankB c = x := ⟨_, rfl⟩
            rw [hpl] at HPl HWB
            rw [hbl] at HBl HWB
            clear hpl hbl
            cases pl <;> cases bl <;> cases la
            all_goals
              go_wp2_with (first | (go_at_call 67; (refine HPl.out.mono ?_); rintro e w5 ⟨rfl, rfl⟩) | (go_at_call 68; (refine HBl.out.mono ?_); rintro e w6 ⟨rfl, rfl⟩))
              go_meet
              case rel => exact ⟨congrArg Value.bool (HWB.out.symm.trans rfl).symm, rfl, rfl⟩
          case rest =>
            obtain ⟨rfl, rfl, hwx⟩ := hcut
            rw [hwx]
            clear hwx HWB
            cases wB
            rotate_left
            · have HX : Hid (wayB c (lastB r) = [c]) := Lib.hid (HX.out.trans rfl)
              by_cases hf : 75 < line + 1
              · go_wp2_with fail
                have hll := HE.out.2.2.2
                refine (room_yes HQ.out 1 (by decide) (by omega) hll (by omega)).mono ?_
                rintro e w2 ⟨rfl, h2, b2⟩
                have H2 := Lib.hid (And.intro h2 b2)
                clear h2 b2
                go_wp2_with fail
                refine (writeByte_w headB86 (by rfl) H2.out.1.wb c rfl (by first | omega | (simp only [List.length_append, List.length_cons, List.length_nil]; omega)) H2.out.1.hB).mono ?_
                rintro e w3 ⟨rfl, h3, f3⟩
                have H3 := Lib.hid (And.intro (H2.out.1.wrote h3 f3) f3.below)
                clear h3 f3
                go_wp2
                go_roundw
                case measure => simp [intOf]; omega
                case rel => exact ⟨n + 1, by go_num, hlt, _, _, H3.out.1, (by rw [HE.out.2.2.1]; exact quot_full HE.out.2.1 HE.out.1 h10 (x := [c]) HX.out (by show 75 < line + 1; omega)), (by have := HE.out.2.2.2; omega), (by simp [hexB]; omega), HBr.out.trans (H2.out.2.trans H3.out.2)⟩
              · go_wp2_with fail
                refine (room_no HQ.out 1 (by decide) (by omega)).mono ?_
                rintro e w2 ⟨rfl, h2, b2⟩
                have H2 := Lib.hid (And.intro h2 b2)
                clear h2 b2
                go_wp2_with fail
                refine (writeByte_w headB86 (by rfl) H2.out.1.wb c rfl (by first | omega | (simp only [List.length_append, List.length_cons, List.length_nil]; omega)) H2.out.1.hB).mono ?_
                rintro e w3 ⟨rfl, h3, f3⟩
                have H3 := Lib.hid (And.intro (H2.out.1.wrote h3 f3) f3.below)
                clear h3 f3
                go_wp2
                go_roundw
                case measure => simp [intOf]; omega
                case rel => exact ⟨n + 1, by go_num, hlt, _, _, H3.out.1, (by rw [HE.out.2.2.1]; exact quot_on HE.out.2.1 HE.out.1 h10 (x := [c]) HX.out (by show ¬ 75 < line + 1; omega)), (by have := HE.out.2.2.2; omega), (by simp [hexB]; omega), HBr.out.trans (H2.out.2.trans H3.out.2)⟩
            · have HX : Hid (wayB c (lastB r) = hexB c) := Lib.hid (HX.out.trans rfl)
              by_cases hf : 75 < line + 3
              · go_wp2_with fail
                have hll := HE.out.2.2.2
                refine (room_yes HQ.out 3 (by decide) (by omega) hll (by omega)).mono ?_
                rintro e w2 ⟨rfl, h2, b2⟩
                have H2 := Lib.hid (And.intro h2 b2)
                clear h2 b2
                go_wp2_with fail
                refine (hex_w H2.out.1.wb c (by first | omega | (simp only [List.length_append, List.length_cons, List.length_nil]; omega)) H2.out.1.hB).mono ?_
                rintro e w3 ⟨rfl, h3, f3⟩
                have H3 := Lib.hid (And.intro (H2.out.1.wrote h3 f3) f3.below)
                clear h3 f3
                go_wp2
                go_roundw
                case measure => simp [intOf]; omega
                case rel => exact ⟨n + 1, by go_num, hlt, _, _, H3.out.1, (by rw [HE.out.2.2.1]; exact quot_full HE.out.2.1 HE.out.1 h10 (x := hexB c) HX.out (by show 75 < line + 3; omega)), (by have := HE.out.2.2.2; omega), (by simp [hexB]; omega), HBr.out.trans (H2.out.2.trans H3.out.2)⟩
              · go_wp2_with fail
                refine (room_no HQ.out 3 (by decide) (by omega)).mono ?_
                rintro e w2 ⟨rfl, h2, b2⟩
                have H2 := Lib.hid (And.intro h2 b2)
                clear h2 b2
                go_wp2_with fail
                refine (hex_w H2.out.1.wb c (by first | omega | (simp only [List.length_append, List.length_cons, List.length_nil]; omega)) H2.out.1.hB).mono ?_
                rintro e w3 ⟨rfl, h3, f3⟩
                have H3 := Lib.hid (And.intro (H2.out.1.wrote h3 f3) f3.below)
                clear h3 f3
                go_wp2
                go_roundw
                case measure => simp [intOf]; omega
                case rel => exact ⟨n + 1, by go_num, hlt, _, _, H3.out.1, (by rw [HE.out.2.2.1]; exact quot_on HE.out.2.1 HE.out.1 h10 (x := hexB c) HX.out (by show ¬ 75 < line + 3; omega)), (by have := HE.out.2.2.2; omega), (by simp [hexB]; omega), HBr.out.trans (H2.out.2.trans H3.out.2)⟩
    · have hn : n = s.length := by omega
      have hd : s.drop n = [] := List.drop_eq_nil_of_le (by omega)
      have hacc : acc = quotM s 0 := by rw [hd] at he; simpa [quotM] using he
      subst hacc
      have HSt := Lib.hid (string_all hq.wb hq.hB)
      have HBr := Lib.hid hbr
      clear hq he hd hbr
      go_wp2_with fail
      refine HSt.out.mono ?_
      rintro e w2 ⟨rfl, h2⟩
      have H2 := Lib.hid h2
      clear h2
      go_wp2
      go_ret
      exact ⟨rfl, by rw [HBb.out]; exact (HB0.out.trans HBr.out).trans H2.out⟩
end Go.Proofs.YtllhpkpckjacfaaGreatDoor

/- layer 29's awake. -/
namespace Go.Proofs.YtllhpkpckjacfaaGreatDoor
open Go.RowKit Go.Proofs.YtllhpkpckjacfaaGreatDoorW.PrintWords PTemplateFilters
set_option linter.unusedVariables false
set_option linter.unusedSimpArgs false

def rcM : MsgM := ⟨[114], [], [], [], []⟩
def rcT : Bytes := [123, 123, 114, 101, 99, 101, 105, 118, 101, 114, 125, 125]
def abT : Bytes := [97, 60, 98]
theorem lists_nil (w : World) : ListsC w (.slice none 0 0) [] := ⟨⟨none, 0, rfl, Nat.le_refl _⟩, fun j x hj => by simp at hj⟩
theorem rc_msg (w : World) : MsgC w rcM [.string (str [114]), .string (str []), .slice none 0 0, .slice none 0 0, .slice none 0 0] :=
  ⟨_, _, _, rfl, PairsC.nil w, lists_nil w, lists_nil w⟩
theorem rc_parse : parseM rcT = .ok [.place [wReceiver] []] := by kernel_rfl
theorem ab_parse : parseM abT = .ok [.lit abT] := by kernel_rfl
theorem rc_check : checkM [] = 0 := by
  unfold checkM
  rw [if_neg (by decide), if_pos (show sortedTo [] _ from fun j h => by simp at h)]
theorem rc_chk : chkM rcM = 0 := by
  unfold chkM
  rw [if_neg (by decide), if_neg (by decide), show rcM.group = [] from rfl, rc_check, if_neg (by simp), show rcM.firing = [] from rfl, show rcM.resolved = [] from rfl]
  rfl
theorem rc_rend : rendsM rcM 1 [] [.place [wReceiver] []] = [114] := by kernel_rfl
theorem ab_rend : rendsM rcM 1 [] [.lit abT] = abT := by kernel_rfl
theorem rc_good : ∀ x ∈ [Nd.place [wReceiver] []], goodM rcM 1 [] x := by
  intro x hx
  rw [List.mem_singleton.1 hx]
  exact ⟨by kernel_rfl, rfl, by decide, by decide, by simp, by simp⟩
theorem ab_good : ∀ x ∈ [Nd.lit abT], goodM rcM 1 [] x := by
  intro x hx
  rw [List.mem_singleton.1 hx]
  trivial
theorem ix147_0 (A B : ByteArray) (w : World) : Sem.run Tryz.prog (Instr.index 147 (.agg #[.string A, .string B]) (.int .i64 0)) w = .ok (.string A) w := by
  kernel_rfl
theorem ix147_1 (A B : ByteArray) (w : World) : Sem.run Tryz.prog (Instr.index 147 (.agg #[.string A, .string B]) (.int .i64 1)) w = .ok (.string B) w := by
  kernel_rfl
set_option maxRecDepth 100000 in
set_option maxHeartbeats 800000 in
theorem shape_ok {w : World} (hT : Tabs w) : Calls Tryz.prog 80 #[.agg #[.int .u8 1, .string (str rcT), .string (str abT)]] w fun e w' => e = .returned (.int .i64 0) ∧ Below w.heap.size w w' := by
  have HP1 : Hid (∀ w1, Below w.heap.size w w1 → Calls Tryz.prog 36 #[.string (str rcT)] w1 (PaPost w1 (.ok [.place [wReceiver] []]))) := Lib.hid (fun w1 hb => by
    have := parse_any (hT.below hb) rcT (by decide)
    rwa [rc_parse] at this)
  have HP2 : Hid (∀ w1, Below w.heap.size w w1 → Calls Tryz.prog 36 #[.string (str abT)] w1 (PaPost w1 (.ok [.lit abT]))) := Lib.hid (fun w1 hb => by
    have := parse_any (hT.below hb) abT (by decide)
    rwa [ab_parse] at this)
  obtain ⟨S1, hS1⟩ : ∃ S, str rcT = S := ⟨_, rfl⟩
  obtain ⟨S2, hS2⟩ : ∃ S, str abT = S := ⟨_, rfl⟩
  rw [hS1] at HP1 ⊢
  rw [hS2] at HP2 ⊢
  clear hS1 hS2
  go_enter Tryz.func80, Tryz.ntmps80
  go_upto_region 4 with (fail)
  go_loopw [16] (fun v wr => ∃ i : Nat, v = .int .i64 i ∧ i ≤ 2 ∧ Below w.heap.size w wr) (fun v _ => 2 - (intOf v).toNat)
  case atStart => exact ⟨0, rfl, by omega, below_alloc (Below.refl _ _) _⟩
  case round =>
    obtain ⟨i, rfl, hi, hbr⟩ := hrel
    have HBr := Lib.hid hbr
    clear hbr
    match i, hi with
    | 0, _ =>
      have HQ := Lib.hid (HP1.out wr HBr.out)
      have hx := ix147_0 S1 S2
      rw [show ((0 : Nat) : Int) = 0 from rfl]
      go_wp2_with (first | (go_at_call 36; (refine HQ.out.mono ?_); rintro e w2 ⟨hb2, h, V, d, rfl, -⟩))
      go_roundw
      case rel => exact ⟨1, rfl, by omega, HBr.out.trans (hb2.mono HBr.out.size)⟩
      case measure => simp [intOf]
    | 1, _ =>
      have HQ := Lib.hid (HP2.out wr HBr.out)
      have hx := ix147_1 S1 S2
      rw [show ((1 : Nat) : Int) = 1 from rfl]
      go_wp2_with (first | (go_at_call 36; (refine HQ.out.mono ?_); rintro e w2 ⟨hb2, h, V, d, rfl, -⟩))
      go_roundw
      case rel => exact ⟨2, rfl, by omega, HBr.out.trans (hb2.mono HBr.out.size)⟩
      case measure => simp [intOf]
    | 2, _ =>
      rw [show ((2 : Nat) : Int) = 2 from rfl]
      go_wp2
      go_ret
      exact ⟨rfl, HBr.out⟩
theorem esc_rc : escM [114] = [114] := by kernel_rfl
theorem esc_ab : escM abT = [97, 38, 108, 116, 59, 98] := by kernel_rfl
def chatT : Bytes := [42, 114, 42, 10, 97, 38, 108, 116, 59, 98]
theorem cut_chat : cutM chatT 4000 = chatT := by kernel_rfl
set_option maxRecDepth 100000 in
set_option maxHeartbeats 1600000 in
theorem build_any {w : World} (hT : Tabs w) : Calls Tryz.prog 47 #[.agg #[.int .u8 1, .string (str rcT), .string (str abT)], .agg #[.string (str [114]), .string (str []), .slice none 0 0, .slice none 0 0, .slice none 0 0]] w fun e w' => e = .returned (.tuple #[.string (str chatT), .int .i64 0]) ∧ Below w.heap.size w w' := by
  have HCk : Hid (∀ w1, Below w.heap.size w w1 → Calls Tryz.prog 80 #[.agg #[.int .u8 1, .string (str rcT), .string (str abT)]] w1 fun e w' => e = .returned (.int .i64 0) ∧ Below w1.heap.size w1 w') := Lib.hid (fun w1 hb => shape_ok (hT.below hb))
  have HR1 : Hid (∀ w1, Below w.heap.size w w1 → Calls Tryz.prog 18 #[.string (str rcT), .agg #[.string (str [114]), .string (str []), .slice none 0 0, .slice none 0 0, .slice none 0 0]] w1 fun e w' => e = .returned (.tuple #[.string (str [114]), .int .i64 0]) ∧ Below w1.heap.size w1 w') := Lib.hid (fun w1 hb => by
    have := Render_any (hT.below hb) (rc_msg w1) rcT (by decide) rc_parse rc_chk rc_good (by rw [rc_rend]; decide) (by decide)
    rwa [rc_rend] at this)
  have HR2 : Hid (∀ w1, Below w.heap.size w w1 → Calls Tryz.prog 18 #[.string (str abT), .agg #[.string (str [114]), .string (str []), .slice none 0 0, .slice none 0 0, .slice none 0 0]] w1 fun e w' => e = .returned (.tuple #[.string (str abT), .int .i64 0]) ∧ Below w1.heap.size w1 w') := Lib.hid (fun w1 hb => by
    have := Render_any (hT.below hb) (rc_msg w1) abT (by decide) ab_parse rc_chk ab_good (by rw [ab_rend]; decide) (by decide)
    rwa [ab_rend] at this)
  have HE1 : Hid (∀ w1, Calls Tryz.prog 26 #[.string (str [114])] w1 fun e w' => e = .returned (.string (str [114])) ∧ Below w1.heap.size w1 w') := Lib.hid (fun w1 => by
    have := Escape_any w1 [114] (by decide)
    rwa [esc_rc] at this)
  have HE2 : Hid (∀ w1, Calls Tryz.prog 26 #[.string (str abT)] w1 fun e w' => e = .returned (.string (str [97, 38, 108, 116, 59, 98])) ∧ Below w1.heap.size w1 w') := Lib.hid (fun w1 => by
    have := Escape_any w1 abT (by decide)
    rwa [esc_ab] at this)
  have HCt : Hid (∀ w1, Calls Tryz.prog 28 #[.string (str chatT), .int .i64 4000] w1 fun e w' => e = .returned (.string (str chatT)) ∧ w' = w1) := Lib.hid (fun w1 => by
    have := Cut_any w1 chatT (by decide) 4000
    rwa [cut_chat] at this)
  obtain ⟨S1, hS1⟩ : ∃ S, str rcT = S := ⟨_, rfl⟩
  obtain ⟨S2, hS2⟩ : ∃ S, str abT = S := ⟨_, rfl⟩
  rw [hS1] at HCk HR1 ⊢
  rw [hS2] at HCk HR2 HE2 ⊢
  clear hS1 hS2
  have hb1 : Below w.heap.size w ((w.alloc (.cells #[.int .u8 1, .string S1, .string S2] 71)).alloc (.cells #[.string (str [114]), .string (str []), .slice none 0 0, .slice none 0 0, .slice none 0 0] 33)) := (below_alloc (Below.refl _ _) _).alloc (by simp) _
  have ha : (w.alloc (.cells #[.int .u8 1, .string S1, .string S2] 71)).heap.size = w.heap.size + 1 := by simp
  have hx1 : ((w.alloc (.cells #[.int .u8 1, .string S1, .string S2] 71)).alloc (.cells #[.string (str [114]), .string (str []), .slice none 0 0, .slice none 0 0, .slice none 0 0] 33)).heap[w.heap.size]? = some (.cells #[.int .u8 1, .string S1, .string S2] 71 (0, 0)) := (heap_alloc_old _ _ (by simp)).trans (heap_alloc_new w _)
  have hx2 := heap_alloc_new (w.alloc (.cells #[.int .u8 1, .string S1, .string S2] 71)) (.cells #[.string (str [114]), .string (str []), .slice none 0 0, .slice none 0 0, .slice none 0 0] 33)
  rw [ha] at hx2
  have HB1 := Lib.hid hb1
  have HX1 := Lib.hid hx1
  have HX2 := Lib.hid hx2
  clear hb1 ha hx1 hx2
  go_enter Tryz.func47, Tryz.ntmps47
  go_upto_region 1 with (fail)
  generalize hW1 : (w.alloc _).alloc _ = W1 at HB1 HX1 HX2 ⊢
  obtain ⟨b, hb⟩ : ∃ b, w.heap.size = b := ⟨_, rfl⟩
  have hbb : b < W1.heap.size := by rw [← hb]; exact (Array.getElem?_eq_some_iff.1 HX1.out).1
  rw [hb] at HB1 HX1 HX2 HCk HR1 HR2 ⊢
  have HBb := Lib.hid hb
  clear hW1 hb
  have HCk1 := Lib.hid (HCk.out W1 HB1.out)
  have d0 : W1.cell? ⟨b, 0, none⟩ = some (.int .u8 1) := (blk_cell HX1.out 0).trans rfl
  have d1 : W1.cell? ⟨b, 1, none⟩ = some (.string S1) := (blk_cell HX1.out 1).trans rfl
  have d2 : W1.cell? ⟨b, 2, none⟩ = some (.string S2) := (blk_cell HX1.out 2).trans rfl
  go_upto_region 2 with (first | (go_at_call 80; (refine HCk1.out.mono ?_); rintro e w2 ⟨rfl, hb2⟩))
  have HB2 := Lib.hid (HB1.out.trans (hb2.mono (by omega)))
  have HX21 := Lib.hid (blk_below HX1.out hb2)
  have HX22 := Lib.hid (blk_below HX2.out hb2)
  clear d0 d1 d2 hb2
  have HR1' := Lib.hid (HR1.out w2 HB2.out)
  have d1 : w2.cell? ⟨b, 1, none⟩ = some (.string S1) := (blk_cell HX21.out 1).trans rfl
  have e0 : w2.cell? ⟨b + 1, 0, none⟩ = some (.string (str [114])) := (blk_cell HX22.out 0).trans rfl
  have e1 : w2.cell? ⟨b + 1, 1, none⟩ = some (.string (str [])) := (blk_cell HX22.out 1).trans rfl
  have e2 : w2.cell? ⟨b + 1, 2, none⟩ = some (.slice none 0 0) := (blk_cell HX22.out 2).trans rfl
  have e3 : w2.cell? ⟨b + 1, 3, none⟩ = some (.slice none 0 0) := (blk_cell HX22.out 3).trans rfl
  have e4 : w2.cell? ⟨b + 1, 4, none⟩ = some (.slice none 0 0) := (blk_cell HX22.out 4).trans rfl
  go_upto_region 5 with (first | (go_at_call 18; (refine HR1'.out.mono ?_); rintro e w3 ⟨rfl, hb3⟩))
  have hs2 : b ≤ w2.heap.size := by have := HB2.out.size; rw [HBb.out] at this; exact this
  have HB3 := Lib.hid (HB2.out.trans (hb3.mono hs2))
  have HX31 := Lib.hid (blk_below HX21.out hb3)
  have HX32 := Lib.hid (blk_below HX22.out hb3)
  clear d1 e0 e1 e2 e3 e4 hb3
  have HR2' := Lib.hid (HR2.out w3 HB3.out)
  have d2 : w3.cell? ⟨b, 2, none⟩ = some (.string S2) := (blk_cell HX31.out 2).trans rfl
  have e0 : w3.cell? ⟨b + 1, 0, none⟩ = some (.string (str [114])) := (blk_cell HX32.out 0).trans rfl
  have e1 : w3.cell? ⟨b + 1, 1, none⟩ = some (.string (str [])) := (blk_cell HX32.out 1).trans rfl
  have e2 : w3.cell? ⟨b + 1, 2, none⟩ = some (.slice none 0 0) := (blk_cell HX32.out 2).trans rfl
  have e3 : w3.cell? ⟨b + 1, 3, none⟩ = some (.slice none 0 0) := (blk_cell HX32.out 3).trans rfl
  have e4 : w3.cell? ⟨b + 1, 4, none⟩ = some (.slice none 0 0) := (blk_cell HX32.out 4).trans rfl
  go_upto_region 8 with (first | (go_at_call 18; (refine HR2'.out.mono ?_); rintro e w4 ⟨rfl, hb4⟩))
  have hs3 : b ≤ w3.heap.size := by have := HB3.out.size; rw [HBb.out] at this; exact this
  have HB4 := Lib.hid (HB3.out.trans (hb4.mono hs3))
  have HX41 := Lib.hid (blk_below HX31.out hb4)
  have d0 : w4.cell? ⟨b, 0, none⟩ = some (.int .u8 1) := (blk_cell HX41.out 0).trans rfl
  clear d2 e0 e1 e2 e3 e4 hb4
  have hs4 : b ≤ w4.heap.size := by have := HB4.out.size; rw [HBb.out] at this; exact this
  go_upto_region 14 with fail
  have HE1' := Lib.hid (HE1.out w4)
  obtain ⟨R, hR⟩ : ∃ R, str [114] = R := ⟨_, rfl⟩
  obtain ⟨E, hE⟩ : ∃ E, str [97, 38, 108, 116, 59, 98] = E := ⟨_, rfl⟩
  have z1 : R.size = 1 := by rw [← hR]; rfl
  have z2 : E.size = 6 := by rw [← hE]; rfl
  have hch : str chatT = ({ data := #[42] } ++ R ++ { data := #[42, 10] } ++ E : ByteArray) := by rw [← hR, ← hE]; kernel_rfl
  have HCt' : Hid (∀ w1, Calls Tryz.prog 28 #[.string ({ data := #[42] } ++ R ++ { data := #[42, 10] } ++ E), .int .i64 4000] w1 fun e w' => e = .returned (.string (str chatT)) ∧ w' = w1) := Lib.hid (fun w1 => by have := HCt.out w1; rw [hch] at this ⊢; exact this)
  rw [hE] at HE2
  rw [hR] at HE1' ⊢
  clear hch hR hE HCt HE1 d0
  go_wp2_with fail
  refine HE1'.out.mono ?_
  rintro e w5 ⟨rfl, hb5⟩
  have HB5 := Lib.hid (HB4.out.trans (hb5.mono hs4))
  have hs5 : b ≤ w5.heap.size := by have := HB5.out.size; rw [HBb.out] at this; exact this
  have HE2' := Lib.hid (HE2.out w5)
  clear hb5
  go_wp2_with fail
  refine HE2'.out.mono ?_
  rintro e w6 ⟨rfl, hb6⟩
  have HB6 := Lib.hid (HB5.out.trans (hb6.mono hs5))
  have HCt2 := Lib.hid (HCt'.out w6)
  clear hb6
  go_wp2_with fail
  refine HCt2.out.mono ?_
  rintro e w7 ⟨rfl, rfl⟩
  go_wp2
  go_ret2
  exact ⟨rfl, by rw [HBb.out]; exact HB6.out⟩
set_option maxRecDepth 100000 in
set_option maxHeartbeats 1600000 in
theorem awake29_any {w : World} (hT : Tabs w) : Calls Tryz.prog 20 #[] w fun e w' => e = .returned (.bool true) ∧ Below w.heap.size w w' := by
  have HBu := Lib.hid (build_any hT)
  have HQ : Hid (∀ w1, Calls Tryz.prog 33 #[.string ⟨#[97, 61, 195, 169]⟩] w1 fun e w' => e = .returned (.string ⟨#[97, 61, 51, 68, 61, 67, 51, 61, 65, 57]⟩) ∧ Below w1.heap.size w1 w') := Lib.hid (fun w1 => by
    have := Quoted_any w1 [97, 61, 195, 169] (by decide)
    rwa [show str (quotM [97, 61, 195, 169] 0) = ⟨#[97, 61, 51, 68, 61, 67, 51, 61, 65, 57]⟩ from by kernel_rfl] at this)
  have HH : Hid (∀ w1, Below w.heap.size w w1 → Calls Tryz.prog 24 #[.string ⟨#[195, 169]⟩] w1 fun e w' => e = .returned (.string ⟨#[61, 63, 117, 116, 102, 45, 56, 63, 113, 63, 61, 67, 51, 61, 65, 57, 63, 61]⟩) ∧ Below w1.heap.size w1 w') := Lib.hid (fun w1 hb => by
    have := Header_any (hT.below hb) [195, 169] (by decide)
    rwa [show str (headM [195, 169]) = ⟨#[61, 63, 117, 116, 102, 45, 56, 63, 113, 63, 61, 67, 51, 61, 65, 57, 63, 61]⟩ from by kernel_rfl] at this)
  have HC : Hid (∀ w1, Calls Tryz.prog 28 #[.string ⟨#[97, 98, 99, 100, 101, 102]⟩, .int .i64 5] w1 fun e w' => e = .returned (.string ⟨#[97, 98, 46, 46, 46]⟩) ∧ w' = w1) := Lib.hid (fun w1 => by
    have := Cut_any w1 [97, 98, 99, 100, 101, 102] (by decide) 5
    rwa [show str (cutM [97, 98, 99, 100, 101, 102] 5) = ⟨#[97, 98, 46, 46, 46]⟩ from by kernel_rfl] at this)
  rw [show str chatT = ⟨#[42, 114, 42, 10, 97, 38, 108, 116, 59, 98]⟩ from rfl, show str [] = ⟨#[]⟩ from rfl, show str [114] = ⟨#[114]⟩ from rfl, show str rcT = ⟨#[123, 123, 114, 101, 99, 101, 105, 118, 101, 114, 125, 125]⟩ from rfl, show str abT = ⟨#[97, 60, 98]⟩ from rfl] at HBu
  go_enter Tryz.func20, Tryz.ntmps20
  go_wp2_with fail
  refine HBu.out.mono ?_
  rintro e w2 ⟨rfl, hb2⟩
  have HB2 := Lib.hid hb2
  have HQ' := Lib.hid (HQ.out w2)
  clear hb2
  go_wp2_with fail
  refine HQ'.out.mono ?_
  rintro e w3 ⟨rfl, hb3⟩
  have HB3 := Lib.hid (HB2.out.trans (hb3.mono HB2.out.size))
  have HH' := Lib.hid (HH.out w3 HB3.out)
  clear hb3
  go_wp2_with fail
  refine HH'.out.mono ?_
  rintro e w4 ⟨rfl, hb4⟩
  have HB4 := Lib.hid (HB3.out.trans (hb4.mono HB3.out.size))
  have HC' := Lib.hid (HC.out w4)
  clear hb4
  go_wp2_with fail
  refine HC'.out.mono ?_
  rintro e w5 ⟨rfl, rfl⟩
  go_wp2
  go_ret
  exact ⟨rfl, HB4.out⟩
end Go.Proofs.YtllhpkpckjacfaaGreatDoor
