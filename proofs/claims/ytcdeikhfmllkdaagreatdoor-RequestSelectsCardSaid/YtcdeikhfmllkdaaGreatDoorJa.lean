import Derived.Test.YtcdeikhfmllkdaaGreatDoorProg
import Derived.Test.YtcdeikhfmllkdaaGreatDoorSh
import Derived.WalkKit
import Derived.KernelRfl
import Derived.ProofKit
import Derived.Lib.Hide
import Derived.IntWalk
import Derived.WalkSmall
import Derived.Deep.RegionHeld3
import Derived.Laws.BitsAllLaws
import Derived.Laws.BitsLemmas
/- The walks of json's small readers. -/
namespace Go.Proofs.YtcdeikhfmllkdaaGreatDoor
open Go.RowKit
set_option linter.unusedVariables false

abbrev Bytes := List UInt8
def str (l : Bytes) : ByteArray := ⟨l.toArray⟩
theorem str_toList (l : Bytes) : (str l).data.toList = l := by simp [str]
theorem str_size (l : Bytes) : (str l).size = l.length := by simp [str, ByteArray.size]
theorem str_of (s : ByteArray) : str s.data.toList = s := by simp [str]

/-- What a call may turn that has blocks in hand. -/
structure Turn (S : Nat → Prop) (w w' : World) : Prop where
  os : w'.os = w.os
  tape : w'.tape = w.tape
  output : w'.output = w.output
  size : w.heap.size ≤ w'.heap.size
  block : ∀ k, k < w.heap.size → ¬ S k → w'.heap[k]? = w.heap[k]?
theorem Turn.refl (S : Nat → Prop) (w : World) : Turn S w w := ⟨rfl, rfl, rfl, Nat.le_refl _, fun _ _ _ => rfl⟩
theorem Turn.trans {S : Nat → Prop} {a b c : World} (h : Turn S a b) (k : Turn S b c) : Turn S a c :=
  ⟨k.os.trans h.os, k.tape.trans h.tape, k.output.trans h.output, Nat.le_trans h.size k.size, fun i hi hs => (k.block i (Nat.lt_of_lt_of_le hi h.size) hs).trans (h.block i hi hs)⟩
theorem Turn.mono {S S' : Nat → Prop} {w w' : World} (h : Turn S w w') (hs : ∀ k, k < w.heap.size → S k → S' k) : Turn S' w w' := ⟨h.os, h.tape, h.output, h.size, fun k hk hn => h.block k hk (fun e => hn (hs k hk e))⟩
theorem Turn.of_below {S : Nat → Prop} {w w' : World} (h : Below w.heap.size w w') : Turn S w w' := ⟨h.os, h.tape, h.output, h.size, fun k hk _ => h.block k hk⟩
theorem Turn.to_below {S : Nat → Prop} {w w' : World} (h : Turn S w w') {B : Nat} (hB : B ≤ w.heap.size) (hs : ∀ k, S k → B ≤ k) : Below B w w' :=
  ⟨h.os, h.tape, h.output, h.size, fun k hk => h.block k (by omega) (fun e => by have := hs k e; omega)⟩
theorem turn_set (w : World) (q i : Nat) (v : Value) (S : Nat → Prop) (hS : S q) : Turn S w (w.setCell ⟨q, i, none⟩ v) :=
  ⟨rfl, rfl, rfl, by simp [World.setCell], fun k hk hn => Below.heap_setCell _ _ _ _ (fun e => hn (by subst e; exact hS))⟩

theorem cells_of {w : World} {p : Nat} {cs : Array Value} {t : TypeId} (h : w.heap[p]? = some (.cells cs t)) (i : Nat) : w.cell? ⟨p, i, none⟩ = cs[i]? ∧ w.frozen? ⟨p, i, none⟩ = false := by
  constructor <;> simp [World.cell?, World.frozen?, h]
theorem blk_set {w : World} {g : Nat} {t : TypeId} {cs : Array Value} (h : w.heap[g]? = some (.cells cs t)) (i : Nat) (u : Value) : (w.setCell ⟨g, i, none⟩ u).heap[g]? = some (.cells (cs.setIfInBounds i u) t) := by
  simp [World.setCell, Array.getElem?_modify, h]

/-- A reader in memory. -/
structure Rd (w : World) (q : Nat) (s : Bytes) (V : Value) (n : Int) : Prop where
  row : w.heap[q]? = some (.cells #[.string (str s), V, .int .i64 n] 129)
  fits : s.length ≤ maxLen
theorem Rd.below {w w' : World} {q : Nat} {s : Bytes} {V : Value} {n : Int} (h : Rd w q s V n) (b : Below w.heap.size w w') : Rd w' q s V n := ⟨(b.block q (Array.getElem?_eq_some_iff.1 h.row).1).trans h.row, h.fits⟩
theorem Rd.lt {w : World} {q : Nat} {s : Bytes} {V : Value} {n : Int} (h : Rd w q s V n) : q < w.heap.size := (Array.getElem?_eq_some_iff.1 h.row).1
theorem Rd.c0 {w : World} {q : Nat} {s : Bytes} {V : Value} {n : Int} (h : Rd w q s V n) : w.cell? ⟨q, 0, none⟩ = some (.string (str s)) := (cells_of h.row 0).1
theorem Rd.c1 {w : World} {q : Nat} {s : Bytes} {V : Value} {n : Int} (h : Rd w q s V n) : w.cell? ⟨q, 1, none⟩ = some V := (cells_of h.row 1).1
theorem Rd.c2 {w : World} {q : Nat} {s : Bytes} {V : Value} {n : Int} (h : Rd w q s V n) : w.cell? ⟨q, 2, none⟩ = some (.int .i64 n) := (cells_of h.row 2).1
theorem Rd.f {w : World} {q : Nat} {s : Bytes} {V : Value} {n : Int} (h : Rd w q s V n) (i : Nat) : w.frozen? ⟨q, i, none⟩ = false := (cells_of h.row i).2
theorem Rd.set {w : World} {q : Nat} {s : Bytes} {V : Value} {n : Int} (h : Rd w q s V n) {s' : Bytes} (hs : s'.length ≤ maxLen) : Rd (w.setCell ⟨q, 0, none⟩ (.string (str s'))) q s' V n :=
  ⟨by simpa using blk_set h.row 0 (.string (str s')), hs⟩

def faultOf (e : Int) : Ending := .panicked [{ v := .iface 126 (.agg #[.int .i64 e]), recovered := false }]

theorem need_yes (e : Int) (w : World) : Calls Tryz.prog 78 #[.bool true, .int .i64 e] w fun e' w' => e' = .returned (.tuple #[]) ∧ w = w' := by
  go_enter Tryz.func78, Tryz.ntmps78
  go_wp2
  exact bodyPost_end (v := .tuple #[]) (by simp [results, Tryz.results78]) rfl ⟨rfl, rfl⟩
theorem need_no (e : Int) (w : World) : Calls Tryz.prog 78 #[.bool false, .int .i64 e] w fun e' w' => e' = .panicked [{ v := .iface 126 (.agg #[.int .i64 e]), recovered := false }] ∧ w = w' := by
  go_enter Tryz.func78, Tryz.ntmps78
  go_wp2
  exact ⟨rfl, rfl, rfl⟩

def isBlank (c : UInt8) : Bool := ([32, 9, 10, 13] : Bytes).contains c
def skip (s : Bytes) : Bytes := s.dropWhile isBlank

theorem skip_len (s : Bytes) : (skip s).length ≤ s.length := (List.dropWhile_sublist isBlank).length_le
theorem skip_fits {s : Bytes} (h : s.length ≤ maxLen) : (skip s).length ≤ maxLen := Nat.le_trans (skip_len s) h

theorem blanks_any {w : World} {q : Nat} {s : Bytes} {V : Value} {n : Int} (R : Rd w q s V n) :
    Calls Tryz.prog 77 #[.pointer (some ⟨q, 0, none⟩)] w fun e w' => e = .returned (.tuple #[]) ∧ Rd w' q (skip s) V n ∧ Turn (fun k => k = q) w w' := by
  have c0 := R.c0
  have f0 := R.f 0
  have HR := Lib.hid R
  clear R
  go_enter Tryz.func77, Tryz.ntmps77
  go_wp2_with fail
  refine (Any.strings_TrimLeft_laid Tryz.laysTrimLeft (by kernel_rfl) (str s) ⟨#[32, 9, 10, 13]⟩ _ (by decide) (ascii_of_all (by decide))).mono ?_
  rintro e w1 ⟨rfl, hb⟩
  have R1 := HR.out.below hb
  have c0 := R1.c0
  have f0 := R1.f 0
  have HR1 := Lib.hid R1
  have HB := Lib.hid hb
  clear R1 hb
  have hsk : Lib.trimLeftS (str s).data.toList [32, 9, 10, 13] = skip s := by rw [str_toList]; rfl
  have HS := Lib.hid hsk
  clear hsk
  go_wp2
  refine bodyPost_end (v := .tuple #[]) (by simp [results, Tryz.results77]) rfl ?_
  rw [HS.out]
  exact ⟨rfl, HR1.out.set (skip_fits HR1.out.fits), (Turn.of_below HB.out).trans (turn_set _ _ _ _ _ rfl)⟩

theorem cons_facts (c : UInt8) (t : Bytes) : (str (c :: t)).toList.isEmpty = false ∧ (str (c :: t)).size = t.length + 1 ∧ (∀ h, (str (c :: t))[0]'h = c) ∧ (str (c :: t)).extract 1 (str (c :: t)).size = str t := by
  refine ⟨?_, by simp [str_size], fun h => by simp [str, ByteArray.getElem_eq_getElem_data], ?_⟩
  · rw [ByteArray.toList_eq, str_toList]; rfl
  · apply ByteArray.ext
    simp [str, ByteArray.size]

/-- The next sign: told, and passed over where it is this one. -/
theorem is_yes {w : World} {q : Nat} {s t : Bytes} {V : Value} {n : Int} (R : Rd w q s V n) (c : UInt8) (h : skip s = c :: t) :
    Calls Tryz.prog 156 #[.pointer (some ⟨q, 0, none⟩), .int .u8 (c.toNat : Int)] w fun e w' => e = .returned (.bool true) ∧ Rd w' q t V n ∧ Turn (fun k => k = q) w w' := by
  have HR := Lib.hid R
  have HH := Lib.hid h
  clear R h
  go_enter Tryz.func156, Tryz.ntmps156
  go_wp2_with fail
  refine (blanks_any HR.out).mono ?_
  rintro e w1 ⟨rfl, R1, t1⟩
  rw [HH.out] at R1
  have c0 := R1.c0
  have f0 := R1.f 0
  obtain ⟨hE, hz, h0, hx⟩ := cons_facts c t
  obtain ⟨S, hS⟩ : ∃ S, str (c :: t) = S := ⟨_, rfl⟩
  rw [hS] at c0 hE hz h0 hx
  have hz0 : 0 < S.size := by omega
  have hz1 : (1 : Int) ≤ (S.size : Int) := by omega
  have h00 := h0 hz0
  have HX := Lib.hid hx
  have HR1 := Lib.hid R1
  have HT := Lib.hid t1
  clear R1 t1 hS h0 hx hz
  go_wp2
  go_ret
  rw [HX.out]
  exact ⟨rfl, HR1.out.set (by have := HR1.out.fits; simp at this; omega), HT.out.trans (turn_set _ _ _ _ _ rfl)⟩

theorem is_no {w : World} {q : Nat} {s : Bytes} {V : Value} {n : Int} (R : Rd w q s V n) (c : UInt8) (h : (skip s).head? ≠ some c) :
    Calls Tryz.prog 156 #[.pointer (some ⟨q, 0, none⟩), .int .u8 (c.toNat : Int)] w fun e w' => e = .returned (.bool false) ∧ Rd w' q (skip s) V n ∧ Turn (fun k => k = q) w w' := by
  have HR := Lib.hid R
  obtain ⟨u, hu⟩ : ∃ u, skip s = u := ⟨_, rfl⟩
  have HU := Lib.hid hu
  rw [hu] at h
  clear R hu
  cases u with
  | nil =>
    clear h
    go_enter Tryz.func156, Tryz.ntmps156
    go_wp2_with fail
    refine (blanks_any HR.out).mono ?_
    rintro e w1 ⟨rfl, R1, t1⟩
    have R1' := R1
    rw [HU.out] at R1'
    have c0 := R1'.c0
    have hE : (str []).toList.isEmpty = true := by rw [ByteArray.toList_eq, str_toList]; rfl
    have HR1 := Lib.hid R1
    have HT := Lib.hid t1
    clear R1 R1' t1
    go_wp2
    go_ret
    exact ⟨rfl, HR1.out, HT.out⟩
  | cons d t =>
    have hne : ((d.toNat : Int) != (c.toNat : Int)) = true := by
      have : d ≠ c := fun e => h (by rw [e]; rfl)
      simp only [bne_iff_ne, ne_eq]
      intro e
      exact this (UInt8.toNat_inj.1 (by omega))
    clear h
    go_enter Tryz.func156, Tryz.ntmps156
    go_wp2_with fail
    refine (blanks_any HR.out).mono ?_
    rintro e w1 ⟨rfl, R1, t1⟩
    have R1' := R1
    rw [HU.out] at R1'
    have c0 := R1'.c0
    obtain ⟨hE, hz, h0, hx⟩ := cons_facts d t
    obtain ⟨S, hS⟩ : ∃ S, str (d :: t) = S := ⟨_, rfl⟩
    rw [hS] at c0 hE hz h0 hx
    have hz0 : 0 < S.size := by omega
    have h00 := h0 hz0
    have HR1 := Lib.hid R1
    have HT := Lib.hid t1
    clear R1 R1' t1 hS h0 hx hz
    go_wp2
    go_ret
    exact ⟨rfl, HR1.out, HT.out⟩

theorem trim_len (s x : Bytes) : (Lib.trimPrefix s x).length ≤ s.length := by
  unfold Lib.trimPrefix
  split
  · simp
  · exact Nat.le_refl _

theorem word_yes {w : World} {q : Nat} {s : Bytes} {V : Value} {n : Int} (R : Rd w q s V n) (x : Bytes) (hp : Lib.hasPrefix s x = true) :
    Calls Tryz.prog 121 #[.pointer (some ⟨q, 0, none⟩), .string (str x)] w fun e w' => e = .returned (.tuple #[]) ∧ Rd w' q (Lib.trimPrefix s x) V n ∧ Turn (fun k => k = q) w w' := by
  have c0 := R.c0
  have f0 := R.f 0
  have HR := Lib.hid R
  have HP := Lib.hid hp
  clear R hp
  go_enter Tryz.func121, Tryz.ntmps121
  go_wp2_with fail
  refine (Any.strings_CutPrefix Tryz.laysCutPrefix (str s) (str x) _).mono ?_
  rintro e w1 ⟨rfl, rfl⟩
  rw [str_toList, str_toList, HP.out]
  go_wp2_with fail
  refine (need_yes 4 _).mono ?_
  rintro e w1 ⟨rfl, rfl⟩
  go_wp2
  refine bodyPost_end (v := .tuple #[]) (by simp [results, Tryz.results121]) rfl ?_
  exact ⟨rfl, HR.out.set (Nat.le_trans (trim_len s x) HR.out.fits), turn_set _ _ _ _ _ rfl⟩

theorem word_no {w : World} {q : Nat} {s : Bytes} {V : Value} {n : Int} (R : Rd w q s V n) (x : Bytes) (hp : Lib.hasPrefix s x = false) :
    Calls Tryz.prog 121 #[.pointer (some ⟨q, 0, none⟩), .string (str x)] w fun e w' => e = faultOf 4 ∧ w = w' := by
  have c0 := R.c0
  have f0 := R.f 0
  have HR := Lib.hid R
  have HP := Lib.hid hp
  clear R hp
  go_enter Tryz.func121, Tryz.ntmps121
  go_wp2_with fail
  refine (Any.strings_CutPrefix Tryz.laysCutPrefix (str s) (str x) _).mono ?_
  rintro e w1 ⟨rfl, rfl⟩
  rw [str_toList, str_toList, HP.out]
  go_wp2_with fail
  refine (need_no 4 _).mono ?_
  rintro e w1 ⟨rfl, rfl⟩
  go_wp2
  exact ⟨rfl, rfl, rfl⟩
end Go.Proofs.YtcdeikhfmllkdaaGreatDoor

/- The walks of json's integer and number. -/
namespace Go.Proofs.YtcdeikhfmllkdaaGreatDoor
open Go.RowKit
set_option linter.unusedVariables false

def digs : Bytes := [48, 49, 50, 51, 52, 53, 54, 55, 56, 57]
/-- integer's d. -/
def intD (s : Bytes) : Bytes := Lib.trimPrefix s [45]
def intM (s : Bytes) : Bool := !(intD s).isEmpty && decide ((intD s).length ≤ 18) && (Lib.trimS (intD s) digs).isEmpty && ((intD s).head? != some 48 || s == [48])

theorem str_empty (u : Bytes) : (str u).toList.isEmpty = u.isEmpty := by rw [ByteArray.toList_eq, str_toList]

theorem integer_any (s : Bytes) (hs : s.length ≤ maxLen) (w : World) :
    Calls Tryz.prog 155 #[.string (str s)] w fun e w' => e = .returned (.bool (intM s)) ∧ Below w.heap.size w w' := by
  have hsz : s.length ≤ 9223372036854775807 := by unfold maxLen at hs; omega
  have hdl : (intD s).length ≤ s.length := trim_len s [45]
  obtain ⟨d, hd⟩ : ∃ d, intD s = d := ⟨_, rfl⟩
  have hM : intM s = (!d.isEmpty && decide (d.length ≤ 18) && (Lib.trimS d digs).isEmpty && (d.head? != some 48 || s == [48])) := by unfold intM; rw [hd]
  rw [hd] at hdl
  have HD := Lib.hid hd
  have HM := Lib.hid hM
  have hDs : Lib.trimPrefix (str s).data.toList [45] = d := by rw [str_toList]; exact HD.out
  have HDs := Lib.hid hDs
  clear hd hM hDs
  cases d with
  | nil =>
    have hE : (str []).toList.isEmpty = true := by rw [str_empty]; rfl
    go_enter Tryz.func155, Tryz.ntmps155
    go_wp2_with fail
    refine (Any.strings_TrimPrefix Tryz.laysTrimPrefix (str s) ⟨#[45]⟩ _).mono ?_
    rintro e w1 ⟨rfl, rfl⟩
    rw [show (⟨(Lib.trimPrefix (str s).data.toList (⟨#[45]⟩ : ByteArray).data.toList).toArray⟩ : ByteArray) = str [] from congrArg str HDs.out]
    go_wp2
    go_ret
    rw [HM.out]
    exact ⟨rfl, Below.refl _ _⟩
  | cons c t =>
    have hE : (str (c :: t)).toList.isEmpty = false := by rw [str_empty]; rfl
    obtain ⟨-, hz, h0, -⟩ := cons_facts c t
    obtain ⟨S, hS⟩ : ∃ S, str (c :: t) = S := ⟨_, rfl⟩
    have HS := Lib.hid hS
    rw [hS] at hE hz h0
    have hz0 : 0 < S.size := by omega
    have h00 := h0 hz0
    simp only [List.length_cons] at hdl
    clear h0 hS
    by_cases h18 : 18 < t.length + 1
    · have hz1 : (18 : Int) < (S.size : Int) := by omega
      go_enter Tryz.func155, Tryz.ntmps155
      go_wp2_with fail
      refine (Any.strings_TrimPrefix Tryz.laysTrimPrefix (str s) ⟨#[45]⟩ _).mono ?_
      rintro e w1 ⟨rfl, rfl⟩
      rw [show (⟨(Lib.trimPrefix (str s).data.toList (⟨#[45]⟩ : ByteArray).data.toList).toArray⟩ : ByteArray) = S from (congrArg str HDs.out).trans HS.out]
      go_wp2
      go_ret
      have hF : intM s = false := by rw [HM.out]; simp only [List.length_cons, decide_eq_false (show ¬ (t.length + 1 ≤ 18) from by omega), Bool.and_false, Bool.false_and]
      rw [hF]
      exact ⟨rfl, Below.refl _ _⟩
    · have hz1 : ¬ ((18 : Int) < (S.size : Int)) := by omega
      have hz2 : decide ((18 : Int) < (S.size : Int)) = false := decide_eq_false hz1
      have hd18 : decide ((c :: t).length ≤ 18) = true := decide_eq_true (by simp only [List.length_cons]; omega)
      obtain ⟨u, hu⟩ : ∃ u, Lib.trimS (c :: t) digs = u := ⟨_, rfl⟩
      have hU : Lib.trimS S.data.toList digs = u := by rw [← HS.out, str_toList]; exact hu
      have HU := Lib.hid hU
      have HU2 := Lib.hid hu
      have hsz2 : S.size ≤ 9223372036854775807 := by omega
      have HD18 := Lib.hid hd18
      clear hU hu hd18
      go_enter Tryz.func155, Tryz.ntmps155
      go_wp2_with fail
      refine (Any.strings_TrimPrefix Tryz.laysTrimPrefix (str s) ⟨#[45]⟩ _).mono ?_
      rintro e w1 ⟨rfl, rfl⟩
      rw [show (⟨(Lib.trimPrefix (str s).data.toList (⟨#[45]⟩ : ByteArray).data.toList).toArray⟩ : ByteArray) = S from (congrArg str HDs.out).trans HS.out]
      go_wp2_with fail
      refine (Any.strings_Trim_laid Tryz.laysTrim (by kernel_rfl) S ⟨#[48, 49, 50, 51, 52, 53, 54, 55, 56, 57]⟩ _ hsz2 (by decide) (ascii_of_all (by decide))).mono ?_
      rintro e w1 ⟨rfl, hb⟩
      have HB := Lib.hid hb
      clear hb
      rw [show (⟨(Lib.trimS S.data.toList (⟨#[48, 49, 50, 51, 52, 53, 54, 55, 56, 57]⟩ : ByteArray).data.toList).toArray⟩ : ByteArray) = str u from congrArg str HU.out]
      cases u with
      | cons a v =>
        have hE2 : (str (a :: v)).toList.isEmpty = false := by rw [str_empty]; rfl
        go_wp2
        go_ret
        have hF : intM s = false := by rw [HM.out, HU2.out]; simp only [List.isEmpty_cons, Bool.and_false, Bool.false_and]
        rw [hF]
        exact ⟨rfl, HB.out⟩
      | nil =>
        have hE2 : (str []).toList.isEmpty = true := by rw [str_empty]; rfl
        by_cases hc : c = 48
        · subst hc
          have h01 : ((48 : UInt8).toNat : Int) = 48 := rfl
          go_wp2
          go_ret
          have hF : intM s = ((str s).toList == [48]) := by rw [HM.out, HU2.out, HD18.out, ByteArray.toList_eq, str_toList]; simp
          rw [hF]
          exact ⟨rfl, HB.out⟩
        · have hc2 : ((c.toNat : Int) != 48) = true := by
            simp only [bne_iff_ne, ne_eq]
            intro e
            exact hc (UInt8.toNat_inj.1 (by simpa using (by omega : c.toNat = 48)))
          go_wp2
          go_ret
          have hF : intM s = true := by rw [HM.out, HU2.out, HD18.out]; simp [hc]
          rw [hF]
          exact ⟨rfl, HB.out⟩

/-- number's own signs. -/
def numC : Bytes := [45, 48, 49, 50, 51, 52, 53, 54, 55, 56, 57]
def numRest (s : Bytes) : Bytes := Lib.trimLeftS s numC
def numTok (s : Bytes) : Bytes := s.take (s.length - (numRest s).length)

theorem numRest_len (s : Bytes) : (numRest s).length ≤ s.length := (List.dropWhile_sublist _).length_le
theorem numRest_eq (s : Bytes) : s.drop (s.length - (numRest s).length) = numRest s := by
  have h : s.takeWhile (numC.contains ·) ++ numRest s = s := List.takeWhile_append_dropWhile
  have hl := congrArg List.length h
  simp only [List.length_append] at hl
  have e : s.length - (numRest s).length = (s.takeWhile (numC.contains ·)).length := by omega
  rw [e]
  exact (congrArg (List.drop _) h).symm.trans (by simp)

theorem number_any {w : World} {q : Nat} {s : Bytes} {V : Value} {n : Int} (R : Rd w q s V n) (hI : intM (numTok s) = true) :
    Calls Tryz.prog 123 #[.pointer (some ⟨q, 0, none⟩)] w fun e w' => e = .returned (.string (str (numTok s))) ∧ Rd w' q (numRest s) V n ∧ Turn (fun k => k = q) w w' := by
  have c0 := R.c0
  have HR := Lib.hid R
  have hrl := numRest_len s
  have hfit := R.fits
  have hsz : (str s).size = s.length := str_size s
  have hT : Lib.trimLeftS (str s).data.toList numC = numRest s := by rw [str_toList]; rfl
  obtain ⟨m, hm⟩ : ∃ m, (numRest s).length = m := ⟨_, rfl⟩
  have hrs : (str (numRest s)).size = m := by rw [str_size, hm]
  rw [hm] at hrl
  have HT := Lib.hid hT
  have HI := Lib.hid hI
  have hml : s.length ≤ 9223372036854775807 := by unfold maxLen at hfit; omega
  have hm0 := hm
  clear R hT hI hm
  obtain ⟨S, hS⟩ : ∃ S, str s = S := ⟨_, rfl⟩
  have HS := Lib.hid hS
  rw [hS] at c0 hsz HT
  obtain ⟨N, hN⟩ : ∃ N, str (numRest s) = N := ⟨_, rfl⟩
  have HN := Lib.hid hN
  rw [hN] at hrs
  clear hS hN
  obtain ⟨k, hk⟩ : ∃ k, s.length - m = k := ⟨_, rfl⟩
  have hw1 : IntKind.i64.wrap ((s.length : Int) - (m : Int)) = (k : Int) := by rw [IntWalk.i64_in _ (by omega)]; omega
  have hk0 : (0 : Int) ≤ (k : Int) := by omega
  have hk1 : (k : Int) ≤ (S.size : Int) := by omega
  have hk2 : (k : Int) ≤ (s.length : Int) := by omega
  have hx1 : S.extract 0 k = str (numTok s) := by
    unfold numTok
    rw [hm0, hk, ← HS.out]
    apply ByteArray.ext
    simp [str]
  have hx2 : S.extract k s.length = N := by
    rw [← hsz]
    have e := numRest_eq s
    rw [hm0, hk] at e
    rw [← HN.out, ← e, ← HS.out]
    apply ByteArray.ext
    simp [str, ByteArray.size, List.take_of_length_le]
  have HX1 := Lib.hid hx1
  have HX2 := Lib.hid hx2
  clear hx1 hx2 hm0
  go_enter Tryz.func123, Tryz.ntmps123
  go_wp2_with fail
  go_region_held3 (fun w' => w'.cell? ⟨q, 0, none⟩ = some (.string S))
    (first | (with_reducible exact c1) | (with_reducible exact c0) | go_keep)
    (first
      | (go_at_call 125; refine (Any.strings_TrimLeft_laid Tryz.laysTrimLeft (by kernel_rfl) S ⟨#[45, 48, 49, 50, 51, 52, 53, 54, 55, 56, 57]⟩ _ (by decide) (ascii_of_all (by decide))).mono ?_; rintro e w1 ⟨rfl, hb⟩; rw [show (⟨(Lib.trimLeftS S.data.toList (⟨#[45, 48, 49, 50, 51, 52, 53, 54, 55, 56, 57]⟩ : ByteArray).data.toList).toArray⟩ : ByteArray) = N from (congrArg str HT.out).trans HN.out]; have HR1 : RowKit.Hid (Rd w1 q s V n) := (by first | exact Lib.hid (HR.out.below hb) | exact Lib.hid ((HR.out.below ((Below.refl _ _).drew)).below hb)); have HB1 : RowKit.Hid (Below w.heap.size w w1) := (by first | exact Lib.hid hb | exact Lib.hid (((Below.refl w.heap.size w).drew).trans hb)); have c1 := HR1.out.c0; rw [HS.out] at c1; clear hb))
  go_wp2_with fail
  rw [HX1.out]
  refine (integer_any (numTok s) (by unfold numTok; rw [List.length_take]; omega) w1).mono ?_
  rw [HI.out]
  rintro e w2 ⟨rfl, hb2⟩
  have R2 := HR1.out.below hb2
  have HB2 := Lib.hid (HB1.out.trans (hb2.mono HB1.out.size))
  have c2 := R2.c0
  have f2 := R2.f 0
  rw [HS.out] at c2
  have HR2 := Lib.hid R2
  clear R2 hb2
  go_wp2_with fail
  refine (need_yes 4 _).mono ?_
  rintro e w3 ⟨rfl, rfl⟩
  go_wp2
  go_ret
  rw [HX2.out, ← HN.out]
  exact ⟨rfl, HR2.out.set (by rw [numRest]; exact Nat.le_trans (numRest_len s) hfit), (Turn.of_below HB2.out).trans (turn_set _ _ _ _ _ rfl)⟩

theorem number_no {w : World} {q : Nat} {s : Bytes} {V : Value} {n : Int} (R : Rd w q s V n) (hI : intM (numTok s) = false) :
    Calls Tryz.prog 123 #[.pointer (some ⟨q, 0, none⟩)] w fun e w' => e = faultOf 4 ∧ Below w.heap.size w w' := by
  have c0 := R.c0
  have HR := Lib.hid R
  have hrl := numRest_len s
  have hfit := R.fits
  have hsz : (str s).size = s.length := str_size s
  have hT : Lib.trimLeftS (str s).data.toList numC = numRest s := by rw [str_toList]; rfl
  obtain ⟨m, hm⟩ : ∃ m, (numRest s).length = m := ⟨_, rfl⟩
  have hrs : (str (numRest s)).size = m := by rw [str_size, hm]
  rw [hm] at hrl
  have HT := Lib.hid hT
  have HI := Lib.hid hI
  have hml : s.length ≤ 9223372036854775807 := by unfold maxLen at hfit; omega
  have hm0 := hm
  clear R hT hI hm
  obtain ⟨S, hS⟩ : ∃ S, str s = S := ⟨_, rfl⟩
  have HS := Lib.hid hS
  rw [hS] at c0 hsz HT
  obtain ⟨N, hN⟩ : ∃ N, str (numRest s) = N := ⟨_, rfl⟩
  have HN := Lib.hid hN
  rw [hN] at hrs
  clear hS hN
  obtain ⟨k, hk⟩ : ∃ k, s.length - m = k := ⟨_, rfl⟩
  have hw1 : IntKind.i64.wrap ((s.length : Int) - (m : Int)) = (k : Int) := by rw [IntWalk.i64_in _ (by omega)]; omega
  have hk0 : (0 : Int) ≤ (k : Int) := by omega
  have hk1 : (k : Int) ≤ (S.size : Int) := by omega
  have hk2 : (k : Int) ≤ (s.length : Int) := by omega
  have hx1 : S.extract 0 k = str (numTok s) := by
    unfold numTok
    rw [hm0, hk, ← HS.out]
    apply ByteArray.ext
    simp [str]
  have hx2 : S.extract k s.length = N := by
    rw [← hsz]
    have e := numRest_eq s
    rw [hm0, hk] at e
    rw [← HN.out, ← e, ← HS.out]
    apply ByteArray.ext
    simp [str, ByteArray.size, List.take_of_length_le]
  have HX1 := Lib.hid hx1
  have HX2 := Lib.hid hx2
  clear hx1 hx2 hm0
  go_enter Tryz.func123, Tryz.ntmps123
  go_wp2_with fail
  go_region_held3 (fun w' => w'.cell? ⟨q, 0, none⟩ = some (.string S))
    (first | (with_reducible exact c1) | (with_reducible exact c0) | go_keep)
    (first
      | (go_at_call 125; refine (Any.strings_TrimLeft_laid Tryz.laysTrimLeft (by kernel_rfl) S ⟨#[45, 48, 49, 50, 51, 52, 53, 54, 55, 56, 57]⟩ _ (by decide) (ascii_of_all (by decide))).mono ?_; rintro e w1 ⟨rfl, hb⟩; rw [show (⟨(Lib.trimLeftS S.data.toList (⟨#[45, 48, 49, 50, 51, 52, 53, 54, 55, 56, 57]⟩ : ByteArray).data.toList).toArray⟩ : ByteArray) = N from (congrArg str HT.out).trans HN.out]; have HR1 : RowKit.Hid (Rd w1 q s V n) := (by first | exact Lib.hid (HR.out.below hb) | exact Lib.hid ((HR.out.below ((Below.refl _ _).drew)).below hb)); have HB1 : RowKit.Hid (Below w.heap.size w w1) := (by first | exact Lib.hid hb | exact Lib.hid (((Below.refl w.heap.size w).drew).trans hb)); have c1 := HR1.out.c0; rw [HS.out] at c1; clear hb))
  go_wp2_with fail
  rw [HX1.out]
  refine (integer_any (numTok s) (by unfold numTok; rw [List.length_take]; omega) w1).mono ?_
  rw [HI.out]
  rintro e w2 ⟨rfl, hb2⟩
  have R2 := HR1.out.below hb2
  have HB2 := Lib.hid (HB1.out.trans (hb2.mono HB1.out.size))
  have c2 := R2.c0
  have f2 := R2.f 0
  rw [HS.out] at c2
  have HR2 := Lib.hid R2
  clear R2 hb2
  go_wp2_with fail
  refine (need_no 4 _).mono ?_
  rintro e w3 ⟨rfl, rfl⟩
  go_wp2
  exact ⟨rfl, rfl, HB2.out⟩

end Go.Proofs.YtcdeikhfmllkdaaGreatDoor

/- The walks of json's four, unicode, escape. -/
namespace Go.Proofs.YtcdeikhfmllkdaaGreatDoor
open Go.RowKit
set_option linter.unusedVariables false

def hexC : Bytes := [48, 49, 50, 51, 52, 53, 54, 55, 56, 57, 97, 98, 99, 100, 101, 102]
/-- A digit's number; none: it is none. -/
def hexV (c : UInt8) : Option Nat :=
  let n := c.toNat
  if 48 ≤ n ∧ n ≤ 57 then some (n - 48) else if 97 ≤ n ∧ n ≤ 102 then some (n - 87) else if 65 ≤ n ∧ n ≤ 70 then some (n - 55) else none

theorem hex_low : ∀ c : UInt8, (hexV c = none ∧ (Lib.indexByte hexC (c ||| 32) = -1 ∨ (0 ≤ Lib.indexByte hexC (c ||| 32) ∧ (c ||| 32).toNat ≤ 57 ∧ c ≠ c ||| 32))) ∨
    (∃ v, hexV c = some v ∧ v < 16 ∧ Lib.indexByte hexC (c ||| 32) = (v : Int) ∧ (57 < (c ||| 32).toNat ∨ c = c ||| 32)) := by
  have h : ∀ n : Fin 256, (fun c : UInt8 => (hexV c = none ∧ (Lib.indexByte hexC (c ||| 32) = -1 ∨ (0 ≤ Lib.indexByte hexC (c ||| 32) ∧ (c ||| 32).toNat ≤ 57 ∧ c ≠ c ||| 32))) ∨
    ((hexV c).isSome = true ∧ (hexV c).getD 16 < 16 ∧ Lib.indexByte hexC (c ||| 32) = ((hexV c).getD 16 : Int) ∧ (57 < (c ||| 32).toNat ∨ c = c ||| 32))) (UInt8.ofNat n.val) := by decide +kernel
  intro c
  have := h ⟨c.toNat, c.toNat_lt⟩
  simp only [UInt8.ofNat_toNat] at this
  rcases this with h | ⟨h1, h2, h3, h4⟩
  · exact .inl h
  · obtain ⟨v, hv⟩ := Option.isSome_iff_exists.1 h1
    rw [hv] at h2 h3
    exact .inr ⟨v, hv, h2, h3, h4⟩

theorem hex_at (c : UInt8) (v : Nat) (h : hexV c = some v) : v < 16 ∧ Lib.indexByte hexC (c ||| 32) = (v : Int) ∧ (57 < (c ||| 32).toNat ∨ c = c ||| 32) := by
  rcases hex_low c with ⟨h0, _⟩ | ⟨u, hu, h1, h2, h3⟩
  · rw [h] at h0; cases h0
  · rw [h] at hu; cases hu; exact ⟨h1, h2, h3⟩

theorem or_low (c : UInt8) : bits BinOp.or .u8 (c.toNat : Int) 32 = ((c ||| 32).toNat : Int) := by
  have h := u8_or_nat c.toNat 32 c.toNat_lt (by decide)
  exact h.trans (by simp [UInt8.toNat_or])

/-- The number that some digits are. -/
def hexN (vs : List Nat) : Nat := vs.foldl (fun n v => 16 * n + v) 0

theorem hexN_lt : ∀ (vs : List Nat), (∀ x ∈ vs, x < 16) → hexN vs < 16 ^ vs.length := by
  intro vs
  unfold hexN
  suffices h : ∀ (vs : List Nat) (n k : Nat), (∀ x ∈ vs, x < 16) → n < 16 ^ k → vs.foldl (fun n v => 16 * n + v) n < 16 ^ (k + vs.length) from fun hv => by simpa using h vs 0 0 hv (by simp)
  intro vs
  induction vs with
  | nil => intro n k _ h; simpa using h
  | cons v vs ih =>
    intro n k hv h
    have := ih (16 * n + v) (k + 1) (fun x hx => hv x (List.mem_cons_of_mem _ hx)) (by have := hv v (by simp); rw [Nat.pow_succ]; omega)
    simpa [Nat.add_assoc, Nat.add_comm 1] using this

theorem hexN_step (vs : List Nat) (i v : Nat) (hi : i < vs.length) (hi4 : i < 4) (hv : vs[i] = v) (hv16 : v < 16) (hall : ∀ j (h : j < vs.length), j < i → vs[j] < 16) :
    bits BinOp.or .i32 (wrap32 ((hexN (vs.take i) : Int) * 16)) (v : Int) = ((hexN (vs.take (i + 1)) : Nat) : Int) := by
  have hlt : hexN (vs.take i) < 16 ^ 3 := by
    have h := hexN_lt (vs.take i) (fun x hx => by
      obtain ⟨j, hj, rfl⟩ := List.mem_iff_getElem.1 hx
      simp only [List.length_take] at hj
      rw [List.getElem_take]
      exact hall j (by omega) (by omega))
    have hl : (vs.take i).length ≤ 3 := by rw [List.length_take]; omega
    exact Nat.lt_of_lt_of_le h (Nat.pow_le_pow_right (by omega) hl)
  have e : hexN (vs.take (i + 1)) = 16 * hexN (vs.take i) + v := by
    unfold hexN
    rw [List.take_add_one, List.getElem?_eq_getElem hi, hv]
    simp
  rw [e]
  have hw : wrap32 ((hexN (vs.take i) : Int) * 16) = (hexN (vs.take i) : Int) * 16 := by unfold wrap32; omega
  rw [hw, bits_join .i32 31 (by decide) wraps_i32 4 _ _ (by omega) (by omega) (by omega) (by omega) (by omega) (by omega)]
  omega

set_option maxRecDepth 100000 in
set_option maxHeartbeats 1000000 in
theorem four_yes {w : World} {q : Nat} {s : Bytes} {V : Value} {n : Int} (R : Rd w q s V n) (vs : List Nat) (hl : vs.length = 4) (h4 : 4 ≤ s.length) (hv : ∀ i (h : i < 4), hexV (s[i]'(by omega)) = some (vs[i]'(by omega))) :
    Calls Tryz.prog 225 #[.pointer (some ⟨q, 0, none⟩)] w fun e w' => e = .returned (.int .i32 (hexN vs)) ∧ Rd w' q (s.drop 4) V n ∧ Turn (fun k => k = q) w w' := by
  have c0 := R.c0
  have f0 := R.f 0
  have hfit := R.fits
  have HR := Lib.hid R
  obtain ⟨S, hS⟩ : ∃ S, str s = S := ⟨_, rfl⟩
  have hsz : S.size = s.length := by rw [← hS, str_size]
  rw [hS] at c0
  have HS := Lib.hid hS
  have HV := Lib.hid hv
  clear R hS hv
  have hz4 : (4 : Int) ≤ (S.size : Int) := by omega
  have hb4 : decide ((4 : Int) ≤ (s.length : Int)) = true := decide_eq_true (by omega)
  go_enter Tryz.func225, Tryz.ntmps225
  go_wp2_with fail
  refine (need_yes 4 _).mono ?_
  rintro e w1 ⟨rfl, rfl⟩
  go_wp2_with fail
  go_loopw [3, 14] (fun v3 v14 wr => ∃ i : Nat, i ≤ 4 ∧ v14 = .int .i64 i ∧ v3 = .int .i32 (hexN (vs.take i)) ∧ w = wr) (fun _ v14 _ => 4 - (intOf v14).toNat)
  case atStart => exact ⟨0, by omega, rfl, rfl, rfl⟩
  case round =>
    obtain ⟨i, hi, rfl, rfl, rfl⟩ := hrel
    by_cases hlt : i < 4
    · have hvi := HV.out i hlt
      obtain ⟨c, hc⟩ : ∃ c, s[i]'(by omega) = c := ⟨_, rfl⟩
      obtain ⟨v, hvv⟩ : ∃ v, vs[i]'(by omega) = v := ⟨_, rfl⟩
      rw [hc, hvv] at hvi
      obtain ⟨hv16, hix, hor⟩ := hex_at c v hvi
      have hiS : i < S.size := by omega
      have hSi : S[i]'hiS = c := by
        have e := HS.out
        subst e
        simp [str, ByteArray.getElem_eq_getElem_data, hc]
      have hi1 : (i : Int) < (S.size : Int) := by omega
      have HIX := Lib.hid hix
      have HOR := Lib.hid hor
      clear hix hor hc hvi
      have h8 : bits BinOp.or .u8 (c.toNat : Int) 32 = ((c ||| 32).toNat : Int) := or_low c
      obtain ⟨x, hx⟩ : ∃ x, c ||| 32 = x := ⟨_, rfl⟩
      rw [hx] at h8
      have HXX := Lib.hid hx
      have hix2 : Lib.indexByte (⟨#[48, 49, 50, 51, 52, 53, 54, 55, 56, 57, 97, 98, 99, 100, 101, 102]⟩ : ByteArray).data.toList ((x.toNat : Int).toNat.toUInt8) = (v : Int) := by
        have e := HIX.out
        rw [HXX.out] at e
        simpa [hexC] using e
      have HIX2 := Lib.hid hix2
      have hn1 := hexN_step vs i v (by omega) (by omega) hvv hv16 (fun j hj hj2 => by obtain ⟨h16, _⟩ := hex_at _ _ (HV.out j (by omega)); exact h16)
      have HN1 := Lib.hid hn1
      clear hn1
      clear hx hix2
      go_wp2_with fail
      refine (Any.strings_IndexByte Tryz.laysIndexByte ⟨#[48, 49, 50, 51, 52, 53, 54, 55, 56, 57, 97, 98, 99, 100, 101, 102]⟩ (x.toNat : Int) _).mono ?_
      rintro e w1 ⟨rfl, rfl⟩
      rw [HIX2.out]
      have hv0 : decide ((0 : Int) ≤ (v : Int)) = true := decide_eq_true (by omega)
      by_cases h57 : 57 < x.toNat
      · have hg : decide ((57 : Int) < (x.toNat : Int)) = true := decide_eq_true (by omega)
        go_wp2_with fail
        refine (need_yes 4 _).mono ?_
        rintro e w1 ⟨rfl, rfl⟩
        go_wp2_with fail
        rw [HN1.out]
        exact ⟨⟨i + 1, by omega, by go_num, rfl, trivial⟩, by simp [intOf]; omega⟩
      · have hg : decide ((57 : Int) < (x.toNat : Int)) = false := decide_eq_false (by omega)
        have hcx : c = x := by
          have e := HOR.out
          rw [HXX.out] at e
          exact e.resolve_left h57
        subst hcx
        go_wp2_with fail
        refine (need_yes 4 _).mono ?_
        rintro e w1 ⟨rfl, rfl⟩
        go_wp2_with fail
        rw [HN1.out]
        exact ⟨⟨i + 1, by omega, by go_num, rfl, trivial⟩, by simp [intOf]; omega⟩
    · have hii : i = 4 := by omega
      have htk : vs.take i = vs := by rw [hii, ← hl, List.take_length]
      rw [htk]
      have hx4 : S.extract 4 s.length = str (s.drop 4) := by
        rw [← hsz]
        rw [← HS.out]
        apply ByteArray.ext
        simp [str, ByteArray.size, List.take_of_length_le]
      have HX4 := Lib.hid hx4
      clear hx4 htk
      go_wp2
      go_ret
      rw [HX4.out]
      exact ⟨rfl, HR.out.set (by rw [List.length_drop]; omega), turn_set _ _ _ _ _ rfl⟩
set_option maxRecDepth 100000 in
set_option maxHeartbeats 1000000 in
theorem four_bad {w : World} {q : Nat} {s : Bytes} {V : Value} {n : Int} (R : Rd w q s V n) (vs : List Nat) (j : Nat) (hj : j < 4) (hl : vs.length = j) (h4 : 4 ≤ s.length) (hv : ∀ i (h : i < j), hexV (s[i]'(by omega)) = some (vs[i]'(by omega))) (hbad : hexV (s[j]'(by omega)) = none) :
    Calls Tryz.prog 225 #[.pointer (some ⟨q, 0, none⟩)] w fun e w' => e = faultOf 4 ∧ w = w' := by
  have c0 := R.c0
  have f0 := R.f 0
  have hfit := R.fits
  have HR := Lib.hid R
  obtain ⟨S, hS⟩ : ∃ S, str s = S := ⟨_, rfl⟩
  have hsz : S.size = s.length := by rw [← hS, str_size]
  rw [hS] at c0
  have HS := Lib.hid hS
  have HV := Lib.hid hv
  clear R hS hv
  have hz4 : (4 : Int) ≤ (S.size : Int) := by omega
  have hb4 : decide ((4 : Int) ≤ (s.length : Int)) = true := decide_eq_true (by omega)
  go_enter Tryz.func225, Tryz.ntmps225
  go_wp2_with fail
  refine (need_yes 4 _).mono ?_
  rintro e w1 ⟨rfl, rfl⟩
  go_wp2_with fail
  go_loopw [3, 14] (fun v3 v14 wr => ∃ i : Nat, i ≤ j ∧ v14 = .int .i64 i ∧ v3 = .int .i32 (hexN (vs.take i)) ∧ w = wr) (fun _ v14 _ => 4 - (intOf v14).toNat)
  case atStart => exact ⟨0, by omega, rfl, rfl, rfl⟩
  case round =>
    obtain ⟨i, hi, rfl, rfl, rfl⟩ := hrel
    by_cases hlt : i < j
    · have hvi := HV.out i hlt
      obtain ⟨c, hc⟩ : ∃ c, s[i]'(by omega) = c := ⟨_, rfl⟩
      obtain ⟨v, hvv⟩ : ∃ v, vs[i]'(by omega) = v := ⟨_, rfl⟩
      rw [hc, hvv] at hvi
      obtain ⟨hv16, hix, hor⟩ := hex_at c v hvi
      have hiS : i < S.size := by omega
      have hSi : S[i]'hiS = c := by
        have e := HS.out
        subst e
        simp [str, ByteArray.getElem_eq_getElem_data, hc]
      have hi1 : (i : Int) < (S.size : Int) := by omega
      have HIX := Lib.hid hix
      have HOR := Lib.hid hor
      clear hix hor hc hvi
      have h8 : bits BinOp.or .u8 (c.toNat : Int) 32 = ((c ||| 32).toNat : Int) := or_low c
      obtain ⟨x, hx⟩ : ∃ x, c ||| 32 = x := ⟨_, rfl⟩
      rw [hx] at h8
      have HXX := Lib.hid hx
      have hix2 : Lib.indexByte (⟨#[48, 49, 50, 51, 52, 53, 54, 55, 56, 57, 97, 98, 99, 100, 101, 102]⟩ : ByteArray).data.toList ((x.toNat : Int).toNat.toUInt8) = (v : Int) := by
        have e := HIX.out
        rw [HXX.out] at e
        simpa [hexC] using e
      have HIX2 := Lib.hid hix2
      have hn1 := hexN_step vs i v (by omega) (by omega) hvv hv16 (fun j hj hj2 => by obtain ⟨h16, _⟩ := hex_at _ _ (HV.out j (by omega)); exact h16)
      have HN1 := Lib.hid hn1
      clear hn1
      clear hx hix2
      go_wp2_with fail
      refine (Any.strings_IndexByte Tryz.laysIndexByte ⟨#[48, 49, 50, 51, 52, 53, 54, 55, 56, 57, 97, 98, 99, 100, 101, 102]⟩ (x.toNat : Int) _).mono ?_
      rintro e w1 ⟨rfl, rfl⟩
      rw [HIX2.out]
      have hv0 : decide ((0 : Int) ≤ (v : Int)) = true := decide_eq_true (by omega)
      by_cases h57 : 57 < x.toNat
      · have hg : decide ((57 : Int) < (x.toNat : Int)) = true := decide_eq_true (by omega)
        go_wp2_with fail
        refine (need_yes 4 _).mono ?_
        rintro e w1 ⟨rfl, rfl⟩
        go_wp2_with fail
        rw [HN1.out]
        exact ⟨⟨i + 1, by omega, by go_num, rfl, trivial⟩, by simp [intOf]; omega⟩
      · have hg : decide ((57 : Int) < (x.toNat : Int)) = false := decide_eq_false (by omega)
        have hcx : c = x := by
          have e := HOR.out
          rw [HXX.out] at e
          exact e.resolve_left h57
        subst hcx
        go_wp2_with fail
        refine (need_yes 4 _).mono ?_
        rintro e w1 ⟨rfl, rfl⟩
        go_wp2_with fail
        rw [HN1.out]
        exact ⟨⟨i + 1, by omega, by go_num, rfl, trivial⟩, by simp [intOf]; omega⟩
    · have hii : i = j := by omega
      subst hii
      obtain ⟨c, hc⟩ : ∃ c, s[i]'(by omega) = c := ⟨_, rfl⟩
      rw [hc] at hbad
      have hiS : i < S.size := by omega
      have hSi : S[i]'hiS = c := by
        have e := HS.out
        subst e
        simp [str, ByteArray.getElem_eq_getElem_data, hc]
      have hi1 : (i : Int) < (S.size : Int) := by omega
      have h8 : bits BinOp.or .u8 (c.toNat : Int) 32 = ((c ||| 32).toNat : Int) := or_low c
      have hbd : Lib.indexByte hexC (c ||| 32) = -1 ∨ (0 ≤ Lib.indexByte hexC (c ||| 32) ∧ (c ||| 32).toNat ≤ 57 ∧ c ≠ c ||| 32) := by
        rcases hex_low c with ⟨_, h⟩ | ⟨u, hu, _⟩
        · exact h
        · rw [hbad] at hu; cases hu
      obtain ⟨x, hx⟩ : ∃ x, c ||| 32 = x := ⟨_, rfl⟩
      rw [hx] at h8 hbd
      obtain ⟨d, hd⟩ : ∃ d, Lib.indexByte hexC x = d := ⟨_, rfl⟩
      rw [hd] at hbd
      have hix2 : Lib.indexByte (⟨#[48, 49, 50, 51, 52, 53, 54, 55, 56, 57, 97, 98, 99, 100, 101, 102]⟩ : ByteArray).data.toList ((x.toNat : Int).toNat.toUInt8) = d := by
        simpa [hexC] using hd
      have HIX2 := Lib.hid hix2
      clear hx hix2 hd hbad hc
      go_wp2_with fail
      refine (Any.strings_IndexByte Tryz.laysIndexByte ⟨#[48, 49, 50, 51, 52, 53, 54, 55, 56, 57, 97, 98, 99, 100, 101, 102]⟩ (x.toNat : Int) _).mono ?_
      rintro e w1 ⟨rfl, rfl⟩
      rw [HIX2.out]
      rcases hbd with rfl | ⟨hd0, h57, hne⟩
      · go_wp2_with fail
        refine (need_no 4 _).mono ?_
        rintro e w1 ⟨rfl, rfl⟩
        go_wp2
        exact ⟨rfl, rfl, rfl⟩
      · have hv0 : decide ((0 : Int) ≤ d) = true := decide_eq_true hd0
        have hg : decide ((57 : Int) < (x.toNat : Int)) = false := decide_eq_false (by omega)
        have hcx : ((c.toNat : Int) == (x.toNat : Int)) = false := by
          simp only [beq_eq_false_iff_ne, ne_eq]
          intro e
          exact hne (UInt8.toNat_inj.1 (by omega))
        go_wp2_with fail
        refine (need_no 4 _).mono ?_
        rintro e w1 ⟨rfl, rfl⟩
        go_wp2
        exact ⟨rfl, rfl, rfl⟩

theorem four_short {w : World} {q : Nat} {s : Bytes} {V : Value} {n : Int} (R : Rd w q s V n) (h4 : s.length < 4) :
    Calls Tryz.prog 225 #[.pointer (some ⟨q, 0, none⟩)] w fun e w' => e = faultOf 4 ∧ w = w' := by
  have c0 := R.c0
  obtain ⟨S, hS⟩ : ∃ S, str s = S := ⟨_, rfl⟩
  have hsz : S.size = s.length := by rw [← hS, str_size]
  rw [hS] at c0
  clear R hS
  have hb4 : decide ((4 : Int) ≤ (s.length : Int)) = false := decide_eq_false (by omega)
  go_enter Tryz.func225, Tryz.ntmps225
  go_wp2_with fail
  refine (need_no 4 _).mono ?_
  rintro e w1 ⟨rfl, rfl⟩
  go_wp2
  exact ⟨rfl, rfl, rfl⟩

/-- What four comes to: the number and what is left, or none. -/
def fourM (s : Bytes) : Option (Nat × Bytes) :=
  match s with
  | a :: b :: c :: d :: t => (hexV a).bind fun x => (hexV b).bind fun y => (hexV c).bind fun z => (hexV d).map fun u => (hexN [x, y, z, u], t)
  | _ => none

theorem four_any {w : World} {q : Nat} {s : Bytes} {V : Value} {n : Int} (R : Rd w q s V n) :
    Calls Tryz.prog 225 #[.pointer (some ⟨q, 0, none⟩)] w fun e w' => match fourM s with
      | some (m, t) => e = .returned (.int .i32 m) ∧ Rd w' q t V n ∧ Turn (fun k => k = q) w w'
      | none => e = faultOf 4 ∧ w = w' := by
  match s, R with
  | [], R => exact four_short R (by simp)
  | [a], R => exact four_short R (by simp)
  | [a, b], R => exact four_short R (by simp)
  | [a, b, c], R => exact four_short R (by simp)
  | a :: b :: c :: d :: t, R =>
    cases ha : hexV a with
    | none =>
      simp only [fourM, ha, Option.bind_none]
      exact four_bad R [] 0 (by omega) rfl (by simp) (fun i h => absurd h (by omega)) ha
    | some x =>
      cases hb : hexV b with
      | none =>
        simp only [fourM, ha, hb, Option.bind_none, Option.bind_some]
        exact four_bad R [x] 1 (by omega) rfl (by simp) (fun i h => match i, h with
          | 0, _ => ha
          | k + 1, h => absurd h (by omega)) hb
      | some y =>
        cases hc : hexV c with
        | none =>
          simp only [fourM, ha, hb, hc, Option.bind_none, Option.bind_some]
          exact four_bad R [x, y] 2 (by omega) rfl (by simp) (fun i h => match i, h with
            | 0, _ => ha
            | 1, _ => hb
            | k + 2, h => absurd h (by omega)) hc
        | some z =>
          cases hd : hexV d with
          | none =>
            simp only [fourM, ha, hb, hc, hd, Option.bind_some, Option.map_none]
            exact four_bad R [x, y, z] 3 (by omega) rfl (by simp) (fun i h => match i, h with
              | 0, _ => ha
              | 1, _ => hb
              | 2, _ => hc
              | k + 3, h => absurd h (by omega)) hd
          | some u =>
            simp only [fourM, ha, hb, hc, hd, Option.bind_some, Option.map_some]
            exact four_yes R [x, y, z, u] rfl (by simp) (fun i h => match i, h with
              | 0, _ => ha
              | 1, _ => hb
              | 2, _ => hc
              | 3, _ => hd
              | k + 4, h => absurd h (by omega))

end Go.Proofs.YtcdeikhfmllkdaaGreatDoor

/- The walk of json's unicode. -/
namespace Go.Proofs.YtcdeikhfmllkdaaGreatDoor
open Go.RowKit
set_option linter.unusedVariables false

theorem fourM_lt {s : Bytes} {m : Nat} {t : Bytes} (h : fourM s = some (m, t)) : m < 65536 := by
  unfold fourM at h
  split at h
  · rename_i a b c d t'
    cases ha : hexV a with
    | none => rw [ha] at h; cases h
    | some x =>
      cases hb : hexV b with
      | none => rw [ha, hb] at h; cases h
      | some y =>
        cases hc : hexV c with
        | none => rw [ha, hb, hc] at h; cases h
        | some z =>
          cases hd : hexV d with
          | none => rw [ha, hb, hc, hd] at h; cases h
          | some u =>
            rw [ha, hb, hc, hd] at h
            simp only [Option.bind_some, Option.map_some, Option.some.injEq, Prod.mk.injEq] at h
            rw [← h.1]
            have := (hex_at a x ha).1
            have := (hex_at b y hb).1
            have := (hex_at c z hc).1
            have := (hex_at d u hd).1
            simp only [hexN, List.foldl]
            omega
  · cases h

/-- A code point that \\u tells, perhaps by two halves. -/
def uniM (s : Bytes) : Option (Nat × Bytes) :=
  match fourM s with
  | none => none
  | some (c, t) =>
    if c < 55296 ∨ 57344 ≤ c then some (c, t)
    else if c < 56320 ∧ Lib.hasPrefix t [92, 117] = true then
      match fourM (t.drop 2) with
      | none => none
      | some (d, u) => if 56320 ≤ d ∧ d < 57344 then some (65536 + (c - 55296) * 1024 + (d - 56320), u) else none
    else none

theorem hasPrefix_len {t : Bytes} (h : Lib.hasPrefix t [92, 117] = true) : 2 ≤ t.length := by
  match t with
  | [] => simp [Lib.hasPrefix] at h
  | [a] => simp [Lib.hasPrefix] at h
  | a :: b :: t => simp

set_option maxRecDepth 100000 in
set_option maxHeartbeats 1000000 in
theorem unicode_any {w : World} {q : Nat} {s : Bytes} {V : Value} {n : Int} (R : Rd w q s V n) :
    Calls Tryz.prog 195 #[.pointer (some ⟨q, 0, none⟩)] w fun e w' => match uniM s with
      | some (m, t) => e = .returned (.int .i32 m) ∧ Rd w' q t V n ∧ Turn (fun k => k = q) w w'
      | none => e = faultOf 4 ∧ Turn (fun k => k = q) w w' := by
  have HR := Lib.hid R
  clear R
  cases h4 : fourM s with
  | none =>
    simp only [uniM, h4]
    go_enter Tryz.func195, Tryz.ntmps195
    go_wp2_with fail
    refine (four_any HR.out).mono ?_
    rw [h4]
    rintro e w1 ⟨rfl, rfl⟩
    simp only [faultOf]
    go_wp2
    exact ⟨rfl, rfl, Turn.refl _ _⟩
  | some z =>
    obtain ⟨c, t⟩ := z
    have hc := fourM_lt h4
    by_cases h1 : c < 55296 ∨ 57344 ≤ c
    · simp only [uniM, h4, if_pos h1]
      rcases (show c < 55296 ∨ (¬ c < 55296 ∧ 57344 ≤ c) from by omega) with h2 | ⟨h2, h3⟩
      · have e1 : decide ((c : Int) < 55296) = true := decide_eq_true (by omega)
        go_enter Tryz.func195, Tryz.ntmps195
        go_wp2_with fail
        refine (four_any HR.out).mono ?_
        rw [h4]
        rintro e w1 ⟨rfl, R1, t1⟩
        go_wp2
        go_ret
        exact ⟨rfl, R1, t1⟩
      · have e1 : decide ((c : Int) < 55296) = false := decide_eq_false (by omega)
        have e2 : decide ((57344 : Int) ≤ (c : Int)) = true := decide_eq_true (by omega)
        go_enter Tryz.func195, Tryz.ntmps195
        go_wp2_with fail
        refine (four_any HR.out).mono ?_
        rw [h4]
        rintro e w1 ⟨rfl, R1, t1⟩
        go_wp2
        go_ret
        exact ⟨rfl, R1, t1⟩
    · have e1 : decide ((c : Int) < 55296) = false := decide_eq_false (by omega)
      have e2 : decide ((57344 : Int) ≤ (c : Int)) = false := decide_eq_false (by omega)
      by_cases h2 : c < 56320 ∧ Lib.hasPrefix t [92, 117] = true
      · obtain ⟨h3, hp⟩ := h2
        have e3 : decide ((c : Int) < 56320) = true := decide_eq_true (by omega)
        have HP := Lib.hid hp
        cases h5 : fourM (t.drop 2) with
        | none =>
          simp only [uniM, h4, if_neg h1, if_pos (And.intro h3 hp), h5]
          clear hp
          go_enter Tryz.func195, Tryz.ntmps195
          go_wp2_with fail
          refine (four_any HR.out).mono ?_
          rw [h4]
          rintro e w1 ⟨rfl, R1, t1⟩
          have c0 := R1.c0
          have f0 := R1.f 0
          have hfit := R1.fits
          have HR1 := Lib.hid R1
          have HT1 := Lib.hid t1
          obtain ⟨T, hT⟩ : ∃ T, str t = T := ⟨_, rfl⟩
          have hTs : T.size = t.length := by rw [← hT, str_size]
          have hTl : Lib.hasPrefix T.data.toList (⟨#[92, 117]⟩ : ByteArray).data.toList = Lib.hasPrefix t [92, 117] := by rw [← hT, str_toList]
          rw [hT] at c0
          have HTT := Lib.hid hT
          have HTL := Lib.hid hTl
          clear R1 t1 hT hTl
          have ht2 : 2 ≤ t.length := hasPrefix_len HP.out
          have hz2 : (2 : Int) ≤ (T.size : Int) := by omega
          go_wp2_with fail
          refine (Any.strings_HasPrefix Tryz.laysHasPrefix T ⟨#[92, 117]⟩ _).mono ?_
          rintro e w2 ⟨rfl, rfl⟩
          rw [HTL.out, HP.out]
          go_wp2_with fail
          refine (need_yes 4 _).mono ?_
          rintro e w2 ⟨rfl, rfl⟩
          have hx2 : T.extract 2 t.length = str (t.drop 2) := by
            rw [← hTs, ← HTT.out]
            apply ByteArray.ext
            simp [str, ByteArray.size, List.take_of_length_le]
          have HX2 := Lib.hid hx2
          clear hx2
          go_wp2_with fail
          rw [HX2.out]
          refine (four_any (HR1.out.set (s' := t.drop 2) (by rw [List.length_drop]; omega))).mono ?_
          rw [h5]
          rintro e w3 ⟨rfl, rfl⟩
          simp only [faultOf]
          go_wp2
          exact ⟨rfl, rfl, HT1.out.trans (turn_set _ _ _ _ _ rfl)⟩
        | some z =>
          obtain ⟨d, u⟩ := z
          have hd := fourM_lt h5
          by_cases hdr : 56320 ≤ d ∧ d < 57344
          · simp only [uniM, h4, if_neg h1, if_pos (And.intro h3 hp), h5, if_pos hdr]
            clear hp
            obtain ⟨hd0, hd1⟩ := hdr
            have e4 : decide ((56320 : Int) ≤ (d : Int)) = true := decide_eq_true (by omega)
            have e5 : decide ((d : Int) < 57344) = true := decide_eq_true (by omega)
            go_enter Tryz.func195, Tryz.ntmps195
            go_wp2_with fail
            refine (four_any HR.out).mono ?_
            rw [h4]
            rintro e w1 ⟨rfl, R1, t1⟩
            have c0 := R1.c0
            have f0 := R1.f 0
            have hfit := R1.fits
            have HR1 := Lib.hid R1
            have HT1 := Lib.hid t1
            obtain ⟨T, hT⟩ : ∃ T, str t = T := ⟨_, rfl⟩
            have hTs : T.size = t.length := by rw [← hT, str_size]
            have hTl : Lib.hasPrefix T.data.toList (⟨#[92, 117]⟩ : ByteArray).data.toList = Lib.hasPrefix t [92, 117] := by rw [← hT, str_toList]
            rw [hT] at c0
            have HTT := Lib.hid hT
            have HTL := Lib.hid hTl
            clear R1 t1 hT hTl
            have ht2 : 2 ≤ t.length := hasPrefix_len HP.out
            have hz2 : (2 : Int) ≤ (T.size : Int) := by omega
            go_wp2_with fail
            refine (Any.strings_HasPrefix Tryz.laysHasPrefix T ⟨#[92, 117]⟩ _).mono ?_
            rintro e w2 ⟨rfl, rfl⟩
            rw [HTL.out, HP.out]
            go_wp2_with fail
            refine (need_yes 4 _).mono ?_
            rintro e w2 ⟨rfl, rfl⟩
            have hx2 : T.extract 2 t.length = str (t.drop 2) := by
              rw [← hTs, ← HTT.out]
              apply ByteArray.ext
              simp [str, ByteArray.size, List.take_of_length_le]
            have HX2 := Lib.hid hx2
            clear hx2
            go_wp2_with fail
            rw [HX2.out]
            refine (four_any (HR1.out.set (s' := t.drop 2) (by rw [List.length_drop]; omega))).mono ?_
            rw [h5]
            rintro e w3 ⟨rfl, R3, t3⟩
            have HR3 := Lib.hid R3
            have HT3 := Lib.hid ((HT1.out.trans (turn_set _ _ _ _ _ rfl)).trans t3)
            clear R3 t3
            go_wp2_with fail
            refine (need_yes 4 _).mono ?_
            rintro e w4 ⟨rfl, rfl⟩
            go_wp2
            go_ret
            have hF : ((65536 + (c - 55296) * 1024 + (d - 56320) : Nat) : Int) = 65536 + ((c : Int) - 55296) * 1024 + (d : Int) - 56320 := by omega
            rw [hF]
            exact ⟨rfl, HR3.out, HT3.out⟩
          · simp only [uniM, h4, if_neg h1, if_pos (And.intro h3 hp), h5, if_neg hdr]
            clear hp
            by_cases hd0 : 56320 ≤ d
            · have e4 : decide ((56320 : Int) ≤ (d : Int)) = true := decide_eq_true (by omega)
              have e5 : decide ((d : Int) < 57344) = false := decide_eq_false (by omega)
              go_enter Tryz.func195, Tryz.ntmps195
              go_wp2_with fail
              refine (four_any HR.out).mono ?_
              rw [h4]
              rintro e w1 ⟨rfl, R1, t1⟩
              have c0 := R1.c0
              have f0 := R1.f 0
              have hfit := R1.fits
              have HR1 := Lib.hid R1
              have HT1 := Lib.hid t1
              obtain ⟨T, hT⟩ : ∃ T, str t = T := ⟨_, rfl⟩
              have hTs : T.size = t.length := by rw [← hT, str_size]
              have hTl : Lib.hasPrefix T.data.toList (⟨#[92, 117]⟩ : ByteArray).data.toList = Lib.hasPrefix t [92, 117] := by rw [← hT, str_toList]
              rw [hT] at c0
              have HTT := Lib.hid hT
              have HTL := Lib.hid hTl
              clear R1 t1 hT hTl
              have ht2 : 2 ≤ t.length := hasPrefix_len HP.out
              have hz2 : (2 : Int) ≤ (T.size : Int) := by omega
              go_wp2_with fail
              refine (Any.strings_HasPrefix Tryz.laysHasPrefix T ⟨#[92, 117]⟩ _).mono ?_
              rintro e w2 ⟨rfl, rfl⟩
              rw [HTL.out, HP.out]
              go_wp2_with fail
              refine (need_yes 4 _).mono ?_
              rintro e w2 ⟨rfl, rfl⟩
              have hx2 : T.extract 2 t.length = str (t.drop 2) := by
                rw [← hTs, ← HTT.out]
                apply ByteArray.ext
                simp [str, ByteArray.size, List.take_of_length_le]
              have HX2 := Lib.hid hx2
              clear hx2
              go_wp2_with fail
              rw [HX2.out]
              refine (four_any (HR1.out.set (s' := t.drop 2) (by rw [List.length_drop]; omega))).mono ?_
              rw [h5]
              rintro e w3 ⟨rfl, R3, t3⟩
              have HR3 := Lib.hid R3
              have HT3 := Lib.hid ((HT1.out.trans (turn_set _ _ _ _ _ rfl)).trans t3)
              clear R3 t3
              go_wp2_with fail
              refine (need_no 4 _).mono ?_
              rintro e w4 ⟨rfl, rfl⟩
              go_wp2
              exact ⟨rfl, rfl, HT3.out⟩
            · have e4 : decide ((56320 : Int) ≤ (d : Int)) = false := decide_eq_false (by omega)
              go_enter Tryz.func195, Tryz.ntmps195
              go_wp2_with fail
              refine (four_any HR.out).mono ?_
              rw [h4]
              rintro e w1 ⟨rfl, R1, t1⟩
              have c0 := R1.c0
              have f0 := R1.f 0
              have hfit := R1.fits
              have HR1 := Lib.hid R1
              have HT1 := Lib.hid t1
              obtain ⟨T, hT⟩ : ∃ T, str t = T := ⟨_, rfl⟩
              have hTs : T.size = t.length := by rw [← hT, str_size]
              have hTl : Lib.hasPrefix T.data.toList (⟨#[92, 117]⟩ : ByteArray).data.toList = Lib.hasPrefix t [92, 117] := by rw [← hT, str_toList]
              rw [hT] at c0
              have HTT := Lib.hid hT
              have HTL := Lib.hid hTl
              clear R1 t1 hT hTl
              have ht2 : 2 ≤ t.length := hasPrefix_len HP.out
              have hz2 : (2 : Int) ≤ (T.size : Int) := by omega
              go_wp2_with fail
              refine (Any.strings_HasPrefix Tryz.laysHasPrefix T ⟨#[92, 117]⟩ _).mono ?_
              rintro e w2 ⟨rfl, rfl⟩
              rw [HTL.out, HP.out]
              go_wp2_with fail
              refine (need_yes 4 _).mono ?_
              rintro e w2 ⟨rfl, rfl⟩
              have hx2 : T.extract 2 t.length = str (t.drop 2) := by
                rw [← hTs, ← HTT.out]
                apply ByteArray.ext
                simp [str, ByteArray.size, List.take_of_length_le]
              have HX2 := Lib.hid hx2
              clear hx2
              go_wp2_with fail
              rw [HX2.out]
              refine (four_any (HR1.out.set (s' := t.drop 2) (by rw [List.length_drop]; omega))).mono ?_
              rw [h5]
              rintro e w3 ⟨rfl, R3, t3⟩
              have HR3 := Lib.hid R3
              have HT3 := Lib.hid ((HT1.out.trans (turn_set _ _ _ _ _ rfl)).trans t3)
              clear R3 t3
              go_wp2_with fail
              refine (need_no 4 _).mono ?_
              rintro e w4 ⟨rfl, rfl⟩
              go_wp2
              exact ⟨rfl, rfl, HT3.out⟩
      · simp only [uniM, h4, if_neg h1, if_neg h2]
        by_cases h3 : c < 56320
        · have hp : Lib.hasPrefix t [92, 117] = false := by
            cases h : Lib.hasPrefix t [92, 117] with
            | false => rfl
            | true => exact absurd ⟨h3, h⟩ h2
          have HP := Lib.hid hp
          have e3 : decide ((c : Int) < 56320) = true := decide_eq_true (by omega)
          clear hp
          go_enter Tryz.func195, Tryz.ntmps195
          go_wp2_with fail
          refine (four_any HR.out).mono ?_
          rw [h4]
          rintro e w1 ⟨rfl, R1, t1⟩
          have c0 := R1.c0
          have f0 := R1.f 0
          have hfit := R1.fits
          have HR1 := Lib.hid R1
          have HT1 := Lib.hid t1
          obtain ⟨T, hT⟩ : ∃ T, str t = T := ⟨_, rfl⟩
          have hTs : T.size = t.length := by rw [← hT, str_size]
          have hTl : Lib.hasPrefix T.data.toList (⟨#[92, 117]⟩ : ByteArray).data.toList = Lib.hasPrefix t [92, 117] := by rw [← hT, str_toList]
          rw [hT] at c0
          have HTT := Lib.hid hT
          have HTL := Lib.hid hTl
          clear R1 t1 hT hTl
          go_wp2_with fail
          refine (Any.strings_HasPrefix Tryz.laysHasPrefix T ⟨#[92, 117]⟩ _).mono ?_
          rintro e w2 ⟨rfl, rfl⟩
          rw [HTL.out, HP.out]
          go_wp2_with fail
          refine (need_no 4 _).mono ?_
          rintro e w2 ⟨rfl, rfl⟩
          go_wp2
          exact ⟨rfl, rfl, HT1.out⟩
        · have e3 : decide ((c : Int) < 56320) = false := decide_eq_false (by omega)
          go_enter Tryz.func195, Tryz.ntmps195
          go_wp2_with fail
          refine (four_any HR.out).mono ?_
          rw [h4]
          rintro e w1 ⟨rfl, R1, t1⟩
          have c0 := R1.c0
          have f0 := R1.f 0
          have hfit := R1.fits
          have HR1 := Lib.hid R1
          have HT1 := Lib.hid t1
          obtain ⟨T, hT⟩ : ∃ T, str t = T := ⟨_, rfl⟩
          have hTs : T.size = t.length := by rw [← hT, str_size]
          have hTl : Lib.hasPrefix T.data.toList (⟨#[92, 117]⟩ : ByteArray).data.toList = Lib.hasPrefix t [92, 117] := by rw [← hT, str_toList]
          rw [hT] at c0
          have HTT := Lib.hid hT
          have HTL := Lib.hid hTl
          clear R1 t1 hT hTl
          go_wp2_with fail
          refine (need_no 4 _).mono ?_
          rintro e w2 ⟨rfl, rfl⟩
          go_wp2
          exact ⟨rfl, rfl, HT1.out⟩
end Go.Proofs.YtcdeikhfmllkdaaGreatDoor

/- What json writes into a builder of its own. -/
namespace Go.Proofs.YtcdeikhfmllkdaaGreatDoor
open Go.RowKit
set_option linter.unusedVariables false

theorem extraWB : Builder.Extra Tryz.prog Tryz.laysWriteByte_ren where
  sizeBuilder := by kernel_rfl
  liesBuilder := by kernel_rfl
  t5 := Tryz.underlying5
  a5 := Tryz.isAgg5
  z5 := Tryz.sizeOf5
  v5 := Tryz.zeroValue5
  infoByte := by kernel_rfl
  cellsByte := by kernel_rfl
  sizeByte := by kernel_rfl
  neB5 := by decide

theorem extraWS : Builder.Extra Tryz.prog Tryz.laysWriteString_ren where
  sizeBuilder := by kernel_rfl
  liesBuilder := by kernel_rfl
  t5 := Tryz.underlying5
  a5 := Tryz.isAgg5
  z5 := Tryz.sizeOf5
  v5 := Tryz.zeroValue5
  infoByte := by kernel_rfl
  cellsByte := by kernel_rfl
  sizeByte := by kernel_rfl
  neB5 := by decide

theorem extraWR : Builder.Extra Tryz.prog Tryz.laysWriteRune_ren where
  sizeBuilder := by kernel_rfl
  liesBuilder := by kernel_rfl
  t5 := Tryz.underlying5
  a5 := Tryz.isAgg5
  z5 := Tryz.sizeOf5
  v5 := Tryz.zeroValue5
  infoByte := by kernel_rfl
  cellsByte := by kernel_rfl
  sizeByte := by kernel_rfl
  neB5 := by decide

theorem extraST : Builder.Extra Tryz.prog Tryz.laysString_ren where
  sizeBuilder := by kernel_rfl
  liesBuilder := by kernel_rfl
  t5 := Tryz.underlying5
  a5 := Tryz.isAgg5
  z5 := Tryz.sizeOf5
  v5 := Tryz.zeroValue5
  infoByte := by kernel_rfl
  cellsByte := by kernel_rfl
  sizeByte := by kernel_rfl
  neB5 := by decide

/-- A builder that holds some bytes. -/
def Bd (w : World) (B b : Nat) (l : Bytes) : Prop := Lib.IsBuilderF 112 5 B b (Lib.byteCells l) w

theorem writeByte_any {w : World} {B b : Nat} {l : Bytes} (h : Bd w B b l) (c : UInt8) (hl : l.length + 1 ≤ 140737488355328) (hB : B ≤ w.heap.size) :
    Calls Tryz.prog 68 #[.pointer (some ⟨b, 0, none⟩), .int .u8 (c.toNat : Int)] w fun e w' => e = .returned .nilIface ∧ Bd w' B b (l ++ [c]) ∧ Below B w w' ∧ Lib.OthersKept 5 (some b) w w' := by
  refine (Any.Builder_WriteByte_k Tryz.laysWriteByte extraWB B b (Lib.byteCells l) (c.toNat : Int) w h (by simpa [Lib.byteCells] using hl) hB).mono ?_
  rintro e w' ⟨rfl, h1, h2, h3⟩
  refine ⟨rfl, .inr ?_, h2, h3⟩
  have e : Lib.byteCells (l ++ [c]) = Lib.byteCells l ++ [.int .u8 (c.toNat : Int)] := by simp [Lib.byteCells]
  rw [e]
  exact h1

theorem writeString_any {w : World} {B b : Nat} {l : Bytes} (h : Bd w B b l) (x : Bytes) (hl : l.length + x.length ≤ 140737488355328) (hB : B ≤ w.heap.size) :
    Calls Tryz.prog 107 #[.pointer (some ⟨b, 0, none⟩), .string (str x)] w fun e w' => (∃ v, e = .returned v) ∧ Bd w' B b (l ++ x) ∧ Below B w w' ∧ Lib.OthersKept 5 (some b) w w' := by
  refine (Any.Builder_WriteString_k Tryz.laysWriteString extraWS B b (Lib.byteCells l) (str x) w h (by rw [str_size]; simpa [Lib.byteCells] using hl) hB).mono ?_
  rintro e w' ⟨rfl, h1, h2, h3⟩
  refine ⟨⟨_, rfl⟩, .inr ?_, h2, h3⟩
  have e : Lib.byteCells (l ++ x) = Lib.byteCells l ++ Lib.strCells (str x) := by simp [Lib.byteCells, Lib.strCells, str_toList]
  rw [e]
  exact h1

theorem string_any {w : World} {B b : Nat} {l : Bytes} (h : Bd w B b l) (hB : B ≤ w.heap.size) :
    Calls Tryz.prog 69 #[.pointer (some ⟨b, 0, none⟩)] w fun e w' => e = .returned (.string (str l)) ∧ Bd w' B b l ∧ Below B w w' ∧ Lib.OthersKept 5 (some b) w w' :=
  Any.Builder_String_any_k Tryz.laysString extraST B b l w h hB

theorem encode_len (r : Int) : (Lib.encodeRune r).length ≤ 4 := by
  unfold Lib.encodeRune Lib.encodeRuneZ
  rw [List.length_map]
  repeat' split
  all_goals simp

theorem writeRune_any {w : World} {B b : Nat} {l : Bytes} (h : Bd w B b l) (m : Nat) (hm : m < 2147483648) (hl : l.length + 4 ≤ 140737488355328) (hB : B ≤ w.heap.size) :
    Calls Tryz.prog 194 #[.pointer (some ⟨b, 0, none⟩), .int .i32 m] w fun e w' => (∃ v, e = .returned v) ∧ Bd w' B b (l ++ Lib.encodeRune m) ∧ Below B w w' ∧ Lib.OthersKept 5 (some b) w w' := by
  refine (Any.Builder_WriteRune_k Tryz.laysWriteRune extraWR B b (Lib.byteCells l) (m : Int) (by omega) (by omega) w h (by simpa [Lib.byteCells] using hl) hB).mono ?_
  rintro e w' ⟨rfl, h1, h2, h3⟩
  refine ⟨⟨_, rfl⟩, .inr ?_, h2, h3⟩
  have e : Lib.byteCells (l ++ Lib.encodeRune m) = Lib.byteCells l ++ Lib.runeCells m := by
    rw [← Lib.byteCells_encodeRune]
    simp [Lib.byteCells]
  rw [e]
  exact h1
end Go.Proofs.YtcdeikhfmllkdaaGreatDoor
