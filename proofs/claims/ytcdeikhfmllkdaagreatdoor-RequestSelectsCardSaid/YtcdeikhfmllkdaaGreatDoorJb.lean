import Derived.Test.YtcdeikhfmllkdaaGreatDoorJa
import Derived.Deep.LoopGhost
import Derived.Deep.CutBlock
import Derived.Outline
import Derived.Lib.TrimU
import Derived.Shelf.Unicode.DecodeLastEight
/- The walk of json's escape. -/
namespace Go.Proofs.YtcdeikhfmllkdaaGreatDoor
open Go.RowKit
set_option linter.unusedVariables false

theorem bdAt_kept {w w' : World} {B b : Nat} {p : Value} {bs : List Value} (h : Lib.BuilderAtF 112 5 B b p bs w) (t : ∀ k, B ≤ k → k < w.heap.size → w'.heap[k]? = w.heap[k]?) : Lib.BuilderAtF 112 5 B b p bs w' := by
  obtain ⟨hB, v, hb, hown, hne⟩ := h
  refine ⟨hB, v, (t b hB (Array.getElem?_eq_some_iff.1 hb).1).trans hb, ?_, hne⟩
  obtain ⟨hl, h⟩ := hown
  refine ⟨hl, ?_⟩
  rcases h with h | ⟨g, cap, cur, fz, h1, h2, h3, h4⟩
  · exact .inl h
  · exact .inr ⟨g, cap, cur, fz, h1, h2, (t g h2 (Array.getElem?_eq_some_iff.1 h3).1).trans h3, h4⟩
theorem Bd.kept {w w' : World} {B b : Nat} {l : Bytes} (h : Bd w B b l) (t : ∀ k, B ≤ k → k < w.heap.size → w'.heap[k]? = w.heap[k]?) : Bd w' B b l :=
  h.elim (fun x => .inl (bdAt_kept x t)) (fun x => .inr (bdAt_kept x t))
theorem Bd.turn {w w' : World} {B b q : Nat} {l : Bytes} (h : Bd w B b l) (t : Turn (fun k => k = q) w w') (hq : q < B) : Bd w' B b l :=
  h.kept (fun k hk hk2 => t.block k hk2 (by omega))
theorem Rd.belowB {w w' : World} {q B : Nat} {s : Bytes} {V : Value} {n : Int} (h : Rd w q s V n) (b : Below B w w') (hq : q < B) : Rd w' q s V n := ⟨(b.block q hq).trans h.row, h.fits⟩

/-- What stands behind a backslash: what it stands for, and what is left; none: it is none. -/
def escM (s : Bytes) : Option (Bytes × Bytes) :=
  match s with
  | [] => none
  | c :: t =>
    if c = 34 ∨ c = 92 ∨ c = 47 then some ([c], t)
    else if c = 98 then some ([8], t) else if c = 102 then some ([12], t) else if c = 110 then some ([10], t) else if c = 114 then some ([13], t) else if c = 116 then some ([9], t)
    else if c = 117 then (uniM t).map (fun z => (Lib.encodeRune z.1, z.2)) else none

/-- What it may turn: the reader's block and the builder's. -/
def EsS (q B : Nat) (k : Nat) : Prop := k = q ∨ B ≤ k

theorem turn_belowB {w w' : World} {q B : Nat} (b : Below B w w') : Turn (EsS q B) w w' :=
  ⟨b.os, b.tape, b.output, b.size, fun k hk hn => b.block k (by unfold EsS at hn; omega)⟩

theorem escape_none {w : World} {q : Nat} {V : Value} {n : Int} (R : Rd w q [] V n) (b : Nat) :
    Calls Tryz.prog 157 #[.pointer (some ⟨q, 0, none⟩), .pointer (some ⟨b, 0, none⟩)] w fun e w' => e = faultOf 4 ∧ w = w' := by
  have c0 := R.c0
  have hE : (str []).toList.isEmpty = true := by rw [str_empty]; rfl
  clear R
  go_enter Tryz.func157, Tryz.ntmps157
  go_wp2_with fail
  refine (need_no 4 _).mono ?_
  rintro e w1 ⟨rfl, rfl⟩
  go_wp2
  exact ⟨rfl, rfl, rfl⟩

set_option maxRecDepth 100000 in
set_option maxHeartbeats 1000000 in
theorem escape_34 {w : World} {q : Nat} {t : Bytes} {V : Value} {n : Int} (R : Rd w q ((34 : UInt8) :: t) V n) {B b : Nat} {l : Bytes} (h : Bd w B b l) (hq : q < B) (hB : B ≤ w.heap.size) (hl : l.length + 4 ≤ 140737488355328) :
    Calls Tryz.prog 157 #[.pointer (some ⟨q, 0, none⟩), .pointer (some ⟨b, 0, none⟩)] w fun e w' => (∃ v, e = .returned v) ∧ Rd w' q t V n ∧ Bd w' B b (l ++ [(34 : UInt8)]) ∧ Turn (EsS q B) w w' := by
  have c0 := R.c0
  have f0 := R.f 0
  have hfit := R.fits
  simp only [List.length_cons] at hfit
  obtain ⟨hE, hz, h0, hx⟩ := cons_facts 34 t
  obtain ⟨S, hS⟩ : ∃ S, str ((34 : UInt8) :: t) = S := ⟨_, rfl⟩
  rw [hS] at c0 hE hz h0 hx
  have hz0 : 0 < S.size := by omega
  have hz1 : (1 : Int) ≤ (S.size : Int) := by omega
  have h00 := h0 hz0
  have HX := Lib.hid hx
  have HR := Lib.hid R
  have HD := Lib.hid h
  clear hS h0 hx hz R h
  go_enter Tryz.func157, Tryz.ntmps157
  go_wp2_with fail
  refine (need_yes 4 _).mono ?_
  rintro e w1 ⟨rfl, rfl⟩
  go_wp2_with fail
  rw [HX.out]
  have R1 := HR.out.set (s' := t) (by omega)
  have t1 := turn_set w q 0 (.string (str t)) (fun k => k = q) rfl
  have D1 := HD.out.turn t1 hq
  refine (writeByte_any D1 (34 : UInt8) (by omega) (by rw [show (w.setCell ⟨q, 0, none⟩ (.string (str t))).heap.size = w.heap.size from by simp [World.setCell]]; exact hB)).mono ?_
  rintro e w2 ⟨rfl, D2, b2, o2⟩
  have HR2 := Lib.hid (R1.belowB b2 hq)
  have HD2 := Lib.hid D2
  have HT2 := Lib.hid ((t1.mono (S' := EsS q B) (fun k _ e => .inl e)).trans (turn_belowB b2))
  clear R1 t1 D1 D2 b2 o2
  go_wp2
  exact bodyPost_end (v := .tuple #[]) (by simp [results, Tryz.results157]) rfl ⟨⟨_, rfl⟩, HR2.out, HD2.out, HT2.out⟩

set_option maxRecDepth 100000 in
set_option maxHeartbeats 1000000 in
theorem escape_92 {w : World} {q : Nat} {t : Bytes} {V : Value} {n : Int} (R : Rd w q ((92 : UInt8) :: t) V n) {B b : Nat} {l : Bytes} (h : Bd w B b l) (hq : q < B) (hB : B ≤ w.heap.size) (hl : l.length + 4 ≤ 140737488355328) :
    Calls Tryz.prog 157 #[.pointer (some ⟨q, 0, none⟩), .pointer (some ⟨b, 0, none⟩)] w fun e w' => (∃ v, e = .returned v) ∧ Rd w' q t V n ∧ Bd w' B b (l ++ [(92 : UInt8)]) ∧ Turn (EsS q B) w w' := by
  have c0 := R.c0
  have f0 := R.f 0
  have hfit := R.fits
  simp only [List.length_cons] at hfit
  obtain ⟨hE, hz, h0, hx⟩ := cons_facts 92 t
  obtain ⟨S, hS⟩ : ∃ S, str ((92 : UInt8) :: t) = S := ⟨_, rfl⟩
  rw [hS] at c0 hE hz h0 hx
  have hz0 : 0 < S.size := by omega
  have hz1 : (1 : Int) ≤ (S.size : Int) := by omega
  have h00 := h0 hz0
  have HX := Lib.hid hx
  have HR := Lib.hid R
  have HD := Lib.hid h
  clear hS h0 hx hz R h
  go_enter Tryz.func157, Tryz.ntmps157
  go_wp2_with fail
  refine (need_yes 4 _).mono ?_
  rintro e w1 ⟨rfl, rfl⟩
  go_wp2_with fail
  rw [HX.out]
  have R1 := HR.out.set (s' := t) (by omega)
  have t1 := turn_set w q 0 (.string (str t)) (fun k => k = q) rfl
  have D1 := HD.out.turn t1 hq
  refine (writeByte_any D1 (92 : UInt8) (by omega) (by rw [show (w.setCell ⟨q, 0, none⟩ (.string (str t))).heap.size = w.heap.size from by simp [World.setCell]]; exact hB)).mono ?_
  rintro e w2 ⟨rfl, D2, b2, o2⟩
  have HR2 := Lib.hid (R1.belowB b2 hq)
  have HD2 := Lib.hid D2
  have HT2 := Lib.hid ((t1.mono (S' := EsS q B) (fun k _ e => .inl e)).trans (turn_belowB b2))
  clear R1 t1 D1 D2 b2 o2
  go_wp2
  exact bodyPost_end (v := .tuple #[]) (by simp [results, Tryz.results157]) rfl ⟨⟨_, rfl⟩, HR2.out, HD2.out, HT2.out⟩

set_option maxRecDepth 100000 in
set_option maxHeartbeats 1000000 in
theorem escape_47 {w : World} {q : Nat} {t : Bytes} {V : Value} {n : Int} (R : Rd w q ((47 : UInt8) :: t) V n) {B b : Nat} {l : Bytes} (h : Bd w B b l) (hq : q < B) (hB : B ≤ w.heap.size) (hl : l.length + 4 ≤ 140737488355328) :
    Calls Tryz.prog 157 #[.pointer (some ⟨q, 0, none⟩), .pointer (some ⟨b, 0, none⟩)] w fun e w' => (∃ v, e = .returned v) ∧ Rd w' q t V n ∧ Bd w' B b (l ++ [(47 : UInt8)]) ∧ Turn (EsS q B) w w' := by
  have c0 := R.c0
  have f0 := R.f 0
  have hfit := R.fits
  simp only [List.length_cons] at hfit
  obtain ⟨hE, hz, h0, hx⟩ := cons_facts 47 t
  obtain ⟨S, hS⟩ : ∃ S, str ((47 : UInt8) :: t) = S := ⟨_, rfl⟩
  rw [hS] at c0 hE hz h0 hx
  have hz0 : 0 < S.size := by omega
  have hz1 : (1 : Int) ≤ (S.size : Int) := by omega
  have h00 := h0 hz0
  have HX := Lib.hid hx
  have HR := Lib.hid R
  have HD := Lib.hid h
  clear hS h0 hx hz R h
  go_enter Tryz.func157, Tryz.ntmps157
  go_wp2_with fail
  refine (need_yes 4 _).mono ?_
  rintro e w1 ⟨rfl, rfl⟩
  go_wp2_with fail
  rw [HX.out]
  have R1 := HR.out.set (s' := t) (by omega)
  have t1 := turn_set w q 0 (.string (str t)) (fun k => k = q) rfl
  have D1 := HD.out.turn t1 hq
  refine (writeByte_any D1 (47 : UInt8) (by omega) (by rw [show (w.setCell ⟨q, 0, none⟩ (.string (str t))).heap.size = w.heap.size from by simp [World.setCell]]; exact hB)).mono ?_
  rintro e w2 ⟨rfl, D2, b2, o2⟩
  have HR2 := Lib.hid (R1.belowB b2 hq)
  have HD2 := Lib.hid D2
  have HT2 := Lib.hid ((t1.mono (S' := EsS q B) (fun k _ e => .inl e)).trans (turn_belowB b2))
  clear R1 t1 D1 D2 b2 o2
  go_wp2
  exact bodyPost_end (v := .tuple #[]) (by simp [results, Tryz.results157]) rfl ⟨⟨_, rfl⟩, HR2.out, HD2.out, HT2.out⟩

set_option maxRecDepth 100000 in
set_option maxHeartbeats 1000000 in
theorem escape_98 {w : World} {q : Nat} {t : Bytes} {V : Value} {n : Int} (R : Rd w q ((98 : UInt8) :: t) V n) {B b : Nat} {l : Bytes} (h : Bd w B b l) (hq : q < B) (hB : B ≤ w.heap.size) (hl : l.length + 4 ≤ 140737488355328) :
    Calls Tryz.prog 157 #[.pointer (some ⟨q, 0, none⟩), .pointer (some ⟨b, 0, none⟩)] w fun e w' => (∃ v, e = .returned v) ∧ Rd w' q t V n ∧ Bd w' B b (l ++ [(8 : UInt8)]) ∧ Turn (EsS q B) w w' := by
  have c0 := R.c0
  have f0 := R.f 0
  have hfit := R.fits
  simp only [List.length_cons] at hfit
  obtain ⟨hE, hz, h0, hx⟩ := cons_facts 98 t
  obtain ⟨S, hS⟩ : ∃ S, str ((98 : UInt8) :: t) = S := ⟨_, rfl⟩
  rw [hS] at c0 hE hz h0 hx
  have hz0 : 0 < S.size := by omega
  have hz1 : (1 : Int) ≤ (S.size : Int) := by omega
  have h00 := h0 hz0
  have HX := Lib.hid hx
  have HR := Lib.hid R
  have HD := Lib.hid h
  clear hS h0 hx hz R h
  go_enter Tryz.func157, Tryz.ntmps157
  go_wp2_with fail
  refine (need_yes 4 _).mono ?_
  rintro e w1 ⟨rfl, rfl⟩
  go_wp2_with fail
  rw [HX.out]
  have R1 := HR.out.set (s' := t) (by omega)
  have t1 := turn_set w q 0 (.string (str t)) (fun k => k = q) rfl
  have D1 := HD.out.turn t1 hq
  refine (writeByte_any D1 (8 : UInt8) (by omega) (by rw [show (w.setCell ⟨q, 0, none⟩ (.string (str t))).heap.size = w.heap.size from by simp [World.setCell]]; exact hB)).mono ?_
  rintro e w2 ⟨rfl, D2, b2, o2⟩
  have HR2 := Lib.hid (R1.belowB b2 hq)
  have HD2 := Lib.hid D2
  have HT2 := Lib.hid ((t1.mono (S' := EsS q B) (fun k _ e => .inl e)).trans (turn_belowB b2))
  clear R1 t1 D1 D2 b2 o2
  go_wp2
  exact bodyPost_end (v := .tuple #[]) (by simp [results, Tryz.results157]) rfl ⟨⟨_, rfl⟩, HR2.out, HD2.out, HT2.out⟩

set_option maxRecDepth 100000 in
set_option maxHeartbeats 1000000 in
theorem escape_102 {w : World} {q : Nat} {t : Bytes} {V : Value} {n : Int} (R : Rd w q ((102 : UInt8) :: t) V n) {B b : Nat} {l : Bytes} (h : Bd w B b l) (hq : q < B) (hB : B ≤ w.heap.size) (hl : l.length + 4 ≤ 140737488355328) :
    Calls Tryz.prog 157 #[.pointer (some ⟨q, 0, none⟩), .pointer (some ⟨b, 0, none⟩)] w fun e w' => (∃ v, e = .returned v) ∧ Rd w' q t V n ∧ Bd w' B b (l ++ [(12 : UInt8)]) ∧ Turn (EsS q B) w w' := by
  have c0 := R.c0
  have f0 := R.f 0
  have hfit := R.fits
  simp only [List.length_cons] at hfit
  obtain ⟨hE, hz, h0, hx⟩ := cons_facts 102 t
  obtain ⟨S, hS⟩ : ∃ S, str ((102 : UInt8) :: t) = S := ⟨_, rfl⟩
  rw [hS] at c0 hE hz h0 hx
  have hz0 : 0 < S.size := by omega
  have hz1 : (1 : Int) ≤ (S.size : Int) := by omega
  have h00 := h0 hz0
  have HX := Lib.hid hx
  have HR := Lib.hid R
  have HD := Lib.hid h
  clear hS h0 hx hz R h
  go_enter Tryz.func157, Tryz.ntmps157
  go_wp2_with fail
  refine (need_yes 4 _).mono ?_
  rintro e w1 ⟨rfl, rfl⟩
  go_wp2_with fail
  rw [HX.out]
  have R1 := HR.out.set (s' := t) (by omega)
  have t1 := turn_set w q 0 (.string (str t)) (fun k => k = q) rfl
  have D1 := HD.out.turn t1 hq
  refine (writeByte_any D1 (12 : UInt8) (by omega) (by rw [show (w.setCell ⟨q, 0, none⟩ (.string (str t))).heap.size = w.heap.size from by simp [World.setCell]]; exact hB)).mono ?_
  rintro e w2 ⟨rfl, D2, b2, o2⟩
  have HR2 := Lib.hid (R1.belowB b2 hq)
  have HD2 := Lib.hid D2
  have HT2 := Lib.hid ((t1.mono (S' := EsS q B) (fun k _ e => .inl e)).trans (turn_belowB b2))
  clear R1 t1 D1 D2 b2 o2
  go_wp2
  exact bodyPost_end (v := .tuple #[]) (by simp [results, Tryz.results157]) rfl ⟨⟨_, rfl⟩, HR2.out, HD2.out, HT2.out⟩

set_option maxRecDepth 100000 in
set_option maxHeartbeats 1000000 in
theorem escape_110 {w : World} {q : Nat} {t : Bytes} {V : Value} {n : Int} (R : Rd w q ((110 : UInt8) :: t) V n) {B b : Nat} {l : Bytes} (h : Bd w B b l) (hq : q < B) (hB : B ≤ w.heap.size) (hl : l.length + 4 ≤ 140737488355328) :
    Calls Tryz.prog 157 #[.pointer (some ⟨q, 0, none⟩), .pointer (some ⟨b, 0, none⟩)] w fun e w' => (∃ v, e = .returned v) ∧ Rd w' q t V n ∧ Bd w' B b (l ++ [(10 : UInt8)]) ∧ Turn (EsS q B) w w' := by
  have c0 := R.c0
  have f0 := R.f 0
  have hfit := R.fits
  simp only [List.length_cons] at hfit
  obtain ⟨hE, hz, h0, hx⟩ := cons_facts 110 t
  obtain ⟨S, hS⟩ : ∃ S, str ((110 : UInt8) :: t) = S := ⟨_, rfl⟩
  rw [hS] at c0 hE hz h0 hx
  have hz0 : 0 < S.size := by omega
  have hz1 : (1 : Int) ≤ (S.size : Int) := by omega
  have h00 := h0 hz0
  have HX := Lib.hid hx
  have HR := Lib.hid R
  have HD := Lib.hid h
  clear hS h0 hx hz R h
  go_enter Tryz.func157, Tryz.ntmps157
  go_wp2_with fail
  refine (need_yes 4 _).mono ?_
  rintro e w1 ⟨rfl, rfl⟩
  go_wp2_with fail
  rw [HX.out]
  have R1 := HR.out.set (s' := t) (by omega)
  have t1 := turn_set w q 0 (.string (str t)) (fun k => k = q) rfl
  have D1 := HD.out.turn t1 hq
  refine (writeByte_any D1 (10 : UInt8) (by omega) (by rw [show (w.setCell ⟨q, 0, none⟩ (.string (str t))).heap.size = w.heap.size from by simp [World.setCell]]; exact hB)).mono ?_
  rintro e w2 ⟨rfl, D2, b2, o2⟩
  have HR2 := Lib.hid (R1.belowB b2 hq)
  have HD2 := Lib.hid D2
  have HT2 := Lib.hid ((t1.mono (S' := EsS q B) (fun k _ e => .inl e)).trans (turn_belowB b2))
  clear R1 t1 D1 D2 b2 o2
  go_wp2
  exact bodyPost_end (v := .tuple #[]) (by simp [results, Tryz.results157]) rfl ⟨⟨_, rfl⟩, HR2.out, HD2.out, HT2.out⟩

set_option maxRecDepth 100000 in
set_option maxHeartbeats 1000000 in
theorem escape_114 {w : World} {q : Nat} {t : Bytes} {V : Value} {n : Int} (R : Rd w q ((114 : UInt8) :: t) V n) {B b : Nat} {l : Bytes} (h : Bd w B b l) (hq : q < B) (hB : B ≤ w.heap.size) (hl : l.length + 4 ≤ 140737488355328) :
    Calls Tryz.prog 157 #[.pointer (some ⟨q, 0, none⟩), .pointer (some ⟨b, 0, none⟩)] w fun e w' => (∃ v, e = .returned v) ∧ Rd w' q t V n ∧ Bd w' B b (l ++ [(13 : UInt8)]) ∧ Turn (EsS q B) w w' := by
  have c0 := R.c0
  have f0 := R.f 0
  have hfit := R.fits
  simp only [List.length_cons] at hfit
  obtain ⟨hE, hz, h0, hx⟩ := cons_facts 114 t
  obtain ⟨S, hS⟩ : ∃ S, str ((114 : UInt8) :: t) = S := ⟨_, rfl⟩
  rw [hS] at c0 hE hz h0 hx
  have hz0 : 0 < S.size := by omega
  have hz1 : (1 : Int) ≤ (S.size : Int) := by omega
  have h00 := h0 hz0
  have HX := Lib.hid hx
  have HR := Lib.hid R
  have HD := Lib.hid h
  clear hS h0 hx hz R h
  go_enter Tryz.func157, Tryz.ntmps157
  go_wp2_with fail
  refine (need_yes 4 _).mono ?_
  rintro e w1 ⟨rfl, rfl⟩
  go_wp2_with fail
  rw [HX.out]
  have R1 := HR.out.set (s' := t) (by omega)
  have t1 := turn_set w q 0 (.string (str t)) (fun k => k = q) rfl
  have D1 := HD.out.turn t1 hq
  refine (writeByte_any D1 (13 : UInt8) (by omega) (by rw [show (w.setCell ⟨q, 0, none⟩ (.string (str t))).heap.size = w.heap.size from by simp [World.setCell]]; exact hB)).mono ?_
  rintro e w2 ⟨rfl, D2, b2, o2⟩
  have HR2 := Lib.hid (R1.belowB b2 hq)
  have HD2 := Lib.hid D2
  have HT2 := Lib.hid ((t1.mono (S' := EsS q B) (fun k _ e => .inl e)).trans (turn_belowB b2))
  clear R1 t1 D1 D2 b2 o2
  go_wp2
  exact bodyPost_end (v := .tuple #[]) (by simp [results, Tryz.results157]) rfl ⟨⟨_, rfl⟩, HR2.out, HD2.out, HT2.out⟩

set_option maxRecDepth 100000 in
set_option maxHeartbeats 1000000 in
theorem escape_116 {w : World} {q : Nat} {t : Bytes} {V : Value} {n : Int} (R : Rd w q ((116 : UInt8) :: t) V n) {B b : Nat} {l : Bytes} (h : Bd w B b l) (hq : q < B) (hB : B ≤ w.heap.size) (hl : l.length + 4 ≤ 140737488355328) :
    Calls Tryz.prog 157 #[.pointer (some ⟨q, 0, none⟩), .pointer (some ⟨b, 0, none⟩)] w fun e w' => (∃ v, e = .returned v) ∧ Rd w' q t V n ∧ Bd w' B b (l ++ [(9 : UInt8)]) ∧ Turn (EsS q B) w w' := by
  have c0 := R.c0
  have f0 := R.f 0
  have hfit := R.fits
  simp only [List.length_cons] at hfit
  obtain ⟨hE, hz, h0, hx⟩ := cons_facts 116 t
  obtain ⟨S, hS⟩ : ∃ S, str ((116 : UInt8) :: t) = S := ⟨_, rfl⟩
  rw [hS] at c0 hE hz h0 hx
  have hz0 : 0 < S.size := by omega
  have hz1 : (1 : Int) ≤ (S.size : Int) := by omega
  have h00 := h0 hz0
  have HX := Lib.hid hx
  have HR := Lib.hid R
  have HD := Lib.hid h
  clear hS h0 hx hz R h
  go_enter Tryz.func157, Tryz.ntmps157
  go_wp2_with fail
  refine (need_yes 4 _).mono ?_
  rintro e w1 ⟨rfl, rfl⟩
  go_wp2_with fail
  rw [HX.out]
  have R1 := HR.out.set (s' := t) (by omega)
  have t1 := turn_set w q 0 (.string (str t)) (fun k => k = q) rfl
  have D1 := HD.out.turn t1 hq
  refine (writeByte_any D1 (9 : UInt8) (by omega) (by rw [show (w.setCell ⟨q, 0, none⟩ (.string (str t))).heap.size = w.heap.size from by simp [World.setCell]]; exact hB)).mono ?_
  rintro e w2 ⟨rfl, D2, b2, o2⟩
  have HR2 := Lib.hid (R1.belowB b2 hq)
  have HD2 := Lib.hid D2
  have HT2 := Lib.hid ((t1.mono (S' := EsS q B) (fun k _ e => .inl e)).trans (turn_belowB b2))
  clear R1 t1 D1 D2 b2 o2
  go_wp2
  exact bodyPost_end (v := .tuple #[]) (by simp [results, Tryz.results157]) rfl ⟨⟨_, rfl⟩, HR2.out, HD2.out, HT2.out⟩

set_option maxRecDepth 100000 in
set_option maxHeartbeats 1000000 in
theorem escape_bad {w : World} {q : Nat} {c : UInt8} {t : Bytes} {V : Value} {n : Int} (R : Rd w q (c :: t) V n) (b : Nat) (hc : c ≠ 34 ∧ c ≠ 92 ∧ c ≠ 47 ∧ c ≠ 98 ∧ c ≠ 102 ∧ c ≠ 110 ∧ c ≠ 114 ∧ c ≠ 116 ∧ c ≠ 117) :
    Calls Tryz.prog 157 #[.pointer (some ⟨q, 0, none⟩), .pointer (some ⟨b, 0, none⟩)] w fun e w' => e = faultOf 4 ∧ Turn (fun k => k = q) w w' := by
  have c0 := R.c0
  have f0 := R.f 0
  have hfit := R.fits
  simp only [List.length_cons] at hfit
  obtain ⟨hE, hz, h0, hx⟩ := cons_facts c t
  obtain ⟨S, hS⟩ : ∃ S, str (c :: t) = S := ⟨_, rfl⟩
  rw [hS] at c0 hE hz h0 hx
  have hz0 : 0 < S.size := by omega
  have hz1 : (1 : Int) ≤ (S.size : Int) := by omega
  have h00 := h0 hz0
  have HX := Lib.hid hx
  have HR := Lib.hid R
  clear hS h0 hx hz R
  have ne : ∀ x : UInt8, c ≠ x → ((c.toNat : Int) == (x.toNat : Int)) = false := fun x h => by
    simp only [beq_eq_false_iff_ne, ne_eq]
    intro e
    exact h (UInt8.toNat_inj.1 (by omega))
  obtain ⟨h34, h92, h47, h98, h102, h110, h114, h116, h117⟩ := hc
  have e34 : ((c.toNat : Int) == 34) = false := ne 34 h34
  have e92 : ((c.toNat : Int) == 92) = false := ne 92 h92
  have e47 : ((c.toNat : Int) == 47) = false := ne 47 h47
  have e98 : ((c.toNat : Int) == 98) = false := ne 98 h98
  have e102 : ((c.toNat : Int) == 102) = false := ne 102 h102
  have e110 : ((c.toNat : Int) == 110) = false := ne 110 h110
  have e114 : ((c.toNat : Int) == 114) = false := ne 114 h114
  have e116 : ((c.toNat : Int) == 116) = false := ne 116 h116
  have e117 : ((c.toNat : Int) == 117) = false := ne 117 h117
  clear ne
  go_enter Tryz.func157, Tryz.ntmps157
  go_wp2_with fail
  refine (need_yes 4 _).mono ?_
  rintro e w1 ⟨rfl, rfl⟩
  go_wp2_with fail
  refine (need_no 4 _).mono ?_
  rintro e w1 ⟨rfl, rfl⟩
  go_wp2
  exact ⟨rfl, rfl, turn_set _ _ _ _ _ rfl⟩

set_option maxRecDepth 100000 in
theorem uniM_lt {s : Bytes} {m : Nat} {u : Bytes} (h : uniM s = some (m, u)) : m < 1114112 := by
  unfold uniM at h
  split at h
  · cases h
  · rename_i c t hc
    have := fourM_lt hc
    split at h
    · cases h; omega
    · split at h
      · split at h
        · cases h
        · rename_i d u' hd
          split at h
          · have h' := hd
            simp only [Option.some.injEq, Prod.mk.injEq] at h
            obtain ⟨h, -⟩ := h
            have := fourM_lt hd
            omega
          · cases h
      · cases h

set_option maxRecDepth 100000 in
set_option maxHeartbeats 1000000 in
theorem escape_u {w : World} {q : Nat} {t : Bytes} {V : Value} {n : Int} (R : Rd w q ((117 : UInt8) :: t) V n) {B b : Nat} {l : Bytes} (h : Bd w B b l) (hq : q < B) (hB : B ≤ w.heap.size) (hl : l.length + 4 ≤ 140737488355328) :
    Calls Tryz.prog 157 #[.pointer (some ⟨q, 0, none⟩), .pointer (some ⟨b, 0, none⟩)] w fun e w' => match uniM t with
      | some (m, u) => (∃ v, e = .returned v) ∧ Rd w' q u V n ∧ Bd w' B b (l ++ Lib.encodeRune m) ∧ Turn (EsS q B) w w'
      | none => e = faultOf 4 ∧ Turn (EsS q B) w w' := by
  have c0 := R.c0
  have f0 := R.f 0
  have hfit := R.fits
  simp only [List.length_cons] at hfit
  obtain ⟨hE, hz, h0, hx⟩ := cons_facts 117 t
  obtain ⟨S, hS⟩ : ∃ S, str ((117 : UInt8) :: t) = S := ⟨_, rfl⟩
  rw [hS] at c0 hE hz h0 hx
  have hz0 : 0 < S.size := by omega
  have hz1 : (1 : Int) ≤ (S.size : Int) := by omega
  have h00 := h0 hz0
  have HX := Lib.hid hx
  have HR := Lib.hid R
  have HD := Lib.hid h
  clear hS h0 hx hz R h
  have R1 := HR.out.set (s' := t) (by omega)
  have t1 := turn_set w q 0 (.string (str t)) (fun k => k = q) rfl
  have D1 := HD.out.turn t1 hq
  have HR1 := Lib.hid R1
  have HT1 := Lib.hid t1
  have HD1 := Lib.hid D1
  clear R1 t1 D1
  cases hu : uniM t with
  | none =>
    simp only
    go_enter Tryz.func157, Tryz.ntmps157
    go_wp2_with fail
    refine (need_yes 4 _).mono ?_
    rintro e w1 ⟨rfl, rfl⟩
    go_wp2_with fail
    rw [HX.out]
    refine (unicode_any HR1.out).mono ?_
    rw [hu]
    rintro e w2 ⟨rfl, t2⟩
    have HT2 := Lib.hid ((HT1.out.trans t2).mono (S' := EsS q B) (fun k _ e => .inl e))
    clear t2
    simp only [faultOf]
    go_wp2
    exact ⟨rfl, rfl, HT2.out⟩
  | some z =>
    obtain ⟨m, u⟩ := z
    have hm := uniM_lt hu
    simp only
    go_enter Tryz.func157, Tryz.ntmps157
    go_wp2_with fail
    refine (need_yes 4 _).mono ?_
    rintro e w1 ⟨rfl, rfl⟩
    go_wp2_with fail
    rw [HX.out]
    refine (unicode_any HR1.out).mono ?_
    rw [hu]
    rintro e w2 ⟨rfl, R2, t2⟩
    have hs2 : w.heap.size ≤ w2.heap.size := (HT1.out.trans t2).size
    have D2 := HD1.out.turn t2 hq
    have HR2 := Lib.hid R2
    have HT2 := Lib.hid (HT1.out.trans t2)
    have HD2 := Lib.hid D2
    clear R2 t2 D2
    go_wp2_with fail
    refine (writeRune_any HD2.out m (by omega) hl (Nat.le_trans hB hs2)).mono ?_
    rintro e w3 ⟨⟨v, rfl⟩, D3, b3, o3⟩
    have HR3 := Lib.hid (HR2.out.belowB b3 hq)
    have HD3 := Lib.hid D3
    have HT3 := Lib.hid ((HT2.out.mono (S' := EsS q B) (fun k _ e => .inl e)).trans (turn_belowB b3))
    clear D3 b3 o3
    go_wp2
    exact bodyPost_end (v := .tuple #[]) (by simp [results, Tryz.results157]) rfl ⟨⟨_, rfl⟩, HR3.out, HD3.out, HT3.out⟩

end Go.Proofs.YtcdeikhfmllkdaaGreatDoor

/- json's escape, all its ways in one. -/
namespace Go.Proofs.YtcdeikhfmllkdaaGreatDoor
open Go.RowKit
set_option linter.unusedVariables false

theorem escape_any {w : World} {q : Nat} {s : Bytes} {V : Value} {n : Int} (R : Rd w q s V n) {B b : Nat} {l : Bytes} (h : Bd w B b l) (hq : q < B) (hB : B ≤ w.heap.size) (hl : l.length + 4 ≤ 140737488355328) :
    Calls Tryz.prog 157 #[.pointer (some ⟨q, 0, none⟩), .pointer (some ⟨b, 0, none⟩)] w fun e w' => match escM s with
      | some (x, t) => (∃ v, e = .returned v) ∧ Rd w' q t V n ∧ Bd w' B b (l ++ x) ∧ Turn (EsS q B) w w'
      | none => e = faultOf 4 ∧ Turn (EsS q B) w w' := by
  cases s with
  | nil => exact (escape_none R b).mono (fun e w' q => ⟨q.1, q.2 ▸ Turn.refl _ _⟩)
  | cons c t =>
    by_cases h34 : c = 34
    · subst h34; exact escape_34 R h hq hB hl
    by_cases h92 : c = 92
    · subst h92; exact escape_92 R h hq hB hl
    by_cases h47 : c = 47
    · subst h47; exact escape_47 R h hq hB hl
    by_cases h98 : c = 98
    · subst h98; exact escape_98 R h hq hB hl
    by_cases h102 : c = 102
    · subst h102; exact escape_102 R h hq hB hl
    by_cases h110 : c = 110
    · subst h110; exact escape_110 R h hq hB hl
    by_cases h114 : c = 114
    · subst h114; exact escape_114 R h hq hB hl
    by_cases h116 : c = 116
    · subst h116; exact escape_116 R h hq hB hl
    by_cases h117 : c = 117
    · subst h117
      have e : escM (117 :: t) = (uniM t).map (fun z => (Lib.encodeRune z.1, z.2)) := rfl
      rw [e]
      refine (escape_u R h hq hB hl).mono ?_
      intro e w' q
      cases hu : uniM t with
      | none => rw [hu] at q; exact q
      | some z => rw [hu] at q; exact q
    · have e : escM (c :: t) = none := by simp [escM, h34, h92, h47, h98, h102, h110, h114, h116, h117]
      rw [e]
      exact (escape_bad R b ⟨h34, h92, h47, h98, h102, h110, h114, h116, h117⟩).mono (fun e w' q => ⟨q.1, q.2.mono (fun k _ e => .inl e)⟩)
end Go.Proofs.YtcdeikhfmllkdaaGreatDoor

/- json's quoted: the plain part, and what its loop keeps. -/
namespace Go.Proofs.YtcdeikhfmllkdaaGreatDoor
open Go.RowKit
set_option linter.unusedVariables false

/-- What is read behind the first quotation mark: the text, and what is left; none: it is none. -/
def quotM : Nat → Bytes → Bytes → Option (Bytes × Bytes)
  | 0, _, _ => none
  | f + 1, s, out =>
    match s with
    | [] => none
    | c :: t =>
      if c.toNat < 32 then none
      else if c = 34 then some (out, t)
      else if c = 92 then (escM t).bind fun z => quotM f z.2 (out ++ z.1)
      else if (Lib.decodeGo (str (c :: t))).1 = 65533 ∧ (Lib.decodeGo (str (c :: t))).2 ≤ 1 then none
      else quotM f ((c :: t).drop (Lib.decodeGo (str (c :: t))).2) (out ++ (c :: t).take (Lib.decodeGo (str (c :: t))).2)

/-- The tables of utf8, as they lie, and the number in front of them. -/
def Tabs (w : World) : Prop := Lib.Utf8Tabs 1 2 w ∧ ∃ m, w.cell? ⟨0, 0, none⟩ = some (.int .i64 m)
theorem Tabs.lt {w : World} (h : Tabs w) : 2 < w.heap.size := by
  have := (h.1.2 0 (by omega)).1
  exact World.block_lt_of_cell? w _ this
theorem Tabs.turn {w w' : World} (h : Tabs w) {S : Nat → Prop} (t : Turn S w w') (hz : ¬ S 0) (h0 : ¬ S 1) (h1 : ¬ S 2) : Tabs w' := by
  have hl := h.lt
  have ez : ∀ o, w'.cell? ⟨0, o, none⟩ = w.cell? ⟨0, o, none⟩ := fun o => World.cell?_of_block (w := w) (t.block 0 (by omega) hz)
  have e0 : ∀ o, w'.cell? ⟨1, o, none⟩ = w.cell? ⟨1, o, none⟩ := fun o => World.cell?_of_block (w := w) (t.block 1 (by omega) h0)
  have e1 : ∀ o, w'.cell? ⟨2, o, none⟩ = w.cell? ⟨2, o, none⟩ := fun o => World.cell?_of_block (w := w) (t.block 2 hl h1)
  exact ⟨⟨fun c hc => (e0 c).trans (h.1.1 c hc), fun i hi => ⟨(e1 _).trans (h.1.2 i hi).1, (e1 _).trans (h.1.2 i hi).2⟩⟩, h.2.elim fun m hm => ⟨m, (ez 0).trans hm⟩⟩
theorem Tabs.ne {w : World} (h : Tabs w) {q : Nat} {s : Bytes} {V : Value} {n : Int} (R : Rd w q s V n) : q ≠ 0 ∧ q ≠ 1 ∧ q ≠ 2 := by
  refine ⟨?_, ?_, ?_⟩
  · rintro rfl
    obtain ⟨m, a⟩ := h.2
    rw [R.c0] at a
    cases a
  · rintro rfl
    have a := h.1.1 0 (by omega)
    rw [R.c0] at a
    cases a
  · rintro rfl
    have a := (h.1.2 0 (by omega)).1
    rw [show (2 * 0 : Nat) = 0 from rfl, R.c0] at a
    cases a
end Go.Proofs.YtcdeikhfmllkdaaGreatDoor

/- The walk of json's quoted. -/
namespace Go.Proofs.YtcdeikhfmllkdaaGreatDoor
open Go.RowKit
set_option linter.unusedVariables false

def quotedM (s : Bytes) : Option (Bytes × Bytes) :=
  match skip s with
  | [] => none
  | c :: t => if c = 34 then quotM (t.length + 1) t [] else none

theorem bd_new (w : World) : Bd (w.alloc (.cells #[.pointer none, .slice none 0 0] 112)) w.heap.size w.heap.size [] :=
  .inl ⟨Nat.le_refl _, .slice none 0 0, heap_alloc_new _ _, World.ownsRowF_nil _ _ _ _, by simp [Value.ownBlock]⟩

theorem quoted_start {w : World} {q : Nat} {s : Bytes} {V : Value} {n : Int} (R : Rd w q s V n) (h : (skip s).head? ≠ some 34) :
    Calls Tryz.prog 122 #[.pointer (some ⟨q, 0, none⟩)] w fun e w' => e = faultOf 4 ∧ Turn (fun k => k = q) w w' := by
  have HR := Lib.hid R
  have HH := Lib.hid h
  clear R h
  go_enter Tryz.func122, Tryz.ntmps122
  go_wp2_with fail
  refine (is_no HR.out (34 : UInt8) HH.out).mono ?_
  rintro e w1 ⟨rfl, R1, t1⟩
  have HT := Lib.hid t1
  clear R1 t1
  go_wp2_with fail
  refine (need_no 4 _).mono ?_
  rintro e w2 ⟨rfl, rfl⟩
  go_wp2
  exact ⟨rfl, rfl, HT.out⟩
end Go.Proofs.YtcdeikhfmllkdaaGreatDoor

/- The walk of json's quoted: its loop. -/
namespace Go.Proofs.YtcdeikhfmllkdaaGreatDoor
open Go.RowKit
set_option linter.unusedVariables false

/-- What quoted comes to. -/
def QuPost (w : World) (q : Nat) (V : Value) (n : Int) (z : Option (Bytes × Bytes)) (e : Ending) (w' : World) : Prop :=
  match z with
  | some (x, t) => e = .returned (.string (str x)) ∧ Rd w' q t V n ∧ Turn (fun k => k = q) w w'
  | none => e = faultOf 4 ∧ Turn (fun k => k = q) w w'

/-- Where the loop stands: w is the world when the function began. -/
structure QuRel (w wr : World) (q B : Nat) (V : Value) (n : Int) (z : Option (Bytes × Bytes)) (len : Nat) (t out : Bytes) (f : Nat) : Prop where
  goes : quotM f t out = z
  fuel : t.length < f
  room : out.length + t.length ≤ len
  rd : Rd wr q t V n
  bd : Bd wr B B out
  hq : q < B
  hB : w.heap.size ≤ B
  hB1 : B < wr.heap.size
  tabs : Tabs wr
  turn : Turn (EsS q B) w wr

def QuI (w : World) (q B : Nat) (V : Value) (n : Int) (z : Option (Bytes × Bytes)) (len : Nat) (g : Nat) (wr : World) : Prop := ∃ t out, QuRel w wr q B V n z len t out g

theorem turn_out {w w' : World} {q B : Nat} (h : Turn (EsS q B) w w') (hB : w.heap.size ≤ B) : Turn (fun k => k = q) w w' :=
  h.mono (fun k hk e => by unfold EsS at e; omega)
theorem EsS.mono {q B C k : Nat} (h : EsS q C k) (hC : B ≤ C) : EsS q B k := by unfold EsS at *; omega


theorem quotM_nil (f : Nat) (out : Bytes) : quotM (f + 1) [] out = none := rfl
theorem quotM_low (f : Nat) (c : UInt8) (t out : Bytes) (h : c.toNat < 32) : quotM (f + 1) (c :: t) out = none := by simp [quotM, h]
theorem quotM_end (f : Nat) (t out : Bytes) : quotM (f + 1) (34 :: t) out = some (out, t) := by simp [quotM]
theorem quotM_esc (f : Nat) (t out : Bytes) : quotM (f + 1) (92 :: t) out = (escM t).bind fun z => quotM f z.2 (out ++ z.1) := by simp [quotM]
theorem quotM_bad (f : Nat) (c : UInt8) (t out : Bytes) (h : ¬ c.toNat < 32) (h1 : c ≠ 34) (h2 : c ≠ 92) (hd : (Lib.decodeGo (str (c :: t))).1 = 65533 ∧ (Lib.decodeGo (str (c :: t))).2 ≤ 1) : quotM (f + 1) (c :: t) out = none := by
  simp only [quotM]; rw [if_neg h, if_neg h1, if_neg h2, if_pos hd]
theorem quotM_rune (f : Nat) (c : UInt8) (t out : Bytes) (h : ¬ c.toNat < 32) (h1 : c ≠ 34) (h2 : c ≠ 92) (hd : ¬ ((Lib.decodeGo (str (c :: t))).1 = 65533 ∧ (Lib.decodeGo (str (c :: t))).2 ≤ 1)) :
    quotM (f + 1) (c :: t) out = quotM f ((c :: t).drop (Lib.decodeGo (str (c :: t))).2) (out ++ (c :: t).take (Lib.decodeGo (str (c :: t))).2) := by
  simp only [quotM]; rw [if_neg h, if_neg h1, if_neg h2, if_neg hd]

theorem fourM_len {s : Bytes} {m : Nat} {t : Bytes} (h : fourM s = some (m, t)) : t.length + 4 = s.length := by
  unfold fourM at h
  split at h
  · rename_i a b c d t'
    simp only [Option.bind_eq_some_iff, Option.map_eq_some_iff, Prod.mk.injEq] at h
    obtain ⟨x, _, y, _, z, _, u, _, _, rfl⟩ := h
    rfl
  · cases h
theorem uniM_len {s : Bytes} {m : Nat} {t : Bytes} (h : uniM s = some (m, t)) : t.length + 4 ≤ s.length := by
  unfold uniM at h
  split at h
  · cases h
  · rename_i c u hc
    have h1 := fourM_len hc
    split at h
    · simp only [Option.some.injEq, Prod.mk.injEq] at h
      obtain ⟨_, rfl⟩ := h
      omega
    · split at h
      · split at h
        · cases h
        · rename_i d v hd
          have h2 := fourM_len hd
          simp at h2
          split at h
          · simp only [Option.some.injEq, Prod.mk.injEq] at h
            obtain ⟨_, rfl⟩ := h
            omega
          · cases h
      · cases h
theorem escM_len {s x t : Bytes} (h : escM s = some (x, t)) : x.length + t.length ≤ s.length := by
  unfold escM at h
  split at h
  · cases h
  · rename_i c u
    repeat' split at h
    all_goals first | cases h; done | skip
    all_goals first
      | (simp only [Option.some.injEq, Prod.mk.injEq] at h; obtain ⟨rfl, rfl⟩ := h; simp; omega)
      | skip
    simp only [Option.map_eq_some_iff, Prod.mk.injEq] at h
    obtain ⟨⟨m, v⟩, hu, rfl, rfl⟩ := h
    have := uniM_len hu
    have := encode_len m
    simp
    omega
theorem decodeGo_ge1 (s : ByteArray) (h : s.size ≠ 0) : 1 ≤ (Lib.decodeGo s).2 := by
  unfold Lib.decodeGo; rw [if_neg h]; exact Lib.width_pos s 0
theorem str_take (l : Bytes) (k : Nat) : (str l).extract 0 k = str (l.take k) := by
  apply ByteArray.ext
  simp [str]
theorem str_drop (l : Bytes) (k : Nat) : (str l).extract k (str l).size = str (l.drop k) := by
  apply ByteArray.ext
  simp [str, ByteArray.size]
  exact List.take_of_length_le (by simp)
theorem qu_none {w w' : World} {q : Nat} {V : Value} {n : Int} {z : Option (Bytes × Bytes)} (hz : z = none) {e : Ending} (he : e = faultOf 4) (ht : Turn (fun k => k = q) w w') : QuPost w q V n z e w' := by
  subst hz; exact ⟨he, ht⟩
theorem qu_some {w w' : World} {q : Nat} {V : Value} {n : Int} {z : Option (Bytes × Bytes)} {x t : Bytes} (hz : z = some (x, t)) {e : Ending} (he : e = .returned (.string (str x))) (hr : Rd w' q t V n) (ht : Turn (fun k => k = q) w w') : QuPost w q V n z e w' := by
  subst hz; exact ⟨he, hr, ht⟩

set_option maxRecDepth 100000 in
set_option maxHeartbeats 4000000 in
theorem quoted_main {w : World} {q : Nat} {s t0 : Bytes} {V : Value} {n : Int} (R : Rd w q s V n) (hT : Tabs w) (hs : s.length ≤ 1000000) (h : skip s = 34 :: t0) (z : Option (Bytes × Bytes)) (hz : quotM (t0.length + 1) t0 [] = z) :
    Calls Tryz.prog 122 #[.pointer (some ⟨q, 0, none⟩)] w (QuPost w q V n z) := by
  have HR := Lib.hid R
  have HT := Lib.hid hT
  have hq := R.lt
  have hl0 : t0.length + 1 ≤ 1000000 := by have := skip_len s; rw [h] at this; simp at this; omega
  have HH := Lib.hid h
  have HZ := Lib.hid hz
  clear R hT h hz
  go_enter Tryz.func122, Tryz.ntmps122
  go_wp2_with fail
  refine (is_yes HR.out (34 : UInt8) HH.out).mono ?_
  rintro e w1 ⟨rfl, R1, t1⟩
  have HT1 : Hid (Tabs w1) := Lib.hid (HT.out.turn t1 (by have := HT.out.ne HR.out; omega) (by have := HT.out.ne HR.out; omega) (by have := HT.out.ne HR.out; omega))
  have HR1 := Lib.hid R1
  have HT2 := Lib.hid t1
  have hsz := t1.size
  clear R1 t1
  go_wp2_with fail
  refine (need_yes 4 _).mono ?_
  rintro e w2 ⟨rfl, rfl⟩
  go_wp2_with fail
  obtain ⟨B, hB⟩ : ∃ B, w1.heap.size = B := ⟨_, rfl⟩
  have HB := Lib.hid hB
  rw [hB]
  rw [hB] at hsz
  clear hB
  go_loopg [] (t0.length + 1) (fun g wr => QuI w q B V n z t0.length g wr)
  case atStart =>
    have hB := HB.out
    refine ⟨t0, [], HZ.out, by omega, by simp, HR1.out.below (Below.refl _ _ |>.alloc (Nat.le_refl _) _), ?_, by omega, hsz, by simp [hB], ?_, ?_⟩
    · rw [← hB]; exact bd_new w1
    · exact HT1.out.turn (S := fun _ => False) (Turn.of_below ((Below.refl _ _).alloc (Nat.le_refl _) _)) (by simp) (by simp) (by simp)
    · exact (HT2.out.mono (fun k _ e => .inl e)).trans (Turn.of_below ((Below.refl _ _).alloc (Nat.le_refl _) _))
  case round =>
    clear HZ HR1 HT1 HT2 HB HR HH
    obtain ⟨t, out, hrel⟩ := hrel
    obtain ⟨f, rfl⟩ : ∃ f, gk = f + 1 := ⟨gk - 1, by have := hrel.fuel; omega⟩
    have c0 := hrel.rd.c0
    have f0 := hrel.rd.f 0
    have hfuel := hrel.fuel
    have hroom := hrel.room
    have HL := Lib.hid hrel
    clear hrel
    cases t with
    | nil =>
      have hE : (str []).toList.isEmpty = true := by rw [str_empty]; rfl
      go_wp2_with fail
      refine (need_no 4 _).mono ?_
      rintro e w2 ⟨rfl, rfl⟩
      go_wp2
      exact ⟨rfl, qu_none (by rw [← HL.out.goes]; rfl) rfl (turn_out HL.out.turn HL.out.hB)⟩
    | cons c t =>
      obtain ⟨hE, hsz1, h0, hx⟩ := cons_facts c t
      simp only [List.length_cons] at hfuel hroom
      by_cases hlow : c.toNat < 32
      · obtain ⟨S, hS⟩ : ∃ S, str (c :: t) = S := ⟨_, rfl⟩
        rw [hS] at c0 hE hsz1 h0 hx
        have hz0 : 0 < S.size := by omega
        have h00 := h0 hz0
        have hl : decide ((32 : Int) ≤ (c.toNat : Int)) = false := by simp; omega
        clear hS h0 hx hsz1
        go_wp2_with fail
        refine (need_no 4 _).mono ?_
        rintro e w2 ⟨rfl, rfl⟩
        go_wp2
        exact ⟨rfl, qu_none (by rw [← HL.out.goes]; exact quotM_low _ _ _ _ hlow) rfl (turn_out HL.out.turn HL.out.hB)⟩
      have hl : decide ((32 : Int) ≤ (c.toNat : Int)) = true := by simp; omega
      by_cases h34 : c = 34
      · subst h34
        clear hlow hl
        obtain ⟨S, hS⟩ : ∃ S, str (34 :: t) = S := ⟨_, rfl⟩
        rw [hS] at c0 hE hsz1 h0 hx
        have hz0 : 0 < S.size := by omega
        have hz1 : (1 : Int) ≤ (S.size : Int) := by omega
        have h00 := h0 hz0
        have HX := Lib.hid hx
        clear hS h0 hx hsz1
        go_wp2_with fail
        refine (need_yes 4 _).mono ?_
        rintro e w2 ⟨rfl, rfl⟩
        go_wp2_with fail
        rw [HX.out]
        have R1 := HL.out.rd.set (s' := t) (by have := HL.out.rd.fits; simp at this; omega)
        have HR1 := Lib.hid R1
        refine (string_any (B := B) (l := out) (HL.out.bd.turn (turn_set _ _ _ _ _ rfl) HL.out.hq) (by have := HL.out.hB1; simp; omega)).mono ?_
        rintro e w3 ⟨rfl, hbd, hbel, -⟩
        have HB := Lib.hid hbel
        clear R1 hbd hbel
        go_wp2
        go_ret
        exact qu_some (by rw [← HL.out.goes]; exact quotM_end _ _ _) rfl (HR1.out.belowB HB.out HL.out.hq) (turn_out ((HL.out.turn.trans (turn_set _ _ _ _ _ (.inl rfl))).trans (turn_belowB HB.out)) HL.out.hB)
      have hn34 : ((c.toNat : Int) == 34) = false := by rw [beq_eq_false_iff_ne]; intro e; exact h34 (UInt8.toNat_inj.1 (by simp; omega))
      by_cases h92 : c = 92
      · subst h92
        clear hlow hl h34 hn34
        obtain ⟨S, hS⟩ : ∃ S, str (92 :: t) = S := ⟨_, rfl⟩
        rw [hS] at c0 hE hsz1 h0 hx
        have hz0 : 0 < S.size := by omega
        have hz1 : (1 : Int) ≤ (S.size : Int) := by omega
        have h00 := h0 hz0
        have HX := Lib.hid hx
        clear hS h0 hx hsz1
        go_wp2_with fail
        refine (need_yes 4 _).mono ?_
        rintro e w2 ⟨rfl, rfl⟩
        go_wp2_with fail
        rw [HX.out]
        have R1 := HL.out.rd.set (s' := t) (by have := HL.out.rd.fits; simp at this; omega)
        refine (escape_any R1 (HL.out.bd.turn (turn_set _ _ _ _ _ rfl) HL.out.hq) HL.out.hq (by have := HL.out.hB1; simp; omega) (by omega)).mono ?_
        have hgo := HL.out.goes
        rw [quotM_esc] at hgo
        rintro e w3 hq3
        clear R1
        cases hesc : escM t with
        | none =>
          rw [hesc] at hq3 hgo
          obtain ⟨he, ht3⟩ := hq3
          unfold faultOf at he
          subst he
          have HT3 := Lib.hid ht3
          have HG := Lib.hid hgo
          clear ht3 hgo hesc
          go_wp2
          exact ⟨rfl, qu_none HG.out.symm rfl (turn_out ((HL.out.turn.trans (turn_set _ _ _ _ _ (.inl rfl))).trans HT3.out) HL.out.hB)⟩
        | some xt =>
          rw [hesc] at hq3 hgo
          obtain ⟨⟨v, rfl⟩, hr3, hb3, ht3⟩ := hq3
          have HQ3 := Lib.hid (And.intro hr3 (And.intro hb3 ht3))
          have HG := Lib.hid hgo
          have HE := Lib.hid hesc
          clear hr3 hb3 ht3 hgo hesc
          go_wp2
          go_roundg f
          case measure => omega
          case rel =>
            obtain ⟨hr3, hb3, ht3⟩ := HQ3.out
            have hel := escM_len HE.out
            refine ⟨xt.2, out ++ xt.1, HG.out, by omega, by simp; omega, hr3, hb3, HL.out.hq, HL.out.hB, ?_, ?_, ?_⟩
            · have h1 := ht3.size; have h2 := HL.out.hB1; simp at h1; omega
            · exact (HL.out.tabs.turn (turn_set _ _ _ _ (fun k => k = q) rfl) (by have := HL.out.tabs.ne HL.out.rd; omega) (by have := HL.out.tabs.ne HL.out.rd; omega) (by have := HL.out.tabs.ne HL.out.rd; omega)).turn ht3 (by have := HL.out.tabs.ne HL.out.rd; have := HL.out.hq; have := HL.out.hB; have := HT.out.lt; unfold EsS; omega) (by have := HL.out.tabs.ne HL.out.rd; have := HL.out.hq; have := HL.out.hB; have := HT.out.lt; unfold EsS; omega) (by have := HL.out.tabs.ne HL.out.rd; have := HL.out.hq; have := HL.out.hB; have := HT.out.lt; unfold EsS; omega)
            · exact (HL.out.turn.trans (turn_set _ _ _ _ _ (.inl rfl))).trans ht3
      have hn92 : ((c.toNat : Int) == 92) = false := by rw [beq_eq_false_iff_ne]; intro e; exact h92 (UInt8.toNat_inj.1 (by simp; omega))
      obtain ⟨rr, hrr⟩ : ∃ rr, (Lib.decodeGo (str (c :: t))).1 = rr := ⟨_, rfl⟩
      obtain ⟨kk, hkk⟩ : ∃ kk, (Lib.decodeGo (str (c :: t))).2 = kk := ⟨_, rfl⟩
      have hk1 : 1 ≤ kk := by rw [← hkk]; exact decodeGo_ge1 _ (by omega)
      have hk2 : kk ≤ t.length + 1 := by rw [← hkk, ← hsz1]; exact Lib.decodeGo_le_size _
      have hdec : Hid (∀ w, Tabs w → Calls Tryz.prog 158 #[.string (str (c :: t))] w fun e w' => e = .returned (.tuple #[.int .i32 (rr : Int), .int .i64 (kk : Int)]) ∧ Below w.heap.size w w') := by
        intro w hT
        have := Any.utf8_DecodeRuneInString Tryz.laysDecode (str (c :: t)) w hT.1
        rw [hrr, hkk] at this
        exact this
      have htk := str_take (c :: t) kk
      have hdr := str_drop (c :: t) kk
      obtain ⟨S, hS⟩ : ∃ S, str (c :: t) = S := ⟨_, rfl⟩
      rw [hS] at c0 hE hsz1 h0 hx hdec htk hdr
      have hz0 : 0 < S.size := by omega
      have h00 := h0 hz0
      have HTK := Lib.hid htk
      have HDR := Lib.hid hdr
      have HS := Lib.hid hS
      have hk3 : (kk : Int) ≤ (S.size : Int) := by omega
      have hk4 : (0 : Int) ≤ (kk : Int) := by omega
      have HRR := Lib.hid hrr
      have HKK := Lib.hid hkk
      clear hS h0 hx hsz1 htk hdr hrr hkk
      go_wp2_with fail
      refine (need_yes 4 _).mono ?_
      rintro e w2 ⟨rfl, rfl⟩
      go_wp2_with fail
      refine (hdec.out _ HL.out.tabs).mono ?_
      rintro e w3 ⟨rfl, hb3⟩
      have c03 := (HL.out.rd.below hb3).c0
      have f03 := (HL.out.rd.below hb3).f 0
      rw [HS.out] at c03
      have HB3 := Lib.hid hb3
      clear hb3
      by_cases hbad : rr = 65533 ∧ kk ≤ 1
      · have e1 : ((rr : Int) != 65533) = false := by rw [bne_eq_false_iff_eq]; omega
        have e2 : decide ((1 : Int) < (kk : Int)) = false := by simp; omega
        go_wp2_with fail
        refine (need_no 4 _).mono ?_
        rintro e w4 ⟨rfl, rfl⟩
        go_wp2
        exact ⟨rfl, qu_none (by rw [← HL.out.goes]; exact quotM_bad _ _ _ _ hlow h34 h92 (by rw [HRR.out, HKK.out]; exact hbad)) rfl ((turn_out HL.out.turn HL.out.hB).trans (Turn.of_below HB3.out))⟩
      · have htest : ((rr : Int) != 65533) = true ∨ (((rr : Int) != 65533) = false ∧ decide ((1 : Int) < (kk : Int)) = true) := by
          by_cases hr : rr = 65533
          · right; exact ⟨by rw [bne_eq_false_iff_eq]; omega, by simp; omega⟩
          · left; rw [bne_iff_ne]; omega
        rcases htest with e1 | ⟨e1, e2⟩
        all_goals
          go_wp2_with fail
          refine (need_yes 4 _).mono ?_
          rintro e w4 ⟨rfl, rfl⟩
          go_wp2_with fail
          rw [HTK.out]
          have R3 := HL.out.rd.below HB3.out
          have hBd3 : Bd w3 B B out := HL.out.bd.kept (fun k hk hk2 => HB3.out.block k hk2)
          refine (writeString_any (B := B) (l := out) hBd3 ((c :: t).take kk) (by simp; omega) (by have := HB3.out.size; have := HL.out.hB1; omega)).mono ?_
          rintro e w5 ⟨⟨v5, rfl⟩, hb5, hbel5, -⟩
          have c05 := (R3.belowB hbel5 HL.out.hq).c0
          have f05 := (R3.belowB hbel5 HL.out.hq).f 0
          rw [HS.out] at c05
          have HR3 := Lib.hid R3
          have HB5 := Lib.hid (And.intro hb5 hbel5)
          clear R3 hBd3 hb5 hbel5
          go_wp2
          rw [HDR.out]
          go_roundg f
          case measure => omega
          case rel =>
            obtain ⟨hb5, hbel5⟩ := HB5.out
            have R5 := HR3.out.belowB hbel5 HL.out.hq
            have hne := HL.out.tabs.ne HL.out.rd
            have hq1 := HL.out.hq
            have hs5 : ∀ v, Turn (fun k => k = q) w5 (w5.setCell ⟨q, 0, none⟩ v) := fun v => turn_set _ _ _ _ _ rfl
            refine ⟨(c :: t).drop kk, out ++ (c :: t).take kk, ?_, by simp; omega, by simp; omega, R5.set (by have := HL.out.rd.fits; simp at this ⊢; omega), hb5.turn (hs5 _) hq1, hq1, HL.out.hB, ?_, ?_, ?_⟩
            · rw [← HL.out.goes, quotM_rune _ _ _ _ hlow h34 h92 (by rw [HRR.out, HKK.out]; exact hbad), HKK.out]
            · have h1 := HB3.out.size; have h2 := HL.out.hB1; have h3 := hbel5.size; simp; omega
            · exact ((HL.out.tabs.turn (S := fun _ => False) (Turn.of_below HB3.out) (by simp) (by simp) (by simp)).turn (turn_belowB (q := q) hbel5) (by have := HT.out.lt; have := HL.out.hB; have := HL.out.tabs.ne HL.out.rd; unfold EsS; omega) (by have := HT.out.lt; have := HL.out.hB; have := HL.out.tabs.ne HL.out.rd; unfold EsS; omega) (by have := HT.out.lt; have := HL.out.hB; have := HL.out.tabs.ne HL.out.rd; unfold EsS; omega)).turn (hs5 _) (by omega) (by omega) (by omega)
            · exact ((HL.out.turn.trans (Turn.of_below HB3.out)).trans (turn_belowB hbel5)).trans ((hs5 _).mono (fun k _ e => .inl e))

theorem quoted_any {w : World} {q : Nat} {s : Bytes} {V : Value} {n : Int} (R : Rd w q s V n) (hT : Tabs w) (hs : s.length ≤ 1000000) :
    Calls Tryz.prog 122 #[.pointer (some ⟨q, 0, none⟩)] w (QuPost w q V n (quotedM s)) := by
  by_cases h : (skip s).head? = some 34
  · cases hk : skip s with
    | nil => rw [hk] at h; cases h
    | cons c t =>
      rw [hk] at h
      simp only [List.head?_cons, Option.some.injEq] at h
      subst h
      exact quoted_main R hT hs hk _ (by simp [quotedM, hk])
  · refine (quoted_start R h).mono (fun e w' hq => qu_none ?_ hq.1 hq.2)
    unfold quotedM
    split
    · rfl
    · rename_i c t hk
      rw [hk] at h
      rw [if_neg (fun e => h (by rw [e]; rfl))]
end Go.Proofs.YtcdeikhfmllkdaaGreatDoor
