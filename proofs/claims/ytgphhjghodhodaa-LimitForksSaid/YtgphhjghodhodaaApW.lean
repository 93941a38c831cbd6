/- LimitApart: the walk. -/
import Derived.Test.YtgphhjghodhodaaAct
import Derived.Test.YtgphhjghodhodaaApP
namespace Go.Proofs.Ytgphhjghodhodaa
open Go.RowKit Go.Maps Go.WideMaps Go.Proofs.YtgphhjghodhodaaMp Go.Proofs.YtgphhjghodhodaaW.PrintWords
set_option linter.unusedVariables false

theorem apart_long (A : Option Addr) (xs : List S32) (cap : Nat) (o : ByteArray) (W : World) (h : 100 < xs.length) :
    Calls Try.prog 3 #[.slice A xs.length cap, .string o] W fun e w' => e = .returned (.bool true) ∧ Below W.heap.size W w' := by
  go_enter Try.func3, Try.ntmps3
  go_wp2_with (first | (go_at_call 8; refine (awake_any _).mono ?_; rintro e w' ⟨rfl, hb⟩) | fail)
  go_ret
  exact ⟨rfl, hb⟩

theorem apart_k (A : Option Addr) (xs : List S32) (cap : Nat) (W : World) (h : ¬ 100 < xs.length) :
    Calls Try.prog 3 #[.slice A xs.length cap, .string ⟨#[107]⟩] W fun e w' => e = .returned (.bool true) ∧ Below W.heap.size W w' := by
  go_enter Try.func3, Try.ntmps3
  go_wp2_with (first | (go_at_call 8; refine (awake_any _).mono ?_; rintro e w' ⟨rfl, hb⟩) | fail)
  go_ret
  exact ⟨rfl, hb⟩

theorem new_any (r b : Int) (w : World) (hr0 : 1 ≤ r) (hr1 : r ≤ 1000000) (hb0 : 1 ≤ b) (hb1 : b ≤ 1000000) :
    Calls Try.prog 9 #[.agg #[.int .i64 r, .int .i64 b]] w fun e w' => ∃ p m : Nat, e = .returned (.tuple #[.pointer (some ⟨p, 0, none⟩), .int .i64 0]) ∧ Lim w' p m r b 0 [] ∧ Below w.heap.size w w' ∧ w.heap.size ≤ p ∧ w.heap.size ≤ m :=
  (new_ok r b w hr0 hr1 hb0 hb1).mono fun e w' h => ⟨_, _, h.1, h.2.1, h.2.2, by omega, by omega⟩

theorem rd_mem (xs : List S32) (i : Nat) (h : i < xs.length) : rd_T32 xs i ∈ xs := by
  unfold rd_T32
  rw [Int.toNat_natCast, List.getD_eq_getElem?_getD, List.getElem?_eq_getElem h]
  exact List.getElem_mem h

theorem at_act {w : World} {A : Option Addr} {xs : List S32} (h : Kd.C k32 w A xs.length xs) (i : Nat) (hi : i < xs.length) : ∃ ad, A = some ad ∧ w.cell? (ad.add (i * 4)) = some (.int .u8 (rd_T32 xs i).f0) ∧ w.cell? ⟨(ad.add (i * 4)).block, (ad.add (i * 4)).off + 1, none⟩ = some (.string (rd_T32 xs i).f1) ∧
    w.cell? ⟨(ad.add (i * 4)).block, (ad.add (i * 4)).off + 2, none⟩ = some (.int .u16 (rd_T32 xs i).f2) ∧ w.cell? ⟨(ad.add (i * 4)).block, (ad.add (i * 4)).off + 3, none⟩ = some (.bool (rd_T32 xs i).f3) := by
  have := at_T32 h (i : Int) (by omega) (by omega)
  rwa [Int.toNat_natCast] at this

/-- Where the loop stands. -/
structure ApRel (W wr : World) (pa ma pb mb : Nat) (o : Key) (i : Nat) (now : Int) : Prop where
  out : ∃ (d1 d2 : Int) (B1 B2 : List (Key × Bk)), 0 ≤ d1 ∧ d1 ≤ i ∧ 0 ≤ d2 ∧ d2 ≤ 3 * i ∧ Lim wr pa ma 100 3 d1 B1 ∧ Lim wr pb mb 100 3 d2 B2 ∧ ApInv 100 3 o [107] i now B1 B2 ∧ Below W.heap.size W wr

theorem apInv_start (o : Key) : ApInv 100 3 o [107] 0 0 [] [] := ⟨by simp, by simp, fun t _ => rfl, by simp [cntB], by simp [cntB]⟩

theorem apart_main (A : Option Addr) (xs : List S32) (cap : Nat) (o : ByteArray) (W : World) (h : ¬ 100 < xs.length) (ho : (o.toList == [107]) = false) (hs : o.size ≤ maxLen) (hC : Kd.C k32 W A xs.length xs) (hok : ∀ x ∈ xs, okAct x) :
    Calls Try.prog 3 #[.slice A xs.length cap, .string o] W fun e w' => e = .returned (.bool true) ∧ Below W.heap.size W w' := by
  have HC := Lib.hid hC
  have HK := Lib.hid hok
  clear hC hok
  go_enter Try.func3, Try.ntmps3
  go_wp2_with fail
  refine (new_any 100 3 _ (by omega) (by omega) (by omega) (by omega)).mono ?_
  rintro e w1 ⟨pa, ma, rfl, L1, hb1, hpa, hma⟩
  have k0 : w1.cell? ⟨W.heap.size, 0, none⟩ = some (.int .i64 100) := by rw [(bcell hb1).1 _ _ (by simp)]; go_simp
  have k1 : w1.cell? ⟨W.heap.size, 1, none⟩ = some (.int .i64 3) := by rw [(bcell hb1).1 _ _ (by simp)]; go_simp
  have HL1 := Lib.hid L1
  have HB1 := Lib.hid (((Below.refl _ _).alloc (Nat.le_refl _) _).trans (hb1.mono (by simp)))
  have hz1 : W.heap.size < w1.heap.size := by have := hb1.size; simp at this; omega
  have hpa' : W.heap.size ≤ pa := by simp at hpa; omega
  have hma' : W.heap.size ≤ ma := by simp at hma; omega
  have hlta := L1.lt
  have hltma := L1.ltm
  clear L1 hb1 hpa hma
  go_wp2_with fail
  refine (new_any 100 3 _ (by omega) (by omega) (by omega) (by omega)).mono ?_
  rintro e w2 ⟨pb, mb, rfl, L2, hb2, hpb, hmb⟩
  have HL2 := Lib.hid L2
  have HLa := Lib.hid (HL1.out.below hb2)
  have HB2 := Lib.hid (HB1.out.trans (hb2.mono (by omega)))
  clear L2 hb2
  go_wp2_with fail
  go_loopw [10, 11] (fun v10 v11 wr => ∃ (i : Nat) (now : Int), i ≤ xs.length ∧ v11 = .int .i64 i ∧ v10 = .int .i64 now ∧ 0 ≤ now ∧ now ≤ 65535 * i ∧ ApRel W wr pa ma pb mb o.data.toList i now) (fun _ v11 _ => xs.length - (intOf v11).toNat)
  case atStart => exact ⟨0, 0, by omega, rfl, rfl, by omega, by omega, ⟨0, 0, [], [], by omega, by omega, by omega, by omega, HLa.out, HL2.out, apInv_start _, HB2.out⟩⟩
  case round =>
    obtain ⟨i, now, hi, rfl, rfl, hn0, hn1, hR⟩ := hrel
    by_cases hlt : i < xs.length
    · obtain ⟨d1, d2, B1, B2, hd10, hd11, hd20, hd21, La, Lb, hI, hB⟩ := hR.out
      obtain ⟨ad, rfl, q0, q1, q2, q3⟩ := at_act (Kd.C_below HC.out hB) i hlt
      obtain ⟨-, hks, hby, -⟩ := HK.out (rd_T32 xs i) (rd_mem xs i hlt)
      obtain ⟨s, hsn⟩ : ∃ s, (rd_T32 xs i).f1 = s := ⟨_, rfl⟩
      obtain ⟨by', hbyn⟩ : ∃ y, (rd_T32 xs i).f2 = y := ⟨_, rfl⟩
      rw [hsn] at q1 hks
      rw [hbyn] at q2 hby
      have HSN := Lib.hid hsn
      have HBN := Lib.hid hbyn
      have hby0 : 0 ≤ by' ∧ by' ≤ 65535 := by simpa [Lit.wf, IntKind.min, IntKind.max, IntKind.signed, IntKind.bits] using hby
      obtain ⟨hby1, hby2⟩ := hby0
      have HR := Lib.hid hR
      have HLA := Lib.hid La
      have HLB := Lib.hid Lb
      have HI := Lib.hid hI
      have HB := Lib.hid hB
      clear hR hI hB La Lb hsn hbyn hby q0 q3
      go_wp2_with fail
      have hl1 : B1.length < 256 := by
        obtain ⟨_, _, hr⟩ := HLA.out.own
        have := length_le_cnt hr.once o.data.toList [107]
        have := HI.out.n1
        omega
      have hI1 : ApInv 100 3 o.data.toList [107] i (now + by') B1 B2 := HI.out.later (by omega)
      obtain ⟨x, hx⟩ : ∃ x, (bkOf 100 3 B1 [107] (now + by')).1 = x := ⟨_, rfl⟩
      obtain ⟨ok, hokx⟩ : ∃ ok, decide (1000 ≤ x.1) = ok := ⟨_, rfl⟩
      obtain ⟨d1', hd1'⟩ : ∃ d, (if 1000 ≤ x.1 then d1 else d1 + 1) = d := ⟨_, rfl⟩
      have hd1a : 0 ≤ d1' ∧ d1' ≤ i + 1 := by rw [← hd1']; split <;> omega
      have hA : allowM 100 3 B1 d1 [107] (now + by') = (ok, d1', putB B1 [107] (taken x)) := by rw [allowM_few (by omega) (by omega) (by omega) hl1, hx, hokx, hd1']
      refine (allow_any HLA.out hd10 (by omega) ⟨#[107]⟩ (by decide) _ ok _ _ hA).mono ?_
      rintro e wa ⟨rfl, La', ta⟩
      have hB1 : Below W.heap.size W wa := HB.out.trans (ta.to_below HB.out.size (fun k h => by omega))
      have Lb' := HLB.out.kept ta (by omega) (by omega)
      obtain ⟨ad', hade, _, q1, _, _⟩ := at_act (Kd.C_below HC.out hB1) i hlt
      cases hade
      rw [HSN.out] at q1
      have HX := Lib.hid hx
      have HOK := Lib.hid hokx
      have HLA' := Lib.hid La'
      have HLB' := Lib.hid Lb'
      have HB1' := Lib.hid hB1
      have HI1 := Lib.hid hI1
      clear hx hokx hd1' hA La' Lb' ta hB1 hI1
      obtain ⟨hd1b, hd1c⟩ := hd1a
      by_cases hkey : (s.toList == [107]) = true
      · go_wp2_with fail
        have hI2 : ApInv 100 3 o.data.toList [107] (i + 1) (now + by') B1 B2 := ⟨HI1.out.t1, HI1.out.t2, HI1.out.same, by have := HI1.out.n1; omega, by have := HI1.out.n2; omega⟩
        have hd2b : d2 ≤ 3 * (i : Int) + 2 := by omega
        have hd2a : 0 ≤ d2 := hd20
        obtain ⟨La2, Lb2, hB2⟩ : Lim wa pa ma 100 3 d1' (putB B1 [107] (taken x)) ∧ Lim wa pb mb 100 3 d2 B2 ∧ Below W.heap.size W wa := ⟨HLA'.out, HLB'.out, HB1'.out⟩
        have HLA4 := Lib.hid La2
        have HLB4 := Lib.hid Lb2
        have HB4 := Lib.hid hB2
        have HI4 := Lib.hid hI2
        clear La2 Lb2 hB2 hI2
        go_wp2_with fail
        refine (forget_any HLB4.out _ (by omega) (by omega)).mono ?_
        rintro e wd ⟨rfl, Lb5, td⟩
        have hl5 : (forgetM 100 3 B2 (now + by')).length < 256 := by
          obtain ⟨_, _, hr⟩ := HLB4.out.own
          have h1 := length_le_cnt hr.once o.data.toList [107]
          have h2 := HI4.out.n2
          have h3 : (forgetM 100 3 B2 (now + by')).length ≤ B2.length := List.length_filter_le _ _
          omega
        have hI5 := HI4.out.forget (by omega) (by obtain ⟨_, _, hr⟩ := HLB4.out.own; exact hr.once) (fun q hq => (HLB4.out.inv q hq).2.1)
        have hx5 : (bkOf 100 3 (forgetM 100 3 B2 (now + by')) [107] (now + by')).1 = x := by rw [← hI5.same _ (by omega)]; exact HX.out
        obtain ⟨d3, hd3⟩ : ∃ d, (if 1000 ≤ x.1 then d2 else d2 + 1) = d := ⟨_, rfl⟩
        have hd3a : 0 ≤ d3 ∧ d3 ≤ 3 * (i : Int) + 3 := by rw [← hd3]; split <;> omega
        have hA : allowM 100 3 (forgetM 100 3 B2 (now + by')) d2 [107] (now + by') = (ok, d3, putB (forgetM 100 3 B2 (now + by')) [107] (taken x)) := by rw [allowM_few (by omega) (by omega) (by omega) hl5, hx5, HOK.out, hd3]
        have hI6 := hI5.both
        rw [hx5, HX.out] at hI6
        have HLA5 := Lib.hid (HLA4.out.kept td (by omega) (by omega))
        have HB5 := Lib.hid (HB4.out.trans (td.to_below HB4.out.size (fun k h => by omega)))
        have HLB5 := Lib.hid Lb5
        have HI6 := Lib.hid hI6
        have HA := Lib.hid hA
        clear hI5 hx5 hA hI6 td Lb5 hd3
        obtain ⟨hd3b, hd3c⟩ := hd3a
        go_wp2_with fail
        refine (allow_any HLB5.out hd20 (by omega) ⟨#[107]⟩ (by decide) _ ok _ _ HA.out).mono ?_
        rintro e we ⟨rfl, Lb6, te⟩
        have HLA6 := Lib.hid (HLA5.out.kept te (by omega) (by omega))
        have HB6 := Lib.hid (HB5.out.trans (te.to_below HB5.out.size (fun k h => by omega)))
        have HLB6 := Lib.hid Lb6
        clear Lb6 te
        go_wp2
        go_roundw
        case rel => exact ⟨i + 1, now + by', by omega, by go_num, rfl, by omega, by omega, ⟨d1', d3, _, _, by omega, by omega, by omega, by omega, HLA6.out, HLB6.out, HI6.out, HB6.out⟩⟩
        case measure => simp [intOf]; omega
      · have hne : s.data.toList ≠ [107] := by
          rw [ByteArray.toList_eq] at hkey
          simpa using hkey
        have hkey' : (s.toList == [107]) = false := by simpa using hkey
        have HNE := Lib.hid hne
        clear hkey hne
        go_wp2_with fail
        have hl2 : B2.length < 256 := by
          obtain ⟨_, _, hr⟩ := HLB'.out.own
          have := length_le_cnt hr.once o.data.toList [107]
          have := HI1.out.n2
          omega
        have hI2 := HI1.out.other (q := s.data.toList) HNE.out (j := i + 1) (by split <;> omega)
        obtain ⟨y, hy⟩ : ∃ y, (bkOf 100 3 B2 s.data.toList (now + by')).1 = y := ⟨_, rfl⟩
        obtain ⟨d2', hd2'⟩ : ∃ d, (if 1000 ≤ y.1 then d2 else d2 + 1) = d := ⟨_, rfl⟩
        have hd2c : 0 ≤ d2' ∧ d2' ≤ 3 * (i : Int) + 1 := by rw [← hd2']; split <;> omega
        have hA : allowM 100 3 B2 d2 s.data.toList (now + by') = (decide (1000 ≤ y.1), d2', putB B2 s.data.toList (taken y)) := by rw [allowM_few (by omega) (by omega) (by omega) hl2, hy, hd2']
        rw [hy] at hI2
        refine (allow_any HLB'.out hd20 (by omega) s hks _ _ _ _ hA).mono ?_
        rintro e wb ⟨rfl, Lb3, tb⟩
        have HLA3 := Lib.hid (HLA'.out.kept tb (by omega) (by omega))
        have HB3 := Lib.hid (HB1'.out.trans (tb.to_below HB1'.out.size (fun k h => by omega)))
        have HLB3 := Lib.hid Lb3
        have HI3 := Lib.hid hI2
        clear hy hd2' hA Lb3 tb hI2
        obtain ⟨hd2d, hd2e⟩ := hd2c
        go_wp2_with fail
        have hl3 : (putB B2 s.data.toList (taken y)).length < 256 := by
          obtain ⟨_, _, hr⟩ := HLB3.out.own
          have := length_le_cnt hr.once o.data.toList [107]
          have := HI3.out.n2
          omega
        have hno : o.data.toList ≠ [107] := by
          rw [ByteArray.toList_eq] at ho
          simpa using ho
        have hI4 := HI3.out.other (q := o.data.toList) hno (j := i + 1) (by simp)
        obtain ⟨z, hz⟩ : ∃ z, (bkOf 100 3 (putB B2 s.data.toList (taken y)) o.data.toList (now + by')).1 = z := ⟨_, rfl⟩
        obtain ⟨d2'', hd2''⟩ : ∃ d, (if 1000 ≤ z.1 then d2' else d2' + 1) = d := ⟨_, rfl⟩
        have hd2f : 0 ≤ d2'' ∧ d2'' ≤ 3 * (i : Int) + 2 := by rw [← hd2'']; split <;> omega
        have hA : allowM 100 3 (putB B2 s.data.toList (taken y)) d2' o.data.toList (now + by') = (decide (1000 ≤ z.1), d2'', putB (putB B2 s.data.toList (taken y)) o.data.toList (taken z)) := by rw [allowM_few (by omega) (by omega) (by omega) hl3, hz, hd2'']
        rw [hz] at hI4
        refine (allow_any HLB3.out hd2d (by omega) o hs _ _ _ _ hA).mono ?_
        rintro e wc ⟨rfl, Lb4, tc⟩
        have La2 := HLA3.out.kept tc (by omega) (by omega)
        have hB2 := HB3.out.trans (tc.to_below HB3.out.size (fun k h => by omega))
        have hI2 := hI4
        have Lb2 := Lb4
        obtain ⟨hd2a, hd2b⟩ := hd2f
        obtain ⟨B2', hB2'⟩ : ∃ B, putB (putB B2 s.data.toList (taken y)) o.data.toList (taken z) = B := ⟨_, rfl⟩
        rw [hB2'] at hI2 Lb2
        clear hz hd2'' hA Lb4 tc hI4 hno hB2'
        have HLA4 := Lib.hid La2
        have HLB4 := Lib.hid Lb2
        have HB4 := Lib.hid hB2
        have HI4 := Lib.hid hI2
        clear La2 Lb2 hB2 hI2
        go_wp2_with fail
        refine (forget_any HLB4.out _ (by omega) (by omega)).mono ?_
        rintro e wd ⟨rfl, Lb5, td⟩
        have hl5 : (forgetM 100 3 B2' (now + by')).length < 256 := by
          obtain ⟨_, _, hr⟩ := HLB4.out.own
          have h1 := length_le_cnt hr.once o.data.toList [107]
          have h2 := HI4.out.n2
          have h3 : (forgetM 100 3 B2' (now + by')).length ≤ B2'.length := List.length_filter_le _ _
          omega
        have hI5 := HI4.out.forget (by omega) (by obtain ⟨_, _, hr⟩ := HLB4.out.own; exact hr.once) (fun q hq => (HLB4.out.inv q hq).2.1)
        have hx5 : (bkOf 100 3 (forgetM 100 3 B2' (now + by')) [107] (now + by')).1 = x := by rw [← hI5.same _ (by omega)]; exact HX.out
        obtain ⟨d3, hd3⟩ : ∃ d, (if 1000 ≤ x.1 then d2'' else d2'' + 1) = d := ⟨_, rfl⟩
        have hd3a : 0 ≤ d3 ∧ d3 ≤ 3 * (i : Int) + 3 := by rw [← hd3]; split <;> omega
        have hA : allowM 100 3 (forgetM 100 3 B2' (now + by')) d2'' [107] (now + by') = (ok, d3, putB (forgetM 100 3 B2' (now + by')) [107] (taken x)) := by rw [allowM_few (by omega) (by omega) (by omega) hl5, hx5, HOK.out, hd3]
        have hI6 := hI5.both
        rw [hx5, HX.out] at hI6
        have HLA5 := Lib.hid (HLA4.out.kept td (by omega) (by omega))
        have HB5 := Lib.hid (HB4.out.trans (td.to_below HB4.out.size (fun k h => by omega)))
        have HLB5 := Lib.hid Lb5
        have HI6 := Lib.hid hI6
        have HA := Lib.hid hA
        clear hI5 hx5 hA hI6 td Lb5 hd3
        obtain ⟨hd3b, hd3c⟩ := hd3a
        go_wp2_with fail
        refine (allow_any HLB5.out hd2a (by omega) ⟨#[107]⟩ (by decide) _ ok _ _ HA.out).mono ?_
        rintro e we ⟨rfl, Lb6, te⟩
        have HLA6 := Lib.hid (HLA5.out.kept te (by omega) (by omega))
        have HB6 := Lib.hid (HB5.out.trans (te.to_below HB5.out.size (fun k h => by omega)))
        have HLB6 := Lib.hid Lb6
        clear Lb6 te
        go_wp2
        go_roundw
        case rel => exact ⟨i + 1, now + by', by omega, by go_num, rfl, by omega, by omega, ⟨d1', d3, _, _, by omega, by omega, by omega, by omega, HLA6.out, HLB6.out, HI6.out, HB6.out⟩⟩
        case measure => simp [intOf]; omega
    · have hii : i = xs.length := by omega
      subst hii
      have HR := Lib.hid hR
      clear hR
      go_wp2_with fail
      refine (awake_any _).mono ?_
      rintro e w5 ⟨rfl, hb5⟩
      obtain ⟨_, _, _, _, _, _, _, _, _, _, _, hB⟩ := HR.out.out
      have HF := Lib.hid (hB.trans (hb5.mono hB.size))
      clear hB hb5
      go_wp2
      go_ret
      exact ⟨rfl, HF.out⟩

theorem apart_holds (A : Option Addr) (xs : List S32) (cap : Nat) (o : ByteArray) (W : World) (hC : Kd.C k32 W A xs.length xs) (hok : ∀ x ∈ xs, okAct x) (hs : o.size ≤ maxLen) :
    Calls Try.prog 3 #[.slice A xs.length cap, .string o] W fun e w' => e = .returned (.bool true) ∧ Below W.heap.size W w' := by
  by_cases h : 100 < xs.length
  · exact apart_long A xs cap o W h
  · by_cases ho : o = ⟨#[107]⟩
    · subst ho
      exact apart_k A xs cap W h
    · refine apart_main A xs cap o W h ?_ hs hC hok
      cases hb : (o.toList == [107]) with
      | false => rfl
      | true =>
        exfalso
        apply ho
        rw [ByteArray.toList_eq] at hb
        have hb' : o.data.toList = [107] := by simpa using hb
        exact Go.WideShapes.bytes_inj hb'
end Go.Proofs.Ytgphhjghodhodaa
