/- payload.Unquoted, walked. -/
import Derived.Test.YtllhpkpckjacfaaGreatDoorPm1
import Derived.Test.YtllhpkpckjacfaaGreatDoorPm2
namespace Go.Proofs.YtllhpkpckjacfaaGreatDoor
open Go.RowKit Go.Proofs.YtllhpkpckjacfaaGreatDoorW.PrintWords PTemplateFilters
set_option linter.unusedVariables false
set_option linter.unusedSimpArgs false

theorem hexi_any (c : UInt8) (w : World) : Calls Tryz.prog 64 #[.string ⟨#[48, 49, 50, 51, 52, 53, 54, 55, 56, 57, 65, 66, 67, 68, 69, 70]⟩, .int .u8 c.toNat] w fun e w' => e = .returned (.int .i64 (hexI c)) ∧ w' = w := by
  have := Any.strings_IndexByte Tryz.laysIndexByte ⟨#[48, 49, 50, 51, 52, 53, 54, 55, 56, 57, 65, 66, 67, 68, 69, 70]⟩ (c.toNat : Int) w
  rw [Int.toNat_natCast, show c.toNat.toUInt8 = c from UInt8.ofNat_toNat] at this
  exact this
theorem pre_any (s p : Bytes) (P : ByteArray) (hP : P = str p) {b : Bool} (hb : Lib.hasPrefix s p = b) (w : World) : Calls Tryz.prog 63 #[.string (str s), .string P] w fun e w' => e = .returned (.bool b) ∧ w' = w := by
  subst hP
  have := Any.strings_HasPrefix Tryz.laysHasPrefix (str s) (str p) w
  rw [str_toList, str_toList, hb] at this
  exact this
theorem pre3 {s rs : Bytes} {i : Nat} {c : UInt8} {hl : i < s.length} (h : Lib.hasPrefix rs [61, 13, 10] = true) (hd : s.drop i = rs) (hc : s[i] = c) : c = 61 ∧ ∃ h2 : i + 2 < s.length, s[i + 1] = 13 ∧ s[i + 2] = 10 := by
  have h2 : [61, 13, 10] <+: rs := by simpa [Lib.hasPrefix] using h
  obtain ⟨t, rfl⟩ := h2
  have hlen := congrArg List.length hd
  rw [List.length_drop] at hlen
  simp at hlen
  have h2 : i + 2 < s.length := by omega
  rw [List.drop_eq_getElem_cons hl, List.drop_eq_getElem_cons (show i + 1 < s.length by omega), List.drop_eq_getElem_cons h2] at hd
  simp only [List.cons_append, List.cons.injEq] at hd
  exact ⟨hc.symm.trans hd.1, h2, hd.2.1, hd.2.2.1⟩
theorem pre2 {s rs : Bytes} {i : Nat} {c : UInt8} {hl : i < s.length} (h : Lib.hasPrefix rs [13, 10] = true) (hd : s.drop i = rs) (hc : s[i] = c) : c = 13 ∧ ∃ h1 : i + 1 < s.length, s[i + 1] = 10 := by
  have h2 : [13, 10] <+: rs := by simpa [Lib.hasPrefix] using h
  obtain ⟨t, rfl⟩ := h2
  have hlen := congrArg List.length hd
  rw [List.length_drop] at hlen
  simp at hlen
  have h2 : i + 1 < s.length := by omega
  rw [List.drop_eq_getElem_cons hl, List.drop_eq_getElem_cons h2] at hd
  simp only [List.cons_append, List.cons.injEq] at hd
  exact ⟨hc.symm.trans hd.1, h2, hd.2.1⟩
/-- What the loop keeps. -/
structure UqR (w : World) (s : Bytes) (B : Nat) (v4 v5 : Value) (wr : World) (acc : Bytes) (i : Nat) : Prop where
  rest : v5 = .string (str (s.drop i))
  le : i ≤ s.length
  len : acc.length ≤ i
  eq : acc ++ unqM (s.drop i) = unqM s
  own : wr.ownsRow B 5 1 v4 acc.length (nums .u8 (numsP acc))
  bel : Below B w wr
theorem UqR.step {w wr w3 : World} {s : Bytes} {B : Nat} {v4 v5 V T : Value} {acc : Bytes} {i j : Nat} {c : UInt8} {z : Int} {o : Obj} (h : UqR w s B v4 v5 wr acc i) (hB : B ≤ wr.heap.size) (hT : T = .string (str (s.drop j))) (hj : j ≤ s.length) (hij : i < j)
    (he : unqM (s.drop i) = c :: unqM (s.drop j)) (hz : z = (c.toNat : Int)) (ho : w3.ownsRow B 5 1 V (acc.length + 1) (nums .u8 (numsP acc) ++ [.int .u8 z])) (hg : ((wr.alloc o).drew).grownBy w3 v4.ownBlock) : UqR w s B V T w3 (acc ++ [c]) j := by
  refine ⟨hT, hj, by have := h.len; simp; omega, ?_, ?_, below_grown_own h.bel hB h.own hg⟩
  · rw [List.append_assoc, List.singleton_append, ← he]; exact h.eq
  · subst hz
    rw [numsP_app, List.length_append]
    simpa [nums, numsP] using ho
theorem UqR.drewN {w wr : World} {s : Bytes} {B : Nat} {v4 v5 : Value} {acc : Bytes} {i : Nat} (h : UqR w s B v4 v5 wr acc i) (n : Nat) : UqR w s B v4 v5 (wr.drewN n) acc i := ⟨h.rest, h.le, h.len, h.eq, pw_own_drewN h.own n, pw_below_drewN h.bel n⟩
theorem or_nib {x y : Int} (hx : 0 ≤ x) (hx1 : x < 16) (hy : 0 ≤ y) (hy1 : y < 16) : bits BinOp.or IntKind.i64 (x * 16) y = 16 * x + y := by
  obtain ⟨a, rfl⟩ := Int.eq_ofNat_of_zero_le hx
  obtain ⟨b, rfl⟩ := Int.eq_ofNat_of_zero_le hy
  have h : ∀ a, a < 16 → ∀ b, b < 16 → bits BinOp.or IntKind.i64 ((a : Nat) * 16 : Int) ((b : Nat) : Int) = 16 * ((a : Nat) : Int) + ((b : Nat) : Int) := by decide +kernel
  exact h a (by omega) b (by omega)
def vSize : Value → Nat
  | .string s => s.size
  | _ => 0
theorem info5' : (Tryz.prog.info? 5).map (fun i => (i.zero, i.size, i.bytes)) = some (some (.int .u8 0), 1, 1) := by kernel_rfl
set_option maxRecDepth 100000 in
set_option maxHeartbeats 4000000 in
theorem Unquoted_any (w : World) (s : Bytes) (hs : s.length ≤ 100000) : Calls Tryz.prog 31 #[.string (str s)] w fun e w' => e = .returned (.tuple #[.string (str (unqR s).1), .int .i64 (unqR s).2]) ∧ Below w.heap.size w w' := by
  obtain ⟨B, hB⟩ : ∃ B, w.heap.size = B := ⟨_, rfl⟩
  have HB := Lib.hid hB
  rw [hB]
  obtain ⟨S, hS⟩ : ∃ S, str s = S := ⟨_, rfl⟩
  have HS := Lib.hid hS
  rw [hS]
  clear hB hS
  go_enter Tryz.func31, Tryz.ntmps31
  go_wp2_with fail
  go_loopw [4, 5] (fun v4 v5 wr => ∃ acc i, UqR w s B v4 v5 wr acc i) (fun _ v5 _ => vSize v5)
  case atStart => exact ⟨[], 0, by rw [List.drop_zero, HS.out], by omega, by simp, by simp, World.ownsRow_nil _ _ _ _, by rw [← HB.out]; exact Below.refl _ _⟩
  case round =>
    obtain ⟨acc, i, hr⟩ := hrel
    obtain rfl := hr.rest
    have HR := Lib.hid hr
    have hle := hr.le
    have hlen := hr.len
    clear hr
    by_cases hend : i = s.length
    · have he : unqM s = acc := by have := HR.out.eq; rw [List.drop_eq_nil_of_le (by omega), unqM, List.append_nil] at this; exact this.symm
      rw [List.drop_eq_nil_of_le (by omega), show str [] = ⟨#[]⟩ from rfl]
      have hc1 := own_string (P := Tryz.prog) Tryz.underlying84 Tryz.underlying5 Tryz.underlying9 HR.out.own
      rw [numsP_str] at hc1
      have hbr := HR.out.bel.size
      have hwB : B ≤ wr.heap.size := by have := HR.out.bel.size; rw [HB.out] at this; exact this
      have hq0 := Quoted_any wr acc (by omega)
      by_cases hq : quotM acc 0 = s
      · have hu : unqR s = (acc, 0) := by unfold unqR; rw [he, if_pos hq]
        have HU := Lib.hid hu
        rw [hq, HS.out] at hq0
        have HQ := Lib.hid hq0
        have e1 : (S.toList == S.toList) = true := beq_self_eq_true _
        have e2 : (S.toList != S.toList) = false := by rw [bne, e1]; rfl
        clear hq hu he hq0 hbr
        go_wp2_with fail
        refine HQ.out.mono ?_
        rintro e w2 ⟨rfl, hb2⟩
        have hc2 := own_string (P := Tryz.prog) Tryz.underlying84 Tryz.underlying5 Tryz.underlying9 (pw_own_below HR.out.own hb2)
        rw [numsP_str] at hc2
        have HB2 := Lib.hid hb2
        clear hb2 hc1
        go_wp2
        go_ret2
        exact ⟨by rw [HU.out]; rfl, HR.out.bel.trans (HB2.out.mono hwB)⟩
      · have hu : unqR s = ([], 4) := by unfold unqR; rw [he, if_neg hq]
        have HU := Lib.hid hu
        have e1 : ((str (quotM acc 0)).toList == S.toList) = false := by rw [← HS.out, str_tl, str_tl]; exact beq_eq_false_iff_ne.2 hq
        have e2 : ((str (quotM acc 0)).toList != S.toList) = true := by rw [bne, e1]; rfl
        obtain ⟨Q, hQ⟩ : ∃ Q, str (quotM acc 0) = Q := ⟨_, rfl⟩
        rw [hQ] at hq0 e1 e2
        have HQ := Lib.hid hq0
        clear hq hu he hq0 hbr hQ
        go_wp2_with fail
        refine HQ.out.mono ?_
        rintro e w2 ⟨rfl, hb2⟩
        have HB2 := Lib.hid hb2
        clear hb2 hc1
        go_wp2
        go_ret2
        exact ⟨by rw [HU.out]; rfl, HR.out.bel.trans (HB2.out.mono hwB)⟩
    · have hl : i < s.length := by omega
      obtain ⟨c, hc⟩ : ∃ c, s[i] = c := ⟨_, rfl⟩
      obtain ⟨rs, hrs⟩ : ∃ rs, s.drop i = rs := ⟨_, rfl⟩
      have hrc : rs = c :: s.drop (i + 1) := by rw [← hrs, List.drop_eq_getElem_cons hl, hc]
      have hrl : rs.length = s.length - i := by rw [← hrs, List.length_drop]
      have hzr := str_size rs
      have hwB : B ≤ wr.heap.size := by have := HR.out.bel.size; rw [HB.out] at this; exact this
      have hne : (str rs).toList.isEmpty = false := by rw [str_tl, hrc]; rfl
      have hne2 : ((str rs).toList == []) = false := by rw [str_tl, hrc]; rfl
      have hne3 : ((str rs).toList != []) = true := by rw [bne, hne2]; rfl
      have h0 : (str rs)[0]'(by rw [hzr]; omega) = c := (str_get rs 0 (by omega) (by rw [hzr]; omega)).trans (by simp [hrc])
      rw [hrs]
      have HHc := Lib.hid hc
      have HRs := Lib.hid hrs
      have HRc := Lib.hid hrc
      have HE := Lib.hid HR.out.eq
      clear hc hrs hrc
      by_cases hA : c = 61 ∧ ∃ h2 : i + 2 < s.length, s[i + 1] = 13 ∧ s[i + 2] = 10
      · obtain ⟨rfl, h2, h13, h10⟩ := hA
        have hrs3 : rs = 61 :: 13 :: 10 :: s.drop (i + 3) := by
          rw [HRc.out, List.drop_eq_getElem_cons (show i + 1 < s.length by omega), List.drop_eq_getElem_cons h2, h13, h10]
        have hp := pre_any rs [61, 13, 10] ⟨#[61, 13, 10]⟩ rfl (b := true) (by rw [hrs3]; rfl) wr
        have hsl := fun w1 => from_run (s := rs) (k := 3) (by omega) w1
        rw [show rs.drop 3 = s.drop (i + 3) by rw [hrs3]; rfl] at hsl
        have hz3 := str_size (s.drop (i + 3))
        rw [List.length_drop] at hz3
        have HEq := Lib.hid (unq_a h2 HHc.out h13 h10)
        have HP := Lib.hid hp
        rw [show ((3 : Nat) : Int) = 3 from rfl] at hsl
        clear hrs3 h13 h10 hp
        generalize hT : str (s.drop (i + 3)) = T at hsl hz3
        have HT := Lib.hid hT
        clear hT
        go_wp2_with (first | (go_at_call 63; (refine HP.out.mono ?_); rintro e w2 ⟨rfl, rfl⟩))
        go_roundw
        case rel => exact ⟨acc, i + 3, by rw [HT.out], by omega, by omega, by rw [← HEq.out, HRs.out]; exact (HRs.out ▸ HE.out), HR.out.own, HR.out.bel⟩
        case measure => simp [vSize]; omega
      · have hpA : Lib.hasPrefix rs [61, 13, 10] = false := by
          cases hx : Lib.hasPrefix rs [61, 13, 10] with
          | false => rfl
          | true => exact (hA (pre3 (hx.symm ▸ rfl) HRs.out HHc.out)).elim
        have hP1 := pre_any rs [61, 13, 10] ⟨#[61, 13, 10]⟩ rfl hpA wr
        obtain ⟨i0, hi, hz0, hz1, hz2⟩ := info_parts info5'
        by_cases hBc : c = 13 ∧ ∃ h1 : i + 1 < s.length, s[i + 1] = 10
        · obtain ⟨rfl, h1, h10⟩ := hBc
          have hrs2 : rs = 13 :: 10 :: s.drop (i + 2) := by
            rw [HRc.out, List.drop_eq_getElem_cons h1, h10]
          have hp := pre_any rs [13, 10] ⟨#[13, 10]⟩ rfl (b := true) (by rw [hrs2]; rfl) wr
          have hsl := fun w1 => from_run (s := rs) (k := 2) (by omega) w1
          rw [show rs.drop 2 = s.drop (i + 2) by rw [hrs2]; rfl, show ((2 : Nat) : Int) = 2 from rfl] at hsl
          have hz3 := str_size (s.drop (i + 2))
          rw [List.length_drop] at hz3
          have HEq := Lib.hid (unq_b h1 HHc.out h10)
          have HP := Lib.hid (And.intro hP1 hp)
          clear hrs2 h10 hp hP1 hpA
          generalize hT : str (s.drop (i + 2)) = T at hsl hz3
          have HT := Lib.hid hT
          clear hT
          go_upto_region 8 with (first | (go_at_call 63; (first | (with_reducible refine HP.out.1.mono ?_) | (with_reducible refine HP.out.2.mono ?_)); rintro e w2 ⟨rfl, rfl⟩))
          go_region_law (refine step_append_lies _ (by rfl) _ _ _ (by rfl) B 5 i0 _ 1 1 Tryz.underlying84 hi hz0 hz1 hz2 rfl (by omega) u4 acc.length (nums .u8 (numsP acc)) (by rfl) ((HR.out.own.alloc _).drew) ⟨w2.heap.size, 0, none⟩ 1 1 [.int .u8 10] (by rfl) (by rfl) (World.news_of_block (cs := #[.int .u8 10]) (t := 5) (fr := (0, 0)) (heap_alloc_new w2 _)) (by simp [Value.oneCell']) (by omega) (by unfold maxLen; omega) (by omega) (by simp; omega) (w2.heap.size + 1) (by simp) ?_; intro g6 cap6 w3 hown3 hgrow3 hat3 hlt3)
          have H3 := Lib.hid (And.intro hown3 hgrow3)
          clear hown3 hgrow3 hat3 hlt3
          go_simp
          go_wp2
          go_roundw
          case rel => exact ⟨acc ++ [10], i + 2, UqR.step HR.out hwB (by rw [HT.out]) (by omega) (by omega) HEq.out rfl H3.out.1 H3.out.2⟩
          case measure => simp [vSize]; omega
        · have hpB : Lib.hasPrefix rs [13, 10] = false := by
            cases hx : Lib.hasPrefix rs [13, 10] with
            | false => rfl
            | true => exact (hBc (pre2 (hx.symm ▸ rfl) HRs.out HHc.out)).elim
          have hP2 := pre_any rs [13, 10] ⟨#[13, 10]⟩ rfl hpB wr
          have HP := Lib.hid (And.intro hP1 hP2)
          clear hP1 hP2 hpA hpB
          have hnA : s[i] = 61 → ∀ h2 : i + 2 < s.length, ¬ (s[i + 1] = 13 ∧ s[i + 2] = 10) := fun h h2 k => hA ⟨HHc.out.symm.trans h, h2, k.1, k.2⟩
          have hnB : s[i] = 13 → ∀ h1 : i + 1 < s.length, ¬ s[i + 1] = 10 := fun h h1 k => hBc ⟨HHc.out.symm.trans h, h1, k⟩
          have HNA := Lib.hid hnA
          have HNB := Lib.hid hnB
          clear hnA hnB
          by_cases h61 : c = 61
          · by_cases h2 : i + 2 < s.length
            · subst h61
              obtain ⟨a, ha⟩ : ∃ a, s[i + 1] = a := ⟨_, rfl⟩
              obtain ⟨b, hb⟩ : ∃ b, s[i + 2] = b := ⟨_, rfl⟩
              have hrs3 : rs = 61 :: a :: b :: s.drop (i + 3) := by
                rw [HRc.out, List.drop_eq_getElem_cons (show i + 1 < s.length by omega), List.drop_eq_getElem_cons h2, ha, hb]
              have h1a : (str rs)[1]'(by rw [hzr]; omega) = a := (str_get rs 1 (by omega) (by rw [hzr]; omega)).trans (by simp [hrs3])
              have h2b : (str rs)[2]'(by rw [hzr]; omega) = b := (str_get rs 2 (by omega) (by rw [hzr]; omega)).trans (by simp [hrs3])
              have hg2 : decide ((2 : Int) < (rs.length : Int)) = true := decide_eq_true (by omega)
              have FA := Lib.hid (hexi_any a)
              have FB := Lib.hid (hexi_any b)
              have HAB := Lib.hid (And.intro ha hb)
              clear hrs3 ha hb
              obtain ⟨x, hx⟩ : ∃ x, hexI a = x := ⟨_, rfl⟩
              obtain ⟨y, hy⟩ : ∃ y, hexI b = y := ⟨_, rfl⟩
              have hx0 := hexI_lo a
              have hx1 := hexI_hi a
              have hy0 := hexI_lo b
              have hy1 := hexI_hi b
              rw [hx] at FA hx0 hx1
              rw [hy] at FB hy0 hy1
              have HXY := Lib.hid (And.intro hx hy)
              clear hx hy
              by_cases hx : 0 ≤ x
              · by_cases hy : 0 ≤ y
                · have HEq := Lib.hid (unq_c h2 HHc.out (by rw [HAB.out.1, HXY.out.1]; exact hx) (by rw [HAB.out.2, HXY.out.2]; exact hy))
                  rw [HAB.out.1, HAB.out.2] at HEq
                  have HZ : Hid ((unhex a b).toNat = 16 * x + y) := Lib.hid (by have := unhex_toNat (a := a) (b := b) (by rw [HXY.out.1]; exact hx) (by rw [HXY.out.2]; exact hy); rw [HXY.out.1, HXY.out.2] at this; exact this)
                  have hsl := fun w1 => from_run (s := rs) (k := 3) (by omega) w1
                  rw [show rs.drop 3 = s.drop (i + 3) by rw [← HRs.out, List.drop_drop], show ((3 : Nat) : Int) = 3 from rfl] at hsl
                  have hz3 := str_size (s.drop (i + 3))
                  rw [List.length_drop] at hz3
                  generalize hT : str (s.drop (i + 3)) = T at hsl hz3
                  have HT := Lib.hid hT
                  clear hT
                  go_upto_region 10 with (first | (go_at_call 63; (first | (with_reducible refine HP.out.1.mono ?_) | (with_reducible refine HP.out.2.mono ?_)); rintro e w2 ⟨rfl, rfl⟩))
                  go_quiet ((go_at_call 64; first | exact Calls.quiet_of_same (FA.out _) | exact Calls.quiet_of_same (FB.out _)))
                  go_upto_region 12 with fail
                  have HR5 := Lib.hid (HR.out.drewN nq)
                  have hwB5 : B ≤ (w2.drewN nq).heap.size := hwB
                  clear hwB
                  have HRx := HR
                  clear HR
                  generalize w2.drewN nq = w5 at HR5 hwB5 ⊢
                  have hs1 : IntKind.i64.wrap (x * 16) = x * 16 := by rw [IntKind.wrap_i64]; omega
                  have hs2 := or_nib hx hx1 hy hy1
                  have hs3 : IntKind.u8.wrap (16 * x + y) = 16 * x + y := by rw [IntKind.wrap_u8]; omega
                  go_region_law (refine step_append_lies _ (by rfl) _ _ _ (by rfl) B 5 i0 _ 1 1 Tryz.underlying84 hi hz0 hz1 hz2 rfl (by omega) u4 acc.length (nums .u8 (numsP acc)) (by rfl) ((HR5.out.own.alloc _).drew) ⟨w5.heap.size, 0, none⟩ 1 1 [.int .u8 (16 * x + y)] (by rfl) (by rfl) (World.news_of_block (cs := #[.int .u8 (16 * x + y)]) (t := 5) (fr := (0, 0)) (heap_alloc_new w5 _)) (by simp [Value.oneCell']) (by omega) (by unfold maxLen; omega) (by omega) (by simp; omega) (w5.heap.size + 1) (by simp) ?_; intro g6 cap6 w3 hown3 hgrow3 hat3 hlt3)
                  have H3 := Lib.hid (And.intro hown3 hgrow3)
                  clear hown3 hgrow3 hat3 hlt3
                  go_simp
                  go_wp2
                  go_roundw
                  case rel => exact ⟨acc ++ [unhex a b], i + 3, UqR.step HR5.out hwB5 (by rw [HT.out]) (by omega) (by omega) HEq.out HZ.out.symm H3.out.1 H3.out.2⟩
                  case measure => simp [vSize]; omega
                · have HEq := Lib.hid (unq_d hl HNA.out HNB.out (fun _ _ k => hy (by have := k.2; rw [HAB.out.2, HXY.out.2] at this; exact this)))
                  rw [HHc.out] at HEq
                  have hsl := fun w1 => from_run (s := rs) (k := 1) (by omega) w1
                  rw [show rs.drop 1 = s.drop (i + 1) by rw [← HRs.out, List.drop_drop], show ((1 : Nat) : Int) = 1 from rfl] at hsl
                  have hz3 := str_size (s.drop (i + 1))
                  rw [List.length_drop] at hz3
                  generalize hT : str (s.drop (i + 1)) = T at hsl hz3
                  have HT := Lib.hid hT
                  clear hT
                  go_upto_region 10 with (first | (go_at_call 63; (first | (with_reducible refine HP.out.1.mono ?_) | (with_reducible refine HP.out.2.mono ?_)); rintro e w2 ⟨rfl, rfl⟩))
                  go_quiet ((go_at_call 64; first | exact Calls.quiet_of_same (FA.out _) | exact Calls.quiet_of_same (FB.out _)))
                  go_upto_region 13 with fail
                  have HR5 := Lib.hid (HR.out.drewN nq)
                  have hwB5 : B ≤ (w2.drewN nq).heap.size := hwB
                  clear hwB
                  have HRx := HR
                  clear HR
                  generalize w2.drewN nq = w5 at HR5 hwB5 ⊢
                  go_region_law (refine step_append_lies _ (by rfl) _ _ _ (by rfl) B 5 i0 _ 1 1 Tryz.underlying84 hi hz0 hz1 hz2 rfl (by omega) u4 acc.length (nums .u8 (numsP acc)) (by rfl) ((HR5.out.own.alloc _).drew) ⟨w5.heap.size, 0, none⟩ 1 1 [.int .u8 61] (by rfl) (by rfl) (World.news_of_block (cs := #[.int .u8 61]) (t := 5) (fr := (0, 0)) (heap_alloc_new w5 _)) (by simp [Value.oneCell']) (by omega) (by unfold maxLen; omega) (by omega) (by simp; omega) (w5.heap.size + 1) (by simp) ?_; intro g6 cap6 w3 hown3 hgrow3 hat3 hlt3)
                  have H3 := Lib.hid (And.intro hown3 hgrow3)
                  clear hown3 hgrow3 hat3 hlt3
                  go_simp
                  go_wp2
                  go_roundw
                  case rel => exact ⟨acc ++ [61], i + 1, UqR.step HR5.out hwB5 (by rw [HT.out]) (by omega) (by omega) HEq.out rfl H3.out.1 H3.out.2⟩
                  case measure => simp [vSize]; omega
              · have HEq := Lib.hid (unq_d hl HNA.out HNB.out (fun _ _ k => hx (by have := k.1; rw [HAB.out.1, HXY.out.1] at this; exact this)))
                rw [HHc.out] at HEq
                have hsl := fun w1 => from_run (s := rs) (k := 1) (by omega) w1
                rw [show rs.drop 1 = s.drop (i + 1) by rw [← HRs.out, List.drop_drop], show ((1 : Nat) : Int) = 1 from rfl] at hsl
                have hz3 := str_size (s.drop (i + 1))
                rw [List.length_drop] at hz3
                generalize hT : str (s.drop (i + 1)) = T at hsl hz3
                have HT := Lib.hid hT
                clear hT
                go_upto_region 10 with (first | (go_at_call 63; (first | (with_reducible refine HP.out.1.mono ?_) | (with_reducible refine HP.out.2.mono ?_)); rintro e w2 ⟨rfl, rfl⟩))
                go_quiet ((go_at_call 64; first | exact Calls.quiet_of_same (FA.out _) | exact Calls.quiet_of_same (FB.out _)))
                go_upto_region 13 with fail
                have HR5 := Lib.hid (HR.out.drewN nq)
                have hwB5 : B ≤ (w2.drewN nq).heap.size := hwB
                clear hwB
                have HRx := HR
                clear HR
                generalize w2.drewN nq = w5 at HR5 hwB5 ⊢
                go_region_law (refine step_append_lies _ (by rfl) _ _ _ (by rfl) B 5 i0 _ 1 1 Tryz.underlying84 hi hz0 hz1 hz2 rfl (by omega) u4 acc.length (nums .u8 (numsP acc)) (by rfl) ((HR5.out.own.alloc _).drew) ⟨w5.heap.size, 0, none⟩ 1 1 [.int .u8 61] (by rfl) (by rfl) (World.news_of_block (cs := #[.int .u8 61]) (t := 5) (fr := (0, 0)) (heap_alloc_new w5 _)) (by simp [Value.oneCell']) (by omega) (by unfold maxLen; omega) (by omega) (by simp; omega) (w5.heap.size + 1) (by simp) ?_; intro g6 cap6 w3 hown3 hgrow3 hat3 hlt3)
                have H3 := Lib.hid (And.intro hown3 hgrow3)
                clear hown3 hgrow3 hat3 hlt3
                go_simp
                go_wp2
                go_roundw
                case rel => exact ⟨acc ++ [61], i + 1, UqR.step HR5.out hwB5 (by rw [HT.out]) (by omega) (by omega) HEq.out rfl H3.out.1 H3.out.2⟩
                case measure => simp [vSize]; omega
            · subst h61
              have hg2 : decide ((2 : Int) < (rs.length : Int)) = false := decide_eq_false (by omega)
              have HEq := Lib.hid (unq_d hl HNA.out HNB.out (fun _ k => absurd k h2))
              rw [HHc.out] at HEq
              have hsl := fun w1 => from_run (s := rs) (k := 1) (by omega) w1
              rw [show rs.drop 1 = s.drop (i + 1) by rw [← HRs.out, List.drop_drop], show ((1 : Nat) : Int) = 1 from rfl] at hsl
              have hz3 := str_size (s.drop (i + 1))
              rw [List.length_drop] at hz3
              generalize hT : str (s.drop (i + 1)) = T at hsl hz3
              have HT := Lib.hid hT
              clear hT
              go_upto_region 13 with (first | (go_at_call 63; (first | (with_reducible refine HP.out.1.mono ?_) | (with_reducible refine HP.out.2.mono ?_)); rintro e w2 ⟨rfl, rfl⟩))
              go_region_law (refine step_append_lies _ (by rfl) _ _ _ (by rfl) B 5 i0 _ 1 1 Tryz.underlying84 hi hz0 hz1 hz2 rfl (by omega) u4 acc.length (nums .u8 (numsP acc)) (by rfl) ((HR.out.own.alloc _).drew) ⟨w2.heap.size, 0, none⟩ 1 1 [.int .u8 61] (by rfl) (by rfl) (World.news_of_block (cs := #[.int .u8 61]) (t := 5) (fr := (0, 0)) (heap_alloc_new w2 _)) (by simp [Value.oneCell']) (by omega) (by unfold maxLen; omega) (by omega) (by simp; omega) (w2.heap.size + 1) (by simp) ?_; intro g6 cap6 w3 hown3 hgrow3 hat3 hlt3)
              have H3 := Lib.hid (And.intro hown3 hgrow3)
              clear hown3 hgrow3 hat3 hlt3
              go_simp
              go_wp2
              go_roundw
              case rel => exact ⟨acc ++ [61], i + 1, UqR.step HR.out hwB (by rw [HT.out]) (by omega) (by omega) HEq.out rfl H3.out.1 H3.out.2⟩
              case measure => simp [vSize]; omega
          · have hn61 : ((c.toNat : Int) == 61) = false := beq_no (k := 61) (by decide) h61
            have HEq := Lib.hid (unq_d hl HNA.out HNB.out (fun k => absurd (HHc.out.symm.trans k) h61))
            rw [HHc.out] at HEq
            have hsl := fun w1 => from_run (s := rs) (k := 1) (by omega) w1
            rw [show rs.drop 1 = s.drop (i + 1) by rw [← HRs.out, List.drop_drop], show ((1 : Nat) : Int) = 1 from rfl] at hsl
            have hz3 := str_size (s.drop (i + 1))
            rw [List.length_drop] at hz3
            generalize hT : str (s.drop (i + 1)) = T at hsl hz3
            have HT := Lib.hid hT
            clear hT
            go_upto_region 13 with (first | (go_at_call 63; (first | (with_reducible refine HP.out.1.mono ?_) | (with_reducible refine HP.out.2.mono ?_)); rintro e w2 ⟨rfl, rfl⟩))
            go_region_law (refine step_append_lies _ (by rfl) _ _ _ (by rfl) B 5 i0 _ 1 1 Tryz.underlying84 hi hz0 hz1 hz2 rfl (by omega) u4 acc.length (nums .u8 (numsP acc)) (by rfl) ((HR.out.own.alloc _).drew) ⟨w2.heap.size, 0, none⟩ 1 1 [.int .u8 c.toNat] (by rfl) (by rfl) (World.news_of_block (cs := #[.int .u8 c.toNat]) (t := 5) (fr := (0, 0)) (heap_alloc_new w2 _)) (by simp [Value.oneCell']) (by omega) (by unfold maxLen; omega) (by omega) (by simp; omega) (w2.heap.size + 1) (by simp) ?_; intro g6 cap6 w3 hown3 hgrow3 hat3 hlt3)
            have H3 := Lib.hid (And.intro hown3 hgrow3)
            clear hown3 hgrow3 hat3 hlt3
            go_simp
            go_wp2
            go_roundw
            case rel => exact ⟨acc ++ [c], i + 1, UqR.step HR.out hwB (by rw [HT.out]) (by omega) (by omega) HEq.out rfl H3.out.1 H3.out.2⟩
            case measure => simp [vSize]; omega
end Go.Proofs.YtllhpkpckjacfaaGreatDoor
