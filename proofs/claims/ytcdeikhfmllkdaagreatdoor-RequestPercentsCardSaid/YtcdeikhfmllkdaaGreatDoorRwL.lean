/- ref32: Unpercent. -/
import Derived.Test.YtcdeikhfmllkdaaGreatDoorRwK
namespace Go.Proofs.YtcdeikhfmllkdaaGreatDoor
open Go.RowKit
set_option linter.unusedVariables false
set_option linter.unusedSimpArgs false
theorem u_hex {s : Bytes} {i : Nat} (h : i + 2 < s.length) (hc : s[i] = 37) (ha : 0 ≤ hexI s[i + 1]) (hb : 0 ≤ hexI s[i + 2]) : unpM (s.drop i) = unhex s[i + 1] s[i + 2] :: unpM (s.drop (i + 3)) := by
  rw [List.drop_eq_getElem_cons (show i < s.length by omega), List.drop_eq_getElem_cons (show i + 1 < s.length by omega), List.drop_eq_getElem_cons h, hc, unp_hex _ ha hb]
theorem u_no {s : Bytes} {i : Nat} (h : i < s.length) (hn : s[i] = 37 → ∀ h2 : i + 2 < s.length, ¬ (0 ≤ hexI s[i + 1] ∧ 0 ≤ hexI s[i + 2])) : unpM (s.drop i) = s[i] :: unpM (s.drop (i + 1)) := by
  rw [List.drop_eq_getElem_cons h, unpM, if_neg]
  rintro ⟨hc, hl, ha, hb⟩
  rw [List.length_drop] at hl
  have h2 : i + 2 < s.length := by omega
  refine hn hc h2 ?_
  rw [List.drop_eq_getElem_cons (show i + 1 < s.length by omega), List.drop_eq_getElem_cons h2] at ha hb
  exact ⟨ha, hb⟩
theorem own_bel {w w1 : World} {base : Nat} {e : TypeId} {size n : Nat} {v : Value} {xs : List Value} (h : w.ownsRow base e size v n xs) (hb : Below w.heap.size w w1) : w1.ownsRow base e size v n xs :=
  h.kept (row := none) ⟨hb.os, hb.tape, hb.output, hb.size, fun i hi _ => hb.block i hi⟩ (by cases v.ownBlock <;> simp)
/-- What the loop keeps. -/
structure UrR (w : World) (s : Bytes) (B : Nat) (v4 : Value) (wr : World) (acc : Bytes) (i : Nat) : Prop where
  le : i ≤ s.length
  len : acc.length ≤ i
  eq : acc ++ unpM (s.drop i) = unpM s
  own : wr.ownsRow B 5 1 v4 acc.length (nums .u8 (numsP acc))
  bel : Below B w wr
theorem UrR.step {w wr w3 : World} {s : Bytes} {B : Nat} {v4 V : Value} {acc : Bytes} {i j : Nat} {c : UInt8} {z : Int} {o : Obj} (h : UrR w s B v4 wr acc i) (hB : B ≤ wr.heap.size) (hj : j ≤ s.length) (hij : i < j)
    (he : unpM (s.drop i) = c :: unpM (s.drop j)) (hz : z = (c.toNat : Int)) (ho : w3.ownsRow B 5 1 V (acc.length + 1) (nums .u8 (numsP acc) ++ [.int .u8 z])) (hg : (wr.alloc o).grownBy w3 v4.ownBlock) : UrR w s B V w3 (acc ++ [c]) j := by
  refine ⟨hj, by have := h.len; simp; omega, ?_, ?_, below_grown_own h.bel hB h.own hg⟩
  · rw [List.append_assoc, List.singleton_append, ← he]; exact h.eq
  · subst hz
    rw [numsP_app, List.length_append]
    simpa [nums, numsP] using ho
set_option maxRecDepth 100000 in
set_option maxHeartbeats 16000000 in
theorem rUnpercent_any (w : World) (s : Bytes) (hs : s.length ≤ 100000) : Calls Tryz.prog 22 #[.string (str s)] w fun e w' => e = .returned (.tuple #[.string (str (unpR s).1), .int .i64 (unpR s).2]) ∧ Below w.heap.size w w' := by
  obtain ⟨B, hB⟩ : ∃ B, w.heap.size = B := ⟨_, rfl⟩
  have HB := Lib.hid hB
  rw [hB]
  have hsz := str_size s
  obtain ⟨S, hS⟩ : ∃ S, str s = S := ⟨_, rfl⟩
  have HSt := Lib.hid hS
  have HGet : Hid (∀ n (hn : n < s.length) (hn2 : n < S.size), S[n]'hn2 = s[n]'hn) := by
    subst hS; exact Lib.hid (fun n hn hn2 => str_get s n hn hn2)
  rw [hS] at hsz ⊢
  clear hB hS
  obtain ⟨i0, hi, hz0, hz1, hz2⟩ := info_parts info5'
  go_enter Tryz.func22, Tryz.ntmps22
  go_wp2_with fail
  go_loopw [4, 5] (fun v4 v5 wr => ∃ acc i, v5 = .int .i64 (i : Nat) ∧ UrR w s B v4 wr acc i) (fun _ v5 _ => s.length - (intOf v5).toNat)
  case atStart => exact ⟨[], 0, rfl, by omega, by simp, by simp, World.ownsRow_nil _ _ _ _, Below.refl _ _⟩
  case round =>
    obtain ⟨acc, i, rfl, hr⟩ := hrel
    have HR := Lib.hid hr
    have hle := hr.le
    have hlen := hr.len
    have hwB : B ≤ wr.heap.size := by have := hr.bel.size; rw [HB.out] at this; exact this
    clear hr
    by_cases hl : i < s.length
    · obtain ⟨c, hc⟩ : ∃ c, s[i] = c := ⟨_, rfl⟩
      have hn2 : i < S.size := by omega
      have hsc := (HGet.out i hl hn2).trans hc
      have HHc := Lib.hid hc
      have hc256 := c.toNat_lt
      clear hc
      by_cases h37 : c = 37
      · have hn : ((c.toNat : Int) == 37) = true := by subst h37; rfl
        have HZ : Hid ((37 : Int) = (c.toNat : Int)) := Lib.hid (by subst h37; rfl)
        by_cases h2 : i + 2 < s.length
        · obtain ⟨a, ha⟩ : ∃ a, s[i + 1] = a := ⟨_, rfl⟩
          obtain ⟨b, hb⟩ : ∃ b, s[i + 2] = b := ⟨_, rfl⟩
          have hn1 : i + 1 < S.size := by omega
          have hn22 : i + 2 < S.size := by omega
          have hsa := (HGet.out (i + 1) (by omega) hn1).trans ha
          have hsb := (HGet.out (i + 2) h2 hn22).trans hb
          have FA := Lib.hid (digit_any a)
          have FB := Lib.hid (digit_any b)
          have HAB := Lib.hid (And.intro ha hb)
          clear ha hb
          have hw1 : IntKind.i64.wrap ((i : Int) + 1) = (i : Int) + 1 := by rw [IntKind.wrap_i64]; omega
          have hw2 : IntKind.i64.wrap ((i : Int) + 2) = (i : Int) + 2 := by rw [IntKind.wrap_i64]; omega
          have ix1 : ∀ w1, Sem.run Tryz.prog (Instr.index 9 (.string S) (.int .i64 ((i : Int) + 1))) w1 = .ok (.int .u8 (a.toNat : Int)) w1 := fun w1 => ix_run hn1 hsa w1
          have ix2 : ∀ w1, Sem.run Tryz.prog (Instr.index 9 (.string S) (.int .i64 ((i : Int) + 2))) w1 = .ok (.int .u8 (b.toNat : Int)) w1 := fun w1 => ix_run hn22 hsb w1
          clear hsa hsb hn1 hn22
          by_cases hA : 0 ≤ hexI a
          · by_cases hBb : 0 ≤ hexI b
            · have HEq := Lib.hid (u_hex h2 (by rw [HHc.out]; exact h37) (by rw [HAB.out.1]; exact hA) (by rw [HAB.out.2]; exact hBb))
              rw [HAB.out.1, HAB.out.2] at HEq
              have hx1 := hexI_hi a
              have hy1 := hexI_hi b
              have HZ2 := Lib.hid (unhex_toNat hA hBb)
              rw [show digN a = hexI a by unfold digN; rw [if_pos hA]] at FA
              rw [show digN b = hexI b by unfold digN; rw [if_pos hBb]] at FB
              generalize hexI a = x at FA hx1 hA HZ2
              generalize hexI b = y at FB hy1 hBb HZ2
              have hs1 : IntKind.i64.wrap (16 * x) = 16 * x := by rw [IntKind.wrap_i64]; omega
              have hs2 : IntKind.i64.wrap (16 * x + y) = 16 * x + y := by rw [IntKind.wrap_i64]; omega
              have hs3 : IntKind.u8.wrap (16 * x + y) = 16 * x + y := by rw [IntKind.wrap_u8]; omega
              go_upto_region 6 with (first | (go_at_call 67; (first | (with_reducible refine (FA.out wr).mono ?_) | (with_reducible refine (FB.out wr).mono ?_)); rintro e wx ⟨rfl, hwx⟩; rw [hwx]))
              go_region_law (first
                | (refine step_append_lies _ (by rfl) _ _ _ (by rfl) B 5 i0 _ 1 1 Tryz.underlying105 hi hz0 hz1 hz2 rfl (by omega) u4 acc.length (nums .u8 (numsP acc)) (by rfl) ((HR.out.own.alloc _).drew) ⟨wr.heap.size, 0, none⟩ 1 1 [.int .u8 (16 * x + y)] (by rfl) (by rfl) (World.news_of_block (cs := #[.int .u8 (16 * x + y)]) (t := 5) (fr := (0, 0)) (heap_alloc_new wr _)) (by simp [Value.oneCell']) (by omega) (by unfold maxLen; omega) (by omega) (by simp; omega) (wr.heap.size + 1) (by simp) ?_; intro g6 cap6 w3 hown3 hgrow3 hat3 hlt3; have H3 := Lib.hid (And.intro hown3 hgrow3); clear hown3 hgrow3 hat3 hlt3)
                | (go_simp; go_at_call 67; (first | (with_reducible refine (FA.out _).mono ?_) | (with_reducible refine (FB.out _).mono ?_)); rintro e wx ⟨rfl, hwx⟩; rw [hwx]))
              all_goals
                go_simp
                go_wp2
                go_roundw
                case rel => exact ⟨acc ++ [unhex a b], i + 3, by go_num, UrR.step HR.out hwB (by omega) (by omega) HEq.out HZ2.out.symm H3.out.1 ⟨H3.out.2.os, H3.out.2.tape, H3.out.2.output, H3.out.2.size, H3.out.2.block⟩⟩
                case measure => simp [intOf]; omega
            · have HEq := Lib.hid (u_no hl (fun _ _ k => hBb (by have := k.2; rw [HAB.out.2] at this; exact this)))
              rw [HHc.out] at HEq
              have hx1 := hexI_hi a
              rw [show digN a = hexI a by unfold digN; rw [if_pos hA]] at FA
              rw [show digN b = 16 by unfold digN; rw [if_neg hBb]] at FB
              generalize hexI a = x at FA hx1 hA
              clear hBb
              go_wp2_with (first | (go_at_call 67; (first | (with_reducible refine (FA.out wr).mono ?_) | (with_reducible refine (FB.out wr).mono ?_)); rintro e wx ⟨rfl, hwx⟩; rw [hwx]) | (refine wpList_append_lies _ rfl _ _ _ rfl B 5 i0 _ 1 1 Tryz.underlying105 hi hz0 hz1 hz2 rfl (by omega) u4 acc.length (nums .u8 (numsP acc)) (by rfl) (HR.out.own.alloc _) ⟨wr.heap.size, 0, none⟩ 1 1 [.int .u8 37] (by rfl) (by rfl) (World.news_of_block (cs := #[.int .u8 37]) (t := 5) (fr := (0, 0)) (heap_alloc_new wr _)) (by simp [Value.oneCell']) (by omega) (by unfold maxLen; omega) (by omega) (by simp; omega) (wr.heap.size + 1) (by simp) ?_; intro g6 cap6 w3 hown3 hgrow3 hat3 hlt3; have H3 := Lib.hid (And.intro hown3 hgrow3); clear hown3 hgrow3 hat3 hlt3))
              go_roundw
              case rel => exact ⟨acc ++ [c], i + 1, by go_num, UrR.step HR.out hwB (by omega) (by omega) HEq.out HZ.out H3.out.1 H3.out.2⟩
              case measure => simp [intOf]; omega
          · have HEq := Lib.hid (u_no hl (fun _ _ k => hA (by have := k.1; rw [HAB.out.1] at this; exact this)))
            rw [HHc.out] at HEq
            rw [show digN a = 16 by unfold digN; rw [if_neg hA]] at FA
            clear hA
            go_wp2_with (first | (go_at_call 67; (first | (with_reducible refine (FA.out wr).mono ?_) | (with_reducible refine (FB.out wr).mono ?_)); rintro e wx ⟨rfl, hwx⟩; rw [hwx]) | (refine wpList_append_lies _ rfl _ _ _ rfl B 5 i0 _ 1 1 Tryz.underlying105 hi hz0 hz1 hz2 rfl (by omega) u4 acc.length (nums .u8 (numsP acc)) (by rfl) (HR.out.own.alloc _) ⟨wr.heap.size, 0, none⟩ 1 1 [.int .u8 37] (by rfl) (by rfl) (World.news_of_block (cs := #[.int .u8 37]) (t := 5) (fr := (0, 0)) (heap_alloc_new wr _)) (by simp [Value.oneCell']) (by omega) (by unfold maxLen; omega) (by omega) (by simp; omega) (wr.heap.size + 1) (by simp) ?_; intro g6 cap6 w3 hown3 hgrow3 hat3 hlt3; have H3 := Lib.hid (And.intro hown3 hgrow3); clear hown3 hgrow3 hat3 hlt3))
            go_roundw
            case rel => exact ⟨acc ++ [c], i + 1, by go_num, UrR.step HR.out hwB (by omega) (by omega) HEq.out HZ.out H3.out.1 H3.out.2⟩
            case measure => simp [intOf]; omega
        · have HEq := Lib.hid (u_no hl (fun _ k => absurd k h2))
          rw [HHc.out] at HEq
          go_wp2_with (first | (refine wpList_append_lies _ rfl _ _ _ rfl B 5 i0 _ 1 1 Tryz.underlying105 hi hz0 hz1 hz2 rfl (by omega) u4 acc.length (nums .u8 (numsP acc)) (by rfl) (HR.out.own.alloc _) ⟨wr.heap.size, 0, none⟩ 1 1 [.int .u8 37] (by rfl) (by rfl) (World.news_of_block (cs := #[.int .u8 37]) (t := 5) (fr := (0, 0)) (heap_alloc_new wr _)) (by simp [Value.oneCell']) (by omega) (by unfold maxLen; omega) (by omega) (by simp; omega) (wr.heap.size + 1) (by simp) ?_; intro g6 cap6 w3 hown3 hgrow3 hat3 hlt3; have H3 := Lib.hid (And.intro hown3 hgrow3); clear hown3 hgrow3 hat3 hlt3))
          go_roundw
          case rel => exact ⟨acc ++ [c], i + 1, by go_num, UrR.step HR.out hwB (by omega) (by omega) HEq.out HZ.out H3.out.1 H3.out.2⟩
          case measure => simp [intOf]; omega
      · have hn : ((c.toNat : Int) == 37) = false := beq_no (k := 37) (by decide) h37
        have HEq := Lib.hid (u_no hl (fun k => absurd (HHc.out.symm.trans k) h37))
        rw [HHc.out] at HEq
        go_wp2_with (first | (refine wpList_append_lies _ rfl _ _ _ rfl B 5 i0 _ 1 1 Tryz.underlying105 hi hz0 hz1 hz2 rfl (by omega) u4 acc.length (nums .u8 (numsP acc)) (by rfl) (HR.out.own.alloc _) ⟨wr.heap.size, 0, none⟩ 1 1 [.int .u8 c.toNat] (by rfl) (by rfl) (World.news_of_block (cs := #[.int .u8 c.toNat]) (t := 5) (fr := (0, 0)) (heap_alloc_new wr _)) (by simp [Value.oneCell']) (by omega) (by unfold maxLen; omega) (by omega) (by simp; omega) (wr.heap.size + 1) (by simp) ?_; intro g6 cap6 w3 hown3 hgrow3 hat3 hlt3; have H3 := Lib.hid (And.intro hown3 hgrow3); clear hown3 hgrow3 hat3 hlt3))
        go_roundw
        case rel => exact ⟨acc ++ [c], i + 1, by go_num, UrR.step HR.out hwB (by omega) (by omega) HEq.out rfl H3.out.1 H3.out.2⟩
        case measure => simp [intOf]; omega
    · have hend : i = s.length := by omega
      have he : unpM s = acc := by have := HR.out.eq; rw [List.drop_eq_nil_of_le (by omega), unpM, List.append_nil] at this; exact this.symm
      have hc1 := own_string (P := Tryz.prog) Tryz.underlying105 Tryz.underlying5 Tryz.underlying9 HR.out.own
      rw [numsP_str] at hc1
      have hq0 := rPercent_any wr acc (by omega)
      by_cases hq : percM acc = s
      · have hu : unpR s = (acc, 0) := by unfold unpR; rw [he, if_pos hq]
        have HU := Lib.hid hu
        rw [hq, HSt.out] at hq0
        have HQ := Lib.hid hq0
        have e1 : (S.toList == S.toList) = true := beq_self_eq_true _
        have e2 : (S.toList != S.toList) = false := by rw [bne, e1]; rfl
        clear hq hu he hq0
        go_wp2_with (first | (go_at_call 24; refine HQ.out.mono ?_; rintro e w2 ⟨rfl, hb2⟩; have HB2 := Lib.hid hb2; have hc2 := own_string (P := Tryz.prog) Tryz.underlying105 Tryz.underlying5 Tryz.underlying9 (own_bel HR.out.own hb2); rw [numsP_str] at hc2; clear hb2))
        go_ret2
        exact ⟨by rw [HU.out]; rfl, HR.out.bel.trans (HB2.out.mono hwB)⟩
      · have hu : unpR s = ([], 4) := by unfold unpR; rw [he, if_neg hq]
        have HU := Lib.hid hu
        have e1 : ((str (percM acc)).toList == S.toList) = false := by rw [← HSt.out, str_tl, str_tl]; exact beq_eq_false_iff_ne.2 hq
        have e2 : ((str (percM acc)).toList != S.toList) = true := by rw [bne, e1]; rfl
        obtain ⟨Q, hQ⟩ : ∃ Q, str (percM acc) = Q := ⟨_, rfl⟩
        rw [hQ] at hq0 e1 e2
        have HQ := Lib.hid hq0
        clear hq hu he hq0 hQ
        go_wp2_with (first | (go_at_call 24; refine HQ.out.mono ?_; rintro e w2 ⟨rfl, hb2⟩; have HB2 := Lib.hid hb2; clear hb2))
        go_ret2
        exact ⟨by rw [HU.out]; rfl, HR.out.bel.trans (HB2.out.mono hwB)⟩
end Go.Proofs.YtcdeikhfmllkdaaGreatDoor
