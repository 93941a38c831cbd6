/- PayloadBack, walked. -/
import Derived.Test.YtllhpkpckjacfaaGreatDoorUqW
namespace Go.Proofs.YtllhpkpckjacfaaGreatDoor
open Go.RowKit Go.Proofs.YtllhpkpckjacfaaGreatDoorW.PrintWords PTemplateFilters
set_option linter.unusedVariables false
set_option linter.unusedSimpArgs false

theorem unqR_quot (s : Bytes) : unqR (quotM s 0) = (s, 0) := by
  unfold unqR
  rw [unq_quot, if_pos rfl]
theorem unqR_form (t : Bytes) : ((unqR t).2 = 0 ∧ quotM (unqR t).1 0 = t) ∨ ((unqR t).2 = 4 ∧ (unqR t).1 = []) := by
  unfold unqR
  split
  · rename_i h; exact Or.inl ⟨rfl, h⟩
  · exact Or.inr ⟨rfl, rfl⟩
theorem quot_at2 {b q : Bytes} (hq : quotM b 0 = q) : ∀ (i : Nat) (h : i < q.length), (q[i] = 10 → (∃ h0 : 0 < i, q[i - 1] = 13) ∧ lenL (q.take i).reverse ≤ 77 ∧ (∀ h1 : 1 < i, blankB q[i - 2] = false)) ∧ q[i].toNat ≤ 126 ∧ (q[i].toNat < 32 → q[i] = 9 ∨ q[i] = 10 ∨ q[i] = 13) := by
  subst hq; exact quot_at b
theorem lenL_next {q : Bytes} {i : Nat} (h : i < q.length) : lenL (q.take (i + 1)).reverse = if q[i] = 10 then 0 else lenL (q.take i).reverse + 1 := by
  rw [List.take_succ_eq_append_getElem h, List.reverse_append]
  rfl
theorem lenL_le : ∀ l : Bytes, lenL l ≤ l.length
  | [] => Nat.le_refl _
  | c :: r => by rw [lenL]; have := lenL_le r; split <;> simp <;> omega
set_option maxRecDepth 100000 in
set_option maxHeartbeats 4000000 in
theorem back_holds1 {w : World} (hT : Tabs w) (b t : Bytes) : Calls Tryz.prog 12 #[.string (str b), .string (str t)] w fun e w' => e = .returned (.bool true) ∧ Below w.heap.size w w' := by
  have hz := str_size b
  have hzt := str_size t
  have HAw : Hid (∀ w1, Below w.heap.size w w1 → Calls Tryz.prog 20 #[] w1 fun e w' => e = .returned (.bool true) ∧ Below w1.heap.size w1 w') := Lib.hid (fun w1 hb => awake29_any (hT.below hb))
  by_cases h3 : 2000 < b.length
  · have h3i : decide ((2000 : Int) < (b.length : Int)) = true := decide_eq_true (by omega)
    have HA := Lib.hid (HAw.out w (Below.refl _ _))
    go_enter Tryz.func12, Tryz.ntmps12
    go_wp2_with (first | (go_at_call 20; (refine HA.out.mono ?_); rintro e w2 ⟨rfl, hb2⟩))
    go_ret
    exact ⟨rfl, hb2⟩
  have h3i : decide ((2000 : Int) < (b.length : Int)) = false := decide_eq_false (by omega)
  by_cases h4 : 2000 < t.length
  · have h4i : decide ((2000 : Int) < (t.length : Int)) = true := decide_eq_true (by omega)
    have HA := Lib.hid (HAw.out w (Below.refl _ _))
    go_enter Tryz.func12, Tryz.ntmps12
    go_wp2_with (first | (go_at_call 20; (refine HA.out.mono ?_); rintro e w2 ⟨rfl, hb2⟩))
    go_ret
    exact ⟨rfl, hb2⟩
  have h4i : decide ((2000 : Int) < (t.length : Int)) = false := decide_eq_false (by omega)
  have F1 := Lib.hid (Quoted_any w b (by omega))
  obtain ⟨q, hq⟩ : ∃ q, quotM b 0 = q := ⟨_, rfl⟩
  have hql : q.length ≤ 12000 := by rw [← hq]; have := quotM_len b 0; omega
  have F2 := Lib.hid (fun (w1 : World) => Unquoted_any w1 q (by omega))
  have hb2 : unqR q = (b, 0) := by rw [← hq]; exact unqR_quot b
  have HAt := quot_at2 hq
  have HLa := quot_last b
  rw [hq] at F1 HLa
  rw [hb2] at F2
  have HAT := Lib.hid HAt
  have HLA := Lib.hid HLa
  have F3 := Lib.hid (fun (w1 : World) => Unquoted_any w1 t (by omega))
  have hzq := str_size q
  obtain ⟨S, hS⟩ : ∃ S, str b = S := ⟨_, rfl⟩
  rw [hS] at F1 F2 hz ⊢
  have e1 : (S.toList == S.toList) = true := beq_self_eq_true _
  have e2 : (S.toList != S.toList) = false := by rw [bne, e1]; rfl
  clear hS hq hb2 HAt HLa
  go_enter Tryz.func12, Tryz.ntmps12
  go_wp2_with fail
  refine F1.out.mono ?_
  rintro e w2 ⟨rfl, hb2⟩
  have HB2 := Lib.hid hb2
  have F2' := Lib.hid (F2.out w2)
  clear hb2
  go_wp2_with fail
  refine F2'.out.mono ?_
  rintro e w3 ⟨rfl, hb3⟩
  have HB3 := Lib.hid (HB2.out.trans (hb3.mono HB2.out.size))
  clear hb3
  go_wp2_with fail
  go_loopw [8, 9] (fun v8 v9 wr => ∃ i : Nat, i ≤ q.length ∧ v8 = .int .i64 (lenL (q.take i).reverse) ∧ v9 = .int .i64 i ∧ wr = w3) (fun _ v9 _ => q.length - (intOf v9).toNat)
  case atStart => exact ⟨0, Nat.zero_le _, rfl, rfl, rfl⟩
  case round =>
    obtain ⟨i, hi, rfl, rfl, rfl⟩ := hrel
    by_cases hlt : i < q.length
    · obtain ⟨L, hL⟩ : ∃ L, lenL (q.take i).reverse = L := ⟨_, rfl⟩
      have hLn := lenL_next hlt
      have hLb : L ≤ i := by rw [← hL]; have := lenL_le (q.take i).reverse; rw [List.length_reverse, List.length_take] at this; omega
      have hat := HAT.out i hlt
      rw [hL] at hLn hat
      obtain ⟨c, hc⟩ : ∃ c, q[i] = c := ⟨_, rfl⟩
      rw [hc] at hLn hat
      have hsc : (str q)[i]'(by rw [hzq]; exact hlt) = c := (str_get q i hlt (by rw [hzq]; exact hlt)).trans hc
      rw [hL]
      obtain ⟨hat1, hat2, hat3⟩ := hat
      have HLn := Lib.hid hLn
      clear hLn hL hc
      by_cases h10 : c = 10
      · obtain ⟨⟨hi0, h13⟩, hL77, hbl⟩ := hat1 h10
        subst h10
        have g77 : decide ((77 : Int) < (L : Int)) = false := decide_eq_false (by omega)
        have HLn0 : Hid (lenL (q.take (i + 1)).reverse = 0) := Lib.hid (HLn.out.trans (if_pos rfl))
        obtain ⟨j, rfl⟩ : ∃ j, i = j + 1 := ⟨i - 1, by omega⟩
        have hj0 : (((j + 1 : Nat) : Int) == 0) = false := by rw [beq_eq_false_iff_ne]; omega
        have hjw : IntKind.i64.wrap (((j + 1 : Nat) : Int) - 1) = (j : Int) := by rw [IntKind.wrap_i64]; omega
        have hs13 : (str q)[j]'(by rw [hzq]; omega) = 13 := (str_get q j (by omega) (by rw [hzq]; omega)).trans h13
        clear hat1 hat2 hat3 h13 HLn
        cases j with
        | zero =>
          have h1 : decide ((1 : Int) < ((0 + 1 : Nat) : Int)) = false := by decide
          go_wp2_with fail
          go_roundw
          case measure => simp [intOf]; omega
          case rel => exact ⟨0 + 1 + 1, by omega, by rw [HLn0.out]; rfl, by go_num, trivial⟩
        | succ k =>
          have h1 : decide ((1 : Int) < ((k + 1 + 1 : Nat) : Int)) = true := decide_eq_true (by omega)
          have hkw : IntKind.i64.wrap (((k + 1 + 1 : Nat) : Int) - 2) = (k : Int) := by rw [IntKind.wrap_i64]; omega
          have hb := hbl (by omega)
          obtain ⟨d, hd⟩ : ∃ d, q[k + 1 + 1 - 2]'(by omega) = d := ⟨_, rfl⟩
          have hsd : (str q)[k]'(by rw [hzq]; omega) = d := (str_get q k (by omega) (by rw [hzq]; omega)).trans hd
          rw [hd] at hb
          have hd32 : ((d.toNat : Int) == 32) = false := by
            rw [beq_eq_false_iff_ne]; intro e
            have : d.toNat = 32 := by omega
            simp [blankB, this] at hb
          have hd9 : ((d.toNat : Int) == 9) = false := by
            rw [beq_eq_false_iff_ne]; intro e
            have : d.toNat = 9 := by omega
            simp [blankB, this] at hb
          clear hbl hb hd
          go_wp2_with fail
          go_roundw
          case measure => simp [intOf]; omega
          case rel => exact ⟨k + 1 + 1 + 1, by omega, by rw [HLn0.out]; rfl, by go_num, trivial⟩
      · have hn10 : ((c.toNat : Int) == 10) = false := beq_no (k := 10) (by decide) h10
        have hn10' : ((c.toNat : Int) != 10) = true := by rw [bne, hn10]; rfl
        have HLn1 : Hid (lenL (q.take (i + 1)).reverse = L + 1) := Lib.hid (HLn.out.trans (if_neg h10))
        have g126 : decide ((126 : Int) < (c.toNat : Int)) = false := decide_eq_false (by omega)
        have hLw : IntKind.i64.wrap ((L : Int) + 1) = (L : Int) + 1 := by rw [IntKind.wrap_i64]; omega
        by_cases h32 : c.toNat < 32
        · rcases hat3 h32 with rfl | rfl | rfl
          · clear hat1 hat2 hat3 HLn hn10 hn10' g126
            go_wp2_with fail
            go_roundw
            case measure => simp [intOf]; omega
            case rel => exact ⟨i + 1, by omega, by rw [HLn1.out]; go_num, by go_num, trivial⟩
          · exact absurd rfl h10
          · clear hat1 hat2 hat3 HLn hn10 hn10' g126
            go_wp2_with fail
            go_roundw
            case measure => simp [intOf]; omega
            case rel => exact ⟨i + 1, by omega, by rw [HLn1.out]; go_num, by go_num, trivial⟩
        · have g32 : decide ((c.toNat : Int) < 32) = false := decide_eq_false (by omega)
          clear hat1 hat2 hat3 HLn
          go_wp2_with fail
          go_roundw
          case measure => simp [intOf]; omega
          case rel => exact ⟨i + 1, by omega, by rw [HLn1.out]; go_num, by go_num, trivial⟩
    · have hie : i = q.length := by omega
      subst hie
      rw [List.take_of_length_le (Nat.le_refl _)]
      have hla := HLA.out
      obtain ⟨L, hL⟩ : ∃ L, lenL q.reverse = L := ⟨_, rfl⟩
      rw [hL] at hla ⊢
      have g76 : decide ((L : Int) ≤ 76) = true := decide_eq_true (by omega)
      clear hL
      have F3' := Lib.hid (F3.out wr)
      rcases unqR_form t with ⟨hn, hx⟩ | ⟨hn, hx⟩
      · have hxl : (unqR t).1.length ≤ 100000 := by unfold unqR; split <;> simp <;> (have := unq_len t.length t (Nat.le_refl _); omega)
        have F4 := Lib.hid (fun (w1 : World) => Quoted_any w1 (unqR t).1 hxl)
        rw [hx] at F4
        rw [hn] at F3'
        obtain ⟨T, hTT⟩ : ∃ T, str t = T := ⟨_, rfl⟩
        obtain ⟨X, hX⟩ : ∃ X, str (unqR t).1 = X := ⟨_, rfl⟩
        rw [hTT] at F3' F4 hzt ⊢
        rw [hX] at F3' F4
        rw [show ((0 : Nat) : Int) = 0 from rfl] at F3'
        have e3 : (T.toList == T.toList) = true := beq_self_eq_true _
        clear hn hx hxl hTT hX
        go_wp2_with fail
        refine F3'.out.mono ?_
        rintro e w4 ⟨rfl, hb4⟩
        have HB4 := Lib.hid (HB3.out.trans (hb4.mono HB3.out.size))
        have F4' := Lib.hid (F4.out w4)
        clear hb4
        go_wp2_with fail
        refine F4'.out.mono ?_
        rintro e w5 ⟨rfl, hb5⟩
        have HB5 := Lib.hid (HB4.out.trans (hb5.mono HB4.out.size))
        have HA := Lib.hid (HAw.out w5 HB5.out)
        clear hb5
        go_wp2_with (first | (go_at_call 20; (refine HA.out.mono ?_); rintro e w8 ⟨rfl, hb8⟩))
        go_ret
        exact ⟨rfl, HB5.out.trans (hb8.mono HB5.out.size)⟩
      · rw [hn, hx, show str [] = ⟨#[]⟩ from rfl, show ((4 : Nat) : Int) = 4 from rfl] at F3'
        clear hn hx
        go_wp2_with fail
        refine F3'.out.mono ?_
        rintro e w4 ⟨rfl, hb4⟩
        have HB4 := Lib.hid (HB3.out.trans (hb4.mono HB3.out.size))
        have HA := Lib.hid (HAw.out w4 HB4.out)
        clear hb4
        go_wp2_with (first | (go_at_call 20; (refine HA.out.mono ?_); rintro e w8 ⟨rfl, hb8⟩))
        go_ret
        exact ⟨rfl, HB4.out.trans (hb8.mono HB4.out.size)⟩
theorem payloadBack_holds0 {w : World} (hT : Tabs w) (s : ByteArray) (_ : s.size ≤ maxLen) (t : ByteArray) (_ : t.size ≤ maxLen) :
    Calls Tryz.prog 12 #[.string s, .string t] w fun e w' => e = .returned (.bool true) ∧ Below w.heap.size w w' := by
  have h := back_holds1 hT (bts s) (bts t)
  rw [str_bts, str_bts] at h
  exact h
end Go.Proofs.YtllhpkpckjacfaaGreatDoor
