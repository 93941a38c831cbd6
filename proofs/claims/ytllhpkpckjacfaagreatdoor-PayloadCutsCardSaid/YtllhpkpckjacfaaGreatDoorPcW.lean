/- PayloadCuts, walked. -/
import Derived.Test.YtllhpkpckjacfaaGreatDoorPm1
import Derived.Test.YtllhpkpckjacfaaGreatDoorPm2
namespace Go.Proofs.YtllhpkpckjacfaaGreatDoor
open Go.RowKit Go.Proofs.YtllhpkpckjacfaaGreatDoorW.PrintWords PTemplateFilters
set_option linter.unusedVariables false
set_option linter.unusedSimpArgs false

theorem quoteP_snd (s : Bytes) : ((quoteP s).2 = 0 ↔ Lib.validD s = true) := by
  unfold quoteP
  cases Lib.validD s <;> simp
set_option maxRecDepth 100000 in
set_option maxHeartbeats 1600000 in
theorem cuts_holds1 {w : World} (hT : Tabs w) (b : Bytes) (n : Nat) (hn : n < 65536) : Calls Tryz.prog 10 #[.string (str b), .int .u16 (n : Int)] w fun e w' => e = .returned (.bool true) ∧ Below w.heap.size w w' := by
  have hz := str_size b
  have HAw : Hid (∀ w1, Below w.heap.size w w1 → Calls Tryz.prog 20 #[] w1 fun e w' => e = .returned (.bool true) ∧ Below w1.heap.size w1 w') := Lib.hid (fun w1 hb => awake29_any (hT.below hb))
  have hcv : IntKind.i64.wrap (n : Int) = (n : Int) := by rw [IntKind.wrap_i64]; omega
  by_cases h3 : 2000 < b.length
  · have h3i : (2000 : Int) < (b.length : Int) := by omega
    have HA := Lib.hid (HAw.out w (Below.refl _ _))
    go_enter Tryz.func10, Tryz.ntmps10
    go_wp2_with (first | (go_at_call 20; (refine HA.out.mono ?_); rintro e w2 ⟨rfl, hb2⟩))
    go_ret
    exact ⟨rfl, hb2⟩
  · have h3i : ¬ (2000 : Int) < (b.length : Int) := by omega
    have F1 := Lib.hid (Quote_any hT b (by omega))
    have F2 := Lib.hid (fun (w1 : World) => Cut_any w1 b (by omega) (n : Int))
    by_cases hbn : b.length ≤ n
    · have hbi : (b.length : Int) ≤ (n : Int) := by omega
      have hm : cutM b (n : Int) = b := by unfold cutM; rw [if_pos hbi]
      rw [hm] at F2
      obtain ⟨S, hS⟩ : ∃ S, str b = S := ⟨_, rfl⟩
      rw [hS] at F1 F2 hz ⊢
      have e1 : (S.toList == S.toList) = true := beq_self_eq_true _
      clear hm hS
      go_enter Tryz.func10, Tryz.ntmps10
      go_wp2_with (first | (go_at_call 30; (refine F1.out.mono ?_); rintro e w2 ⟨rfl, hb2⟩) | (go_at_call 28; (refine (F2.out w2).mono ?_); rintro e w3 ⟨rfl, rfl⟩) | (go_at_call 20; (refine (HAw.out w3 hb2).mono ?_); rintro e w4 ⟨rfl, hb4⟩))
      go_ret
      exact ⟨rfl, hb2.trans (hb4.mono hb2.size)⟩
    · have hbi : ¬ (b.length : Int) ≤ (n : Int) := by omega
      by_cases hn3 : n < 3
      · have hni : (n : Int) < 3 := by omega
        have hm : cutM b (n : Int) = [] := by unfold cutM; rw [if_neg hbi, if_pos hni]
        rw [hm, show str [] = ⟨#[]⟩ from rfl] at F2
        obtain ⟨S, hS⟩ : ∃ S, str b = S := ⟨_, rfl⟩
        rw [hS] at F1 F2 hz ⊢
        clear hm hS
        go_enter Tryz.func10, Tryz.ntmps10
        go_wp2_with (first | (go_at_call 30; (refine F1.out.mono ?_); rintro e w2 ⟨rfl, hb2⟩) | (go_at_call 28; (refine (F2.out w2).mono ?_); rintro e w3 ⟨rfl, rfl⟩) | (go_at_call 20; (refine (HAw.out w3 hb2).mono ?_); rintro e w4 ⟨rfl, hb4⟩))
        go_ret
        exact ⟨rfl, hb2.trans (hb4.mono hb2.size)⟩
      · have hni : ¬ (n : Int) < 3 := by omega
        obtain ⟨k, hk, hm⟩ := cut_form (s := b) (n := n) (by omega) (by omega)
        have hv : Lib.validD b = true → Lib.validD (b.take k ++ [46, 46, 46]) = true := fun h => by rw [← hm]; exact cut_valid h _
        have hlc : (b.take k ++ [46, 46, 46]).length = k + 3 := by rw [List.length_append, List.length_take]; simp; omega
        have F3 := Lib.hid (fun (w1 : World) (hb : Below w.heap.size w w1) => Quote_any (hT.below hb) (b.take k ++ [46, 46, 46]) (by rw [hlc]; omega))
        have r1 := from_run (s := b.take k ++ [46, 46, 46]) (k := k) (by omega)
        have r2 := to_run (s := b.take k ++ [46, 46, 46]) (k := k) (by omega)
        have r3 := to_run (s := b) (k := k) (by omega)
        have hd : (b.take k ++ [46, 46, 46]).drop k = [46, 46, 46] := by rw [List.drop_append_of_le_length (by rw [List.length_take]; omega), List.drop_eq_nil_of_le (by rw [List.length_take]; omega)]; rfl
        have ht : (b.take k ++ [46, 46, 46]).take k = b.take k := by rw [List.take_append_of_le_length (by rw [List.length_take]; omega), List.take_of_length_le (by rw [List.length_take]; omega)]
        rw [hd, show str [46, 46, 46] = ⟨#[46, 46, 46]⟩ from rfl] at r1
        rw [ht] at r2
        rw [hm] at F2
        have hzc : (str (b.take k ++ [46, 46, 46])).size = k + 3 := by rw [str_size, hlc]
        have hq1 := quoteP_snd b
        have hq2 := quoteP_snd (b.take k ++ [46, 46, 46])
        have HQ : Hid ((quoteP b).2 = 0 → (quoteP (b.take k ++ [46, 46, 46])).2 = 0) := Lib.hid (fun h => hq2.2 (hv (hq1.1 h)))
        clear hq1 hq2 hv hd ht hm hlc
        generalize (quoteP b).2 = q1 at *
        generalize (quoteP b).1 = p1 at *
        generalize (quoteP (b.take k ++ [46, 46, 46])).2 = q2 at *
        generalize (quoteP (b.take k ++ [46, 46, 46])).1 = p2 at *
        generalize str (b.take k ++ [46, 46, 46]) = C at *
        generalize str (b.take k) = P at *
        obtain ⟨S, hS⟩ : ∃ S, str b = S := ⟨_, rfl⟩
        rw [hS] at F1 F2 r3 hz ⊢
        have e1 : (P.toList == P.toList) = true := beq_self_eq_true _
        have e1' : (P.toList != P.toList) = false := by rw [bne, e1]; rfl
        have g1 : decide ((n : Int) < (k : Int) + 3) = false := decide_eq_false (by omega)
        have g2 : decide ((k : Int) + 3 < 3) = false := decide_eq_false (by omega)
        have hw1 : IntKind.i64.wrap ((k : Int) + 3 - 3) = (k : Int) := by rw [IntKind.wrap_i64]; omega
        have hw2 : IntKind.i64.wrap (k : Int) = (k : Int) := by rw [IntKind.wrap_i64]; omega
        have HK := Lib.hid hk
        clear hS hk
        go_enter Tryz.func10, Tryz.ntmps10
        go_upto_region 10 with (first | (go_at_call 30; (refine F1.out.mono ?_); rintro e w2 ⟨rfl, hb2⟩) | (go_at_call 28; (refine (F2.out w2).mono ?_); rintro e w3 ⟨rfl, rfl⟩))
        go_quiet (fail)
        have HB4 := Lib.hid (pw_below_drewN hb2 nq)
        have F3' := Lib.hid (F3.out _ HB4.out)
        clear hb2 r1 r2 r3 hzc hz F1 F2 F3
        generalize w3.drewN nq = w5 at HB4 F3' ⊢
        by_cases hq : q1 = 0
        · have hq2 := HQ.out hq
          subst hq
          subst hq2
          rw [show ((0 : Nat) : Int) = 0 from rfl] at F3' ⊢
          go_wp2_with (first | (go_at_call 30; (refine F3'.out.mono ?_); rintro e w6 ⟨rfl, hb6⟩) | (go_at_call 20; (refine (HAw.out w6 (HB4.out.trans (hb6.mono HB4.out.size))).mono ?_); rintro e w7 ⟨rfl, hb7⟩))
          go_ret
          exact ⟨rfl, (HB4.out.trans (hb6.mono HB4.out.size)).trans (hb7.mono (HB4.out.trans (hb6.mono HB4.out.size)).size)⟩
        · have hq3 : ((q1 : Int) != 0) = true := by rw [bne_iff_ne]; omega
          go_wp2_with (first | (go_at_call 30; (refine F3'.out.mono ?_); rintro e w6 ⟨rfl, hb6⟩) | (go_at_call 20; (refine (HAw.out w6 (HB4.out.trans (hb6.mono HB4.out.size))).mono ?_); rintro e w7 ⟨rfl, hb7⟩))
          go_ret
          exact ⟨rfl, (HB4.out.trans (hb6.mono HB4.out.size)).trans (hb7.mono (HB4.out.trans (hb6.mono HB4.out.size)).size)⟩
theorem payloadCuts_holds0 {w : World} (hT : Tabs w) (s : ByteArray) (_ : s.size ≤ maxLen) (i : Int) (hi : (Lit.int .u16 i).wf = true) :
    Calls Tryz.prog 10 #[.string s, .int .u16 i] w fun e w' => e = .returned (.bool true) ∧ Below w.heap.size w w' := by
  have h2 : 0 ≤ i ∧ i < 65536 := by
    have h := hi
    unfold Lit.wf at h
    rw [Bool.and_eq_true, decide_eq_true_eq, decide_eq_true_eq] at h
    have e1 : IntKind.u16.min = 0 := rfl
    have e2 : IntKind.u16.max = 65535 := rfl
    omega
  obtain ⟨n, rfl⟩ : ∃ n : Nat, i = (n : Int) := ⟨i.toNat, by omega⟩
  have h := cuts_holds1 hT (bts s) n (by omega)
  rw [str_bts] at h
  exact h
end Go.Proofs.YtllhpkpckjacfaaGreatDoor
