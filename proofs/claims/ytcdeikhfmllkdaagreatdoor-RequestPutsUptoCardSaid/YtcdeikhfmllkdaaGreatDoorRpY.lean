/- RequestPuts, walked; the reader's alert and strconv.Itoa taken as answered. -/
import Derived.Test.YtcdeikhfmllkdaaGreatDoorRpI
import Derived.Test.YtcdeikhfmllkdaaGreatDoorRpD
import Derived.Test.YtcdeikhfmllkdaaGreatDoorRpP
import Derived.Test.YtcdeikhfmllkdaaGreatDoorRwH
import Derived.Test.YtcdeikhfmllkdaaGreatDoorRwK
namespace Go.Proofs.YtcdeikhfmllkdaaGreatDoor
open Go.RowKit
set_option linter.unusedVariables false
set_option linter.unusedSimpArgs false
/-- A result of Read, whatever it is. -/
theorem read_some {w : World} (hT : Tabs w) {s : Bytes} (hm : s.length ≤ maxLen) : Calls Tryz.prog 28 #[.string (str s)] w fun e w' => (∃ V m, e = .returned (.tuple #[V, .int .i64 m])) ∧ Below w.heap.size w w' := by
  refine (read_any hT hm).mono fun e w' ⟨hb, h⟩ => ⟨?_, hb⟩
  cases hr : readM s with
  | error m => rw [hr] at h; exact ⟨_, _, h⟩
  | ok l => rw [hr] at h; obtain ⟨V, h, _⟩ := h; exact ⟨_, _, h⟩
set_option maxHeartbeats 8000000 in
set_option maxRecDepth 100000 in
theorem puts_walk {w : World} (hT : Tabs w) (hI : TabI w) {A : Option Addr} {cap : Nat} {l : List AlM} (L : AlsC w (.slice A l.length cap) l) (ok : ∀ a ∈ l, OkAl 1048576 a) (hm : l.length ≤ maxLen)
    (HAl : FewAl l → ∀ w1, AlertOk w1 l) (HIt : ∀ w1, Below w.heap.size w w1 → ItoaOk w1) :
    Calls Tryz.prog 8 #[.slice A l.length cap] w fun e w' => e = .returned (.bool true) ∧ Below w.heap.size w w' := by
  have HAw : Hid (∀ w1, Below w.heap.size w w1 → Calls Tryz.prog 11 #[] w1 fun e w' => e = .returned (.bool true) ∧ Below w.heap.size w w') := Lib.hid (fun w1 hb => (awake_any (tabs_bel hT hb) (hI.below hb)).mono fun e w' ⟨he, hb'⟩ => ⟨he, hb.trans (hb'.mono hb.size)⟩)
  have HLt := Lib.hid (light_any L hm (fun a ha => Nat.le_trans (ok a ha).len (by unfold maxLen; omega)))
  have HT := Lib.hid hT
  have HL := Lib.hid L
  have HOk := Lib.hid ok
  have HA0 := Lib.hid HAl
  have HI0 := Lib.hid HIt
  unfold maxLen at hm
  clear hT hI L ok HAl HIt
  go_enter Tryz.func8, Tryz.ntmps8
  go_upto_region 3 with (first
    | (go_at_call 16; refine HLt.out.mono ?_; rintro e w2 ⟨hb2, (⟨rfl, h30, hlab⟩ | rfl)⟩; all_goals have H2 := Lib.hid hb2; all_goals clear hb2)
    | (go_at_call 11; refine (HAw.out _ H2.out).mono ?_; rintro e w3 ⟨rfl, hb3⟩; have H3 := Lib.hid hb3; clear hb3))
  · have K : FewAl l := ⟨h30, hlab, HOk.out⟩
    have HK := Lib.hid K
    have hN481 := K.len
    have hN0' : 0 < (alertsM l).length := (List.getElem?_eq_some_iff.1 (alertsM_zero l)).1
    have H3 : Hid (Calls Tryz.prog 25 #[.slice A l.length cap] w2 fun e w' => (∃ p c, e = .returned (.slice p (alertsM l).length c) ∧ Lst w' (.slice p (alertsM l).length c) (alertsM l)) ∧ Below w.heap.size w w') := Lib.hid ((alerts_any (fun w1 hb => HI0.out w1 (H2.out.trans (hb.mono H2.out.size))) (HL.out.below (Nat.le_refl _) H2.out) ⟨K.few, K.labs, fun a ha => (K.ok a ha).s0, fun a ha => (K.ok a ha).s1⟩).mono (by
      rintro e w' ⟨⟨V, rfl, hL⟩, hb⟩
      obtain ⟨p, c, rfl⟩ := hL.form
      exact ⟨⟨p, c, rfl, hL⟩, H2.out.trans (hb.mono H2.out.size)⟩))
    clear K HLt HI0 hlab
    go_upto_region 4 with (first | (go_at_call 25; refine H3.out.mono ?_; rintro e w3 ⟨⟨p, c, rfl, hL3⟩, hb3⟩; have H4 := Lib.hid (And.intro hL3 hb3); clear hL3 hb3))
    clear H3
    have H5 : Hid (Calls Tryz.prog 26 #[.slice p (alertsM l).length c, .int .i64 0] w3 fun e w' => (∃ pO cO, e = .returned (.slice pO l.length cO)) ∧ Lst w' (.slice p (alertsM l).length c) (alertsM l) ∧ Below w.heap.size w w') := Lib.hid (by
      have h := Kids_any H4.out.1 (by omega) 0
      rw [kids_root] at h
      refine h.mono ?_
      rintro e w' ⟨⟨O, rfl, hO⟩, hb⟩
      obtain ⟨pO, cO, e', -, -⟩ := hO.form
      rw [places_len] at e'
      subst e'
      exact ⟨⟨pO, cO, rfl⟩, H4.out.1.below hb, H4.out.2.trans (hb.mono H4.out.2.size)⟩)
    have hN0 : (((alertsM l).length : Int) == 0) = false := by rw [beq_eq_false_iff_ne]; omega
    have hll : ((l.length : Int) != (l.length : Int)) = false := by rw [bne_eq_false_iff_eq]
    go_upto_region 6 with (first | (go_at_call 26; refine H5.out.mono ?_; rintro e w4 ⟨⟨pO, cO, rfl⟩, hL4, hb4⟩; have H6 := Lib.hid (And.intro hL4 hb4); clear hL4 hb4))
    clear H5 H4
    have HPt := put_any (tabs_bel HT.out H6.out.2) H6.out.1 (by unfold maxLen; omega) HK.out.oks HK.out.room
    by_cases h0 : checkM (alertsM l) = 0
    · have hp : putM (alertsM l) = (textM (alertsM l), 0) := by unfold putM; rw [if_pos h0]
      rw [hp] at HPt
      have htl := Nat.le_trans (text_room h0) HK.out.room
      have hback := fun h => alerts_back h0 h
      obtain ⟨tx, htx⟩ : ∃ tx, textM (alertsM l) = tx := ⟨_, rfl⟩
      rw [htx] at HPt htl hback
      have HBk := Lib.hid hback
      obtain ⟨T, hT⟩ : ∃ T, str tx = T := ⟨_, rfl⟩
      have hTz : T.size = tx.length := by rw [← hT, str_size]
      have hcat : (⟨#[80, 79, 83, 84, 32, 47, 97, 108, 101, 114, 116, 115, 10]⟩ : ByteArray) ++ T = str (postB ++ 10 :: tx) := by
        rw [← hT, show (⟨#[80, 79, 83, 84, 32, 47, 97, 108, 101, 114, 116, 115, 10]⟩ : ByteArray) = str (postB ++ [10]) from rfl, str_add, List.append_assoc]; rfl
      have HRs : Hid (∀ w1, Below w.heap.size w w1 → Calls Tryz.prog 28 #[.string T] w1 fun e w' => (∃ V m, e = .returned (.tuple #[V, .int .i64 m])) ∧ Below w1.heap.size w1 w') := Lib.hid (fun w1 hb => by rw [← hT]; exact read_some (tabs_bel HT.out hb) (by unfold maxLen; omega))
      have HRe : Hid (tx.length ≤ 65536 → ∀ w1, Below w.heap.size w w1 → Calls Tryz.prog 28 #[.string T] w1 fun e w' => (∃ p2 c2, e = .returned (.tuple #[.slice p2 (alertsM l).length c2, .int .i64 0]) ∧ Lst w' (.slice p2 (alertsM l).length c2) (alertsM l)) ∧ Below w1.heap.size w1 w') := Lib.hid (fun hle w1 hb => by
        have h := read_any (tabs_bel HT.out hb) (s := tx) (by unfold maxLen; omega)
        rw [HBk.out hle, hT] at h
        refine h.mono ?_
        rintro e w' ⟨hb', V, rfl, ho, -⟩
        obtain ⟨p2, c2, rfl⟩ := ho.form
        exact ⟨⟨p2, c2, rfl, ho.lst⟩, hb'⟩)
      have HPe : Hid (tx.length + 13 ≤ 65536 → ∀ w1, Below w.heap.size w w1 → Calls Tryz.prog 12 #[.string (str (postB ++ 10 :: tx))] w1 fun e w' => (∃ p3 c3, e = .returned (.tuple #[.agg #[.int .u8 1, .slice p3 l.length c3, .string ⟨#[]⟩, .slice none 0 0, .int .i64 0, .int .i64 0, .string ⟨#[]⟩, .slice none 0 0], .int .i64 0])) ∧ Below w1.heap.size w1 w') := Lib.hid (fun hle w1 hb => Parse_post (tabs_bel HT.out hb) (HA0.out HK.out w1) tx hle (HBk.out (by omega)) HK.out.few HK.out.len)
      have HPl : Hid (∀ w1, Below w.heap.size w w1 → Calls Tryz.prog 12 #[.string (str (postB ++ 10 :: tx))] w1 fun e w' => (∃ k p3 n3 c3 m, e = .returned (.tuple #[.agg #[.int .u8 k, .slice p3 n3 c3, .string ⟨#[]⟩, .slice none 0 0, .int .i64 0, .int .i64 0, .string ⟨#[]⟩, .slice none 0 0], .int .i64 m])) ∧ Below w1.heap.size w1 w') := Lib.hid (fun w1 hb => by
        by_cases hle : tx.length + 13 ≤ 65536
        · exact (HPe.out hle w1 hb).mono fun e w' ⟨⟨p3, c3, he⟩, hb'⟩ => ⟨⟨_, _, _, _, _, he⟩, hb'⟩
        · exact (Parse_long w1 _ (by rw [str_size]; simp [postB]; omega) (by rw [str_size]; simp [postB]; unfold maxLen; omega)).mono fun e w' ⟨he, hb'⟩ => ⟨⟨_, _, _, _, _, he⟩, hb'⟩)
      have HP := Lib.hid HPt
      rw [hT] at HP
      obtain ⟨U, hU⟩ : ∃ U, str (postB ++ 10 :: tx) = U := ⟨_, rfl⟩
      rw [hU] at hcat HPe HPl
      clear HPt hback hT hp htx h0 HBk hU
      go_upto_region 9 with (first | (go_at_call 27; refine HP.out.mono ?_; rintro e w5 ⟨rfl, hb5⟩; have H7 := Lib.hid (And.intro (H6.out.1.below hb5) (H6.out.2.trans (hb5.mono H6.out.2.size))); clear hb5))
      clear H6 HP
      by_cases hlong : 60000 < tx.length
      · have hd : decide ((60000 : Int) < (T.size : Int)) = true := decide_eq_true (by omega)
        clear HRe HPe
        go_wp2_with (first
          | (go_at_call 28; refine (HRs.out _ H7.out.2).mono ?_; rintro e w6 ⟨⟨V, m, rfl⟩, hb6⟩; have H8 := Lib.hid (H7.out.2.trans (hb6.mono H7.out.2.size)); clear hb6)
          | (go_at_call 12; refine (HPl.out _ H8.out).mono ?_; rintro e w7 ⟨⟨k3, p3, n3, c3, m3, rfl⟩, hb7⟩; have H9 := Lib.hid ((H8.out.trans (hb7.mono H8.out.size)).alloc (H8.out.trans (hb7.mono H8.out.size)).size (.cells #[.int .u8 k3, .slice p3 n3 c3, .string ⟨#[]⟩, .slice none 0 0, .int .i64 0, .int .i64 0, .string ⟨#[]⟩, .slice none 0 0] 29)); clear hb7)
          | (go_at_call 11; refine (HAw.out _ H9.out).mono ?_; rintro e w8 ⟨rfl, hb8⟩))
        go_ret
        exact ⟨rfl, hb8⟩
      · have hd : decide ((60000 : Int) < (T.size : Int)) = false := decide_eq_false (by omega)
        have HR5 := Lib.hid (HRe.out (by omega))
        have HP5 := Lib.hid (HPe.out (by omega))
        have e1 : ((l.length : Int) == (l.length : Int)) = true := beq_self_eq_true _
        clear HRs HPl HRe HPe
        go_upto_region 11 with (first
          | (go_at_call 28; refine (HR5.out _ H7.out.2).mono ?_; rintro e w6 ⟨⟨p2, c2, rfl, hL6⟩, hb6⟩; have H8 := Lib.hid (And.intro hL6 (And.intro (H7.out.1.below hb6) (H7.out.2.trans (hb6.mono H7.out.2.size)))); clear hb6 hL6)
          | (go_at_call 12; refine (HP5.out _ H8.out.2.2).mono ?_; rintro e w7 ⟨⟨p3, c3, rfl⟩, hb7⟩; have H9 := Lib.hid (And.intro (H8.out.1.below hb7) (And.intro (H8.out.2.1.below hb7) (H8.out.2.2.trans (hb7.mono H8.out.2.2.size)))); clear hb7))
        have ha : Below w7.heap.size w7 (w7.alloc (.cells #[.int .u8 1, .slice p3 l.length c3, .string ⟨#[]⟩, .slice none 0 0, .int .i64 0, .int .i64 0, .string ⟨#[]⟩, .slice none 0 0] 29)) := (Below.refl _ _).alloc (Nat.le_refl _) _
        have hrow : (w7.alloc (.cells #[.int .u8 1, .slice p3 l.length c3, .string ⟨#[]⟩, .slice none 0 0, .int .i64 0, .int .i64 0, .string ⟨#[]⟩, .slice none 0 0] 29)).heap[w7.heap.size]? = some (.cells #[.int .u8 1, .slice p3 l.length c3, .string ⟨#[]⟩, .slice none 0 0, .int .i64 0, .int .i64 0, .string ⟨#[]⟩, .slice none 0 0] 29) := heap_alloc_new _ _
        have H10 := Lib.hid (And.intro (H9.out.1.below ha) (And.intro (H9.out.2.1.below ha) (And.intro (H9.out.2.2.trans (ha.mono H9.out.2.2.size)) hrow)))
        clear ha hrow H7 H8 H9
        generalize w7.heap.size = b at H10 ⊢
        generalize w7.alloc _ = w8 at H10 ⊢
        have HSm := Lib.hid (Same_any H10.out.1 H10.out.2.1 (by omega))
        go_wp2_with (first
          | (go_at_call 29; refine HSm.out.mono ?_; rintro e w9 ⟨rfl, hb9⟩; have hr9 := (hb9.block b (Array.getElem?_eq_some_iff.1 H10.out.2.2.2).1).trans H10.out.2.2.2; have q0 : w9.cell? ⟨b, 0, none⟩ = some (.int .u8 1) := (cells_of hr9 0).1; have q1 : w9.cell? ⟨b, 1, none⟩ = some (.slice p3 l.length c3) := (cells_of hr9 1).1; have H11 := Lib.hid (H10.out.2.2.1.trans (hb9.mono H10.out.2.2.1.size)); clear hb9 hr9)
          | (go_at_call 11; refine (HAw.out _ H11.out).mono ?_; rintro e w10 ⟨rfl, hb10⟩))
        go_ret
        exact ⟨rfl, hb10⟩
    · have hp : putM (alertsM l) = ([], checkM (alertsM l)) := by unfold putM; rw [if_neg h0]
      rw [hp] at HPt
      have hne : ((checkM (alertsM l) : Int) != 0) = true := by rw [bne_iff_ne]; omega
      obtain ⟨k, hk⟩ : ∃ k, checkM (alertsM l) = k := ⟨_, rfl⟩
      rw [hk] at HPt hne
      have HP : Hid (Calls Tryz.prog 27 #[.slice p (alertsM l).length c] w4 fun e w' => e = .returned (.tuple #[.string ⟨#[]⟩, .int .i64 k]) ∧ Below w4.heap.size w4 w') := Lib.hid HPt
      clear HPt hp h0 hk
      go_wp2_with (first
        | (go_at_call 27; refine HP.out.mono ?_; rintro e w5 ⟨rfl, hb5⟩; have H7 := Lib.hid (H6.out.2.trans (hb5.mono H6.out.2.size)); clear hb5)
        | (go_at_call 11; refine (HAw.out _ H7.out).mono ?_; rintro e w6 ⟨rfl, hb6⟩))
      go_ret
      exact ⟨rfl, hb6⟩
  · go_ret
    exact ⟨rfl, H3.out⟩
end Go.Proofs.YtcdeikhfmllkdaaGreatDoor
