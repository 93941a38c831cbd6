/- request: Percent. -/
import Derived.Test.YtcdeikhfmllkdaaGreatDoorRqA
namespace Go.Proofs.YtcdeikhfmllkdaaGreatDoor
open Go.RowKit
set_option linter.unusedVariables false
set_option linter.unusedSimpArgs false

/-- A Builder has what a text's first bytes come to. -/
structure FlRel (w wr : World) (b B : Nat) (f : UInt8 → Bytes) (s : Bytes) (n : Nat) : Prop where
  le : n ≤ s.length
  bd : Bd wr B b ((s.take n).flatMap f)
  bel : Below B w wr
theorem FlRel.next {w wr w' : World} {b B : Nat} {f : UInt8 → Bytes} {s : Bytes} {n : Nat} {c : UInt8} {x : Bytes} (h : FlRel w wr b B f s n) (hlt : n < s.length) (hc : s[n] = c) (hx : f c = x) (hw : Bd w' B b ((s.take n).flatMap f ++ x)) (hf : Below B wr w') : FlRel w w' b B f s (n + 1) := by
  refine ⟨hlt, ?_, h.bel.trans hf⟩
  rw [List.take_succ_eq_append_getElem hlt, List.flatMap_append, hc]
  simpa [hx] using hw
theorem fl_len {f : UInt8 → Bytes} {k : Nat} (hf : ∀ c, (f c).length ≤ k) (s : Bytes) (n : Nat) : ((s.take n).flatMap f).length ≤ k * s.length := by
  have h : ∀ l : Bytes, (l.flatMap f).length ≤ k * l.length := by
    intro l
    induction l with
    | nil => simp
    | cons a l ih => rw [List.flatMap_cons, List.length_append, List.length_cons, Nat.mul_add]; have := hf a; omega
  exact Nat.le_trans (h _) (Nat.mul_le_mul_left _ (by rw [List.length_take]; omega))
theorem HEX_get (i : Nat) (h : i < 16) (h2 : i < (⟨#[48, 49, 50, 51, 52, 53, 54, 55, 56, 57, 65, 66, 67, 68, 69, 70]⟩ : ByteArray).size) : (⟨#[48, 49, 50, 51, 52, 53, 54, 55, 56, 57, 65, 66, 67, 68, 69, 70]⟩ : ByteArray)[i]'h2 = HEXDs.getD i 0 := by
  have := str_get HEXDs i h h2
  rw [List.getD_eq_getElem?_getD, List.getElem?_eq_getElem h]
  exact this
theorem hi_HEX (c : UInt8) : (c.toNat / 16) < 16 := by have := c.toNat_lt; omega
set_option maxHeartbeats 4000000 in
set_option maxRecDepth 100000 in
theorem Percent_any (w : World) (s : Bytes) (hs : s.length ≤ 1000000) : Calls Tryz.prog 23 #[.string (str s)] w fun e w' => e = .returned (.string (str (percM s))) ∧ Below w.heap.size w w' := by
  have hsz := str_size s
  obtain ⟨S, hS⟩ : ∃ S, str s = S := ⟨_, rfl⟩
  have HGet : Hid (∀ n (hn : n < s.length) (hn2 : n < S.size), S[n]'hn2 = s[n]'hn) := by
    subst hS; exact Lib.hid (fun n hn hn2 => str_get s n hn hn2)
  rw [hS] at hsz ⊢
  clear hS
  have HW := Lib.hid (bd_new w)
  go_enter Tryz.func23, Tryz.ntmps23
  go_upto_region 2 with (fail)
  generalize hW1 : w.alloc _ = w1 at HW ⊢
  have HB1 : Hid (Below w.heap.size w w1) := by subst hW1; exact Lib.hid ((Below.refl _ _).alloc (Nat.le_refl _) _)
  obtain ⟨b, hb⟩ : ∃ b, w.heap.size = b := ⟨_, rfl⟩
  have hsz1 : b ≤ w1.heap.size := by rw [← hb]; exact HB1.out.size
  rw [hb] at HW ⊢
  have HBb := Lib.hid hb
  clear hW1 hb
  go_wp2_with fail
  go_loopw [8] (fun k wr => ∃ n : Nat, k = .int .i64 n ∧ FlRel w1 wr b b percB s n) (fun k _ => s.length - (intOf k).toNat)
  case atStart => exact ⟨0, rfl, ⟨Nat.zero_le _, by simpa using HW.out, Below.refl _ _⟩⟩
  case round =>
    obtain ⟨n, rfl, hr⟩ := hrel
    have hcur := fl_len percB_len s n
    have hBr : b ≤ wr.heap.size := by have := hr.bel.size; omega
    have HR := Lib.hid hr
    clear hr
    by_cases hlt : n < s.length
    · obtain ⟨c, hc⟩ : ∃ c, s[n] = c := ⟨_, rfl⟩
      have hn2 : n < S.size := by omega
      have hsc := (HGet.out n hlt hn2).trans hc
      have HSC := Lib.hid hc
      clear hc
      have HF := Lib.hid (free_any c wr)
      by_cases hf : freeB c = true
      · rw [hf] at HF
        have HQ := Lib.hid (percB_free hf)
        clear hf
        go_wp2_with (first | (go_at_call 65; (refine HF.out.mono ?_); rintro e w2 ⟨rfl, rfl⟩) | (go_at_call 68; refine (writeByte_any HR.out.bd c (by omega) hBr).mono ?_; rintro e w3 ⟨rfl, h2, b2, o2⟩; have H2 := Lib.hid (And.intro h2 b2); clear h2 b2 o2))
        go_roundw
        case measure => simp [intOf]; omega
        case rel => exact ⟨n + 1, by go_num, HR.out.next hlt HSC.out HQ.out H2.out.1 H2.out.2⟩
      · have HQ := Lib.hid (percB_pct hf)
        have hf' : freeB c = false := by simpa using hf
        rw [hf'] at HF
        clear hf hf'
        have hx := hi_HEX c
        have hc256 := c.toNat_lt
        go_wp2_with (first | (go_at_call 65; (refine HF.out.mono ?_); rintro e w2 ⟨rfl, rfl⟩) | (go_at_call 68; refine (writeByte_any HR.out.bd 37 (by omega) hBr).mono ?_; rintro e w3 ⟨rfl, h2, b2, o2⟩; have H2 := Lib.hid (And.intro h2 b2); have hB3 : b ≤ w3.heap.size := (by have := b2.size; omega); clear h2 b2 o2 HF hBr))
        rw [HEX_get _ hx]
        refine (writeByte_any H2.out.1 (HEXDs.getD (c.toNat / 16) 0) (by rw [List.length_append]; simp only [List.length_cons, List.length_nil]; omega) hB3).mono ?_
        rintro e w4 ⟨rfl, h2, b2, o2⟩
        have H3 := Lib.hid (And.intro h2 b2)
        have hB4 : b ≤ w4.heap.size := by have := b2.size; omega
        clear h2 b2 o2 hB3
        go_wp2_with fail
        rw [HEX_get _ (by omega)]
        refine (writeByte_any H3.out.1 (HEXDs.getD (c.toNat % 16) 0) (by simp only [List.length_append, List.length_cons, List.length_nil]; omega) hB4).mono ?_
        rintro e w5 ⟨rfl, h2, b2, o2⟩
        have H4 := Lib.hid (And.intro h2 b2)
        clear h2 b2 o2 hB4
        go_wp2
        go_roundw
        case measure => simp [intOf]; omega
        case rel => exact ⟨n + 1, by go_num, HR.out.next hlt HSC.out HQ.out (by simpa using H4.out.1) ((H2.out.2.trans H3.out.2).trans H4.out.2)⟩
    · have hn : n = s.length := by have := HR.out.le; omega
      have HNN := Lib.hid hn
      clear hn
      have hwb := HR.out.bd
      rw [HNN.out, List.take_length] at hwb
      have HSt := Lib.hid (string_any hwb hBr)
      clear hwb
      go_wp2_with fail
      refine HSt.out.mono ?_
      rintro e w2 ⟨rfl, _, h2, _⟩
      have H2 := Lib.hid h2
      clear h2
      go_wp2
      go_ret
      exact ⟨rfl, HB1.out.trans (by rw [HBb.out]; exact HR.out.bel.trans H2.out)⟩
end Go.Proofs.YtcdeikhfmllkdaaGreatDoor
