/- json's Kids and Same. -/
import Derived.Test.YtcdeikhfmllkdaaGreatDoorRpA
import Derived.Test.YtcdeikhfmllkdaaGreatDoorJd
import Derived.Test.YtcdeikhfmllkdaaGreatDoorJz
namespace Go.Proofs.YtcdeikhfmllkdaaGreatDoor
open Go.RowKit
set_option linter.unusedVariables false
set_option linter.unusedSimpArgs false
structure KdRel (w wr : World) (O : Value) (l : List Val) (i : Int) (n : Nat) : Prop where
  le : n ≤ l.length
  own : Ints wr w.heap.size O (kidsM (l.take n) i)
  bel : Below w.heap.size w wr
theorem KdRel.skip {w wr w' : World} {O : Value} {l : List Val} {i : Int} {n : Nat} {v : Val} (h : KdRel w wr O l i n) (hv : l[n]? = some v) (hp : v.parent ≠ i) (hb : Below wr.heap.size wr w') : KdRel w w' O l i (n + 1) := by
  refine ⟨(List.getElem?_eq_some_iff.1 hv).1, ?_, h.bel.trans (hb.mono h.bel.size)⟩
  rw [kids_step hv, if_neg hp, List.append_nil]
  exact h.own.kept (fun k hk => hb.block _ (World.ownsRow.lt h.own k hk).2)
theorem KdRel.take {w wr w1 w' : World} {O O' : Value} {l : List Val} {i : Int} {n : Nat} {v : Val} (h : KdRel w wr O l i n) (hv : l[n]? = some v) (hp : v.parent = i) (hb : Below wr.heap.size wr w1) (hg : w1.grownBy w' O.ownBlock)
    (hown : w'.ownsRow w.heap.size 3 1 O' ((kidsM (l.take n) i).length + 1) (ocells (kidsM (l.take n) i) ++ [.int .i64 n])) : KdRel w w' O' l i (n + 1) := by
  have hn := (List.getElem?_eq_some_iff.1 hv).1
  have t1 : Turn (fun k => O.ownBlock = some k) w1 w' := ⟨hg.os, hg.tape, hg.output, hg.size, fun k hk hn => hg.block k hk (fun e => hn e.symm)⟩
  have t2 : Turn (fun k => O.ownBlock = some k) wr w' := (Turn.of_below hb).trans t1
  have b2 : Below w.heap.size wr w' := t2.to_below h.bel.size (fun k hk => (World.ownsRow.lt h.own k hk).1)
  refine ⟨hn, ?_, h.bel.trans b2⟩
  · rw [kids_step hv, if_pos hp]
    unfold Ints
    simpa [ocells] using hown

set_option maxRecDepth 100000 in
set_option maxHeartbeats 4000000 in
theorem Kids_any {w : World} {V : Value} {l : List Val} (L : Lst w V l) (hl : l.length ≤ 100000) (i : Int) :
    Calls Tryz.prog 26 #[V, .int .i64 i] w fun e w' => (∃ O, e = .returned O ∧ Ints w' w.heap.size O (kidsM l i)) ∧ Below w.heap.size w w' := by
  obtain ⟨i0, hi0, iz0, iz1, iz2⟩ := info_parts Tryz.info3
  obtain ⟨p, cap, rfl⟩ := L.form
  have HL := Lib.hid L
  have H0 : Hid (KdRel w w (.slice none 0 0) l i 0) := Lib.hid ⟨Nat.zero_le _, ⟨by simp [ocells, kidsM, kidsR], .inl ⟨rfl, rfl⟩⟩, Below.refl _ _⟩
  clear L
  go_enter Tryz.func26, Tryz.ntmps26
  go_wp2_with fail
  go_loopw [5, 10] (fun v5 v10 wr => ∃ n : Nat, v10 = .int .i64 n ∧ KdRel w wr v5 l i n) (fun _ v _ => l.length - (intOf v).toNat)
  case atStart => exact ⟨0, rfl, H0.out⟩
  case round =>
    obtain ⟨n, rfl, hr⟩ := hrel
    have HR := Lib.hid hr
    have hn := hr.le
    obtain ⟨pO, cO, hO, -⟩ := hr.own.form
    subst hO
    have hkl := kidsR_len i (l.take n) 0
    rw [List.length_take, Nat.min_eq_left hn] at hkl
    have hwz := hr.bel.size
    clear hr H0
    by_cases hlt : n < l.length
    · obtain ⟨v, hv⟩ : ∃ v, l[n]? = some v := ⟨_, List.getElem?_eq_getElem hlt⟩
      obtain ⟨a, cap', e, k0, k1, k2, k3⟩ := (HL.out.below HR.out.bel).at hv
      simp only [Value.slice.injEq] at e
      obtain ⟨rfl, -, rfl⟩ := e
      have HV := Lib.hid hv
      clear hv
      by_cases hp : v.parent = i
      · have hpi : (v.parent == i) = true := by rw [beq_iff_eq]; exact hp
        have HP := Lib.hid hp
        clear hp
        go_wp2_with (first | (refine wpList_append_lies _ rfl _ _ _ rfl w.heap.size 3 i0 _ 1 8 Tryz.underlying54 hi0 iz0 iz1 iz2 rfl (by omega) (.slice pO (kidsM (l.take n) i).length cO) (kidsM (l.take n) i).length (ocells (kidsM (l.take n) i)) (by rfl) ((World.ownsRow.alloc HR.out.own _).alloc _) ⟨wr.heap.size + 1, 0, none⟩ 1 1 [.int .i64 n] (by rfl) (by rfl) (World.news_of_block (cs := #[.int .i64 n]) (t := 3) (fr := (0, 0)) (by rw [show wr.heap.size + 1 = (wr.alloc (.cells #[.int .i64 v.parent, .int .u8 v.kind, .string (str v.name), .string (str v.text)] 78)).heap.size by simp]; exact heap_alloc_new _ _)) (by simp [Value.oneCell']) (by omega) (by unfold maxLen; unfold kidsM; omega) (by unfold kidsM; omega) (by simp; omega) (wr.heap.size + 2) (by simp) ?_; intro g6 cap6 w3 hown3 hgrow3 hat3 hlt3; have H3 := Lib.hid (HR.out.take HV.out HP.out (((Below.refl _ _).alloc (Nat.le_refl _) _).alloc (by simp) _) hgrow3 hown3); clear hown3 hgrow3 hat3 hlt3))
        go_roundw
        case measure => simp [intOf]; omega
        case rel => exact ⟨n + 1, by go_num, H3.out⟩
      · have hpi : (v.parent == i) = false := by rw [beq_eq_false_iff_ne]; exact hp
        have H3 := Lib.hid (HR.out.skip HV.out hp ((Below.refl _ _).alloc (Nat.le_refl _) (.cells #[.int .i64 v.parent, .int .u8 v.kind, .string (str v.name), .string (str v.text)] 78)))
        clear hp
        go_wp2_with fail
        go_roundw
        case measure => simp [intOf]; omega
        case rel => exact ⟨n + 1, by go_num, H3.out⟩
    · obtain rfl : n = l.length := by omega
      go_wp2_with fail
      go_ret
      refine ⟨⟨_, rfl, ?_⟩, HR.out.bel⟩
      have := HR.out.own
      rw [List.take_length] at this ⊢
      exact this

set_option maxRecDepth 100000 in
set_option maxHeartbeats 4000000 in
theorem equal_any {w : World} {V V' : Value} {l : List Val} (L : Lst w V l) (L' : Lst w V' l) (hl : l.length ≤ 100000) :
    Calls Tryz.prog 79 #[V, V'] w fun e w' => e = .returned (.bool true) ∧ Below w.heap.size w w' := by
  obtain ⟨p, cap, rfl⟩ := L.form
  obtain ⟨p', cap', rfl⟩ := L'.form
  have HL := Lib.hid L
  have HL' := Lib.hid L'
  clear L L'
  go_enter Tryz.func79, Tryz.ntmps79
  go_wp2_with fail
  go_loopw [13] (fun v wr => ∃ n : Nat, v = .int .i64 n ∧ n ≤ l.length ∧ Below w.heap.size w wr) (fun v _ => l.length - (intOf v).toNat)
  case atStart => exact ⟨0, rfl, by omega, Below.refl _ _⟩
  case round =>
    obtain ⟨n, rfl, hn, hr⟩ := hrel
    have HR := Lib.hid hr
    clear hr
    by_cases hlt : n < l.length
    · obtain ⟨v, hv⟩ : ∃ v, l[n]? = some v := ⟨_, List.getElem?_eq_getElem hlt⟩
      obtain ⟨a, c1, e, k0, k1, k2, k3⟩ := (HL.out.below HR.out).at hv
      simp only [Value.slice.injEq] at e
      obtain ⟨rfl, -, rfl⟩ := e
      obtain ⟨b, c2, e, j0, j1, j2, j3⟩ := (HL'.out.below HR.out).at hv
      simp only [Value.slice.injEq] at e
      obtain ⟨rfl, -, rfl⟩ := e
      obtain ⟨S, hS⟩ : ∃ S, str v.name = S := ⟨_, rfl⟩
      obtain ⟨T, hT⟩ : ∃ T, str v.text = T := ⟨_, rfl⟩
      obtain ⟨P, hP⟩ : ∃ P, v.parent = P := ⟨_, rfl⟩
      obtain ⟨K, hK⟩ : ∃ K, (v.kind : Int) = K := ⟨_, rfl⟩
      rw [hS] at k2 j2
      rw [hT] at k3 j3
      rw [hP] at k0 j0
      rw [hK] at k1 j1
      clear hv hS hT hP hK
      have e1 : (S.toList == S.toList) = true := beq_self_eq_true _
      have e2 : (T.toList == T.toList) = true := beq_self_eq_true _
      have e3 : (P == P) = true := beq_self_eq_true _
      have e4 : (K == K) = true := beq_self_eq_true _
      go_upto_region 6 with fail
      go_region
      go_wp2_with fail
      go_roundw
      case measure => simp [intOf]; omega
      case rel => exact ⟨n + 1, by go_num, by omega, Below.drew HR.out⟩
    · go_wp2_with fail
      go_ret
      exact ⟨rfl, HR.out⟩

set_option maxRecDepth 100000 in
theorem Same_any {w : World} {V V' : Value} {l : List Val} (L : Lst w V l) (L' : Lst w V' l) (hl : l.length ≤ 100000) :
    Calls Tryz.prog 29 #[V, V'] w fun e w' => e = .returned (.bool true) ∧ Below w.heap.size w w' := by
  have H := Lib.hid (equal_any L L' hl)
  clear L L'
  go_enter Tryz.func29, Tryz.ntmps29
  go_wp2_with (first | (go_at_call 79; refine H.out.mono ?_; rintro e w2 ⟨rfl, hb⟩))
  go_ret
  exact ⟨rfl, hb⟩
end Go.Proofs.YtcdeikhfmllkdaaGreatDoor
