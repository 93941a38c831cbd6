/- The walk of LimitPlays. -/
import Derived.Test.YtgphhjghodhodaaRefH
import Derived.Test.YtgphhjghodhodaaApW
namespace Go.Proofs.Ytgphhjghodhodaa
open Go.RowKit Go.Maps Go.WideMaps Go.Proofs.YtgphhjghodhodaaMp Go.Proofs.YtgphhjghodhodaaW.PrintWords Go.Proofs.Ytgphhjghodhodaa.PNext
set_option linter.unusedVariables false
set_option linter.unusedSimpArgs false

/-- Where the loop stands. -/
structure PyRel (W wr : World) (q p m : Nat) (r b : Int) (i : Nat) : Prop where
  out : ∃ (d now : Int) (ys : List S71), 0 ≤ d ∧ d ≤ i ∧ 0 ≤ now ∧ now ≤ 65535 * i ∧ Wld wr q p m r b d now ys ∧ Below W.heap.size W wr

theorem wld_new {w : World} {p m : Nat} {r b : Int} (L : Lim w p m r b 0 []) :
    Wld (w.alloc (.cells #[.pointer (some ⟨p, 0, none⟩), .int .i64 r, .int .i64 b, .slice none 0 0, .int .i64 0, .int .i64 0] 49)) w.heap.size p m r b 0 0 [] :=
  ⟨⟨none, 0, heap_alloc_new _ _, Kd.R_nil _ _ _ _ _⟩, L.below ((Below.refl _ _).alloc (Nat.le_refl _) _), Nat.ne_of_gt L.lt, Nat.ne_of_gt L.ltm⟩

/-- The rule's box, and what stood. -/
structure PyBox (W W1 : World) (r b : Int) : Prop where
  box : W1.heap[W.heap.size]? = some (.cells #[.int .i64 r, .int .i64 b] 39)
  bel : Below W.heap.size W W1
theorem PyBox.below {W W1 W2 : World} {r b : Int} (h : PyBox W W1 r b) (t : Below W1.heap.size W1 W2) : PyBox W W2 r b :=
  ⟨(t.block _ (Array.getElem?_eq_some_iff.1 h.box).1).trans h.box, h.bel.trans (t.mono h.bel.size)⟩

theorem allow_minus {w : World} {p m : Nat} {r b d : Int} {B : List (Key × Bk)} (L : Lim w p m r b d B) (hd : 0 ≤ d) (hd1 : d ≤ 1000000000) (s : ByteArray) :
    Calls Try.prog 10 #[.pointer (some ⟨p, 0, none⟩), .string s, .int .i64 (-1)] w fun e w' => e = .returned (.bool false) ∧ Lim w' p m r b (d + 1) B ∧ Turn (fun k => k = p) w w' := by
  refine (allow_bad L hd hd1 s (-1) (by omega)).mono (fun e w' q => ⟨q.1, ?_, ?_⟩)
  · rw [q.2]; exact L.denied
  · rw [q.2]; exact turn_denied _ p _ _ rfl

theorem box_start (W : World) (r b : Int) (o : Obj) (n : Nat) : PyBox W (((W.alloc (.cells #[.int .i64 r, .int .i64 b] 39)).alloc o).drewN n) r b :=
  (PyBox.mk (W1 := W.alloc (.cells #[.int .i64 r, .int .i64 b] 39)) (heap_alloc_new W _) ((Below.refl _ _).alloc (Nat.le_refl _) _)).below (pw_below_drewN ((Below.refl _ _).alloc (Nat.le_refl _) _) _)

theorem py_below {W w w' : World} {q p m : Nat} (hb : Below W.heap.size W w) (t : Turn (fun k => k = q ∨ k = p ∨ k = m) w w') (hq : W.heap.size ≤ q) (hp : W.heap.size ≤ p) (hm : W.heap.size ≤ m) : Below W.heap.size W w' :=
  hb.trans (t.to_below hb.size (fun k h => by omega))

theorem wld_now {w : World} {q p m : Nat} {r b d now : Int} {xs : List S71} (h : Wld w q p m r b d now xs) : w.cell? ⟨q, 5, none⟩ = some (.int .i64 now) := by
  obtain ⟨A, c, hq, -⟩ := h.row
  have := (cells_of hq 5).1
  simpa only [List.getElem?_toArray, List.getElem?_cons_succ, List.getElem?_cons_zero] using this

theorem wpAnyH_strong {P : Program} {md : Region.Mode} {ops : Array Oper} {Q : Exit → Act → World → Prop} {S S' : World → Prop} (hS : ∀ w, S' w → S w) : ∀ {fuel : Nat} {listed : Array Bool} {a : Act} {w : World}, wpAnyH P md ops Q S' fuel listed a w → wpAnyH P md ops Q S fuel listed a w
  | 0, _, _, _, h => h
  | _ + 1, _, _, _, h => ⟨h.1, fun i hi => wpOp_mono (fun a' w' h' => ⟨hS w' h'.1, wpAnyH_strong hS h'.2⟩) (h.2 i hi)⟩

set_option maxRecDepth 100000 in
set_option maxHeartbeats 2000000 in
theorem plays_bad (r b : Int) (hrb : ¬ okRule r b) (xs : List S32) (A : Option Addr) (cap : Nat) (key : ByteArray) (t : Int) (W : World) :
    Calls Try.prog 5 #[.agg #[.int .i64 r, .int .i64 b], .slice A xs.length cap, .agg #[.string key, .int .i64 t]] W fun e w' => e = .returned (.bool true) ∧ Below W.heap.size W w' := by
  have HO := Lib.hid hrb
  clear hrb
  go_enter Try.func5, Try.ntmps5
  go_wp2_with fail
  go_quiet (fail)
  go_wp2_with fail
  refine calls_at (fun W1 => PyBox W W1 r b) (box_start _ _ _ _ _) ?_
  intro W1 hP
  have HP := Lib.hid hP
  clear hP
  refine (new_bad r b W1 HO.out).mono ?_
  rintro e W2 ⟨rfl, hb2⟩
  have HP2 := Lib.hid (HP.out.below hb2)
  have k0 := (cells_of HP2.out.box 0).1
  have k1 := (cells_of HP2.out.box 1).1
  simp only [List.getElem?_toArray, List.getElem?_cons_succ, List.getElem?_cons_zero] at k0 k1
  have hz2 : W.heap.size < W2.heap.size := (Array.getElem?_eq_some_iff.1 HP2.out.box).1
  clear hb2
  go_wp2_with fail
  refine (rnew_bad r b W2 HO.out).mono ?_
  rintro e W3 ⟨rfl, hb3⟩
  have HP3 := Lib.hid (HP2.out.below hb3)
  have hz3 : W.heap.size < W3.heap.size := (Array.getElem?_eq_some_iff.1 HP3.out.box).1
  clear hb3 k0 k1
  go_wp2_with fail
  refine (awake_any _).mono ?_
  rintro e W5 ⟨rfl, hb5⟩
  have HB5 := Lib.hid (HP3.out.bel.trans (((Below.refl W3.heap.size W3).alloc (Nat.le_refl _) _ |>.trans (hb5.mono (by simp))).mono HP3.out.bel.size))
  clear hb5
  go_wp2
  go_ret
  exact ⟨rfl, HB5.out⟩

set_option maxRecDepth 100000 in
set_option maxHeartbeats 2000000 in
theorem plays_long (r b : Int) (hrb : okRule r b) (xs : List S32) (h : 300 < xs.length) (A : Option Addr) (cap : Nat) (key : ByteArray) (t : Int) (W : World) :
    Calls Try.prog 5 #[.agg #[.int .i64 r, .int .i64 b], .slice A xs.length cap, .agg #[.string key, .int .i64 t]] W fun e w' => e = .returned (.bool true) ∧ Below W.heap.size W w' := by
  have HO := Lib.hid hrb
  clear hrb
  go_enter Try.func5, Try.ntmps5
  go_wp2_with fail
  go_quiet (fail)
  go_wp2_with fail
  refine calls_at (fun W1 => PyBox W W1 r b) (box_start _ _ _ _ _) ?_
  intro W1 hP
  have HP := Lib.hid hP
  clear hP
  refine (new_any r b W1 HO.out.1 HO.out.2.1 HO.out.2.2.1 HO.out.2.2.2).mono ?_
  rintro e W2 ⟨p, m, rfl, L2, hb2, hp, hm⟩
  have HP2 := Lib.hid (HP.out.below hb2)
  have HL2 := Lib.hid L2
  have k0 := (cells_of HP2.out.box 0).1
  have k1 := (cells_of HP2.out.box 1).1
  simp only [List.getElem?_toArray, List.getElem?_cons_succ, List.getElem?_cons_zero] at k0 k1
  have hz2 : W.heap.size < W2.heap.size := (Array.getElem?_eq_some_iff.1 HP2.out.box).1
  have hp1 : W.heap.size ≤ p := Nat.le_trans HP.out.bel.size hp
  have hm1 : W.heap.size ≤ m := Nat.le_trans HP.out.bel.size hm
  clear L2 hb2 hp hm
  go_wp2_with fail
  refine (rnew_ok r b W2 HO.out).mono ?_
  rintro e W3 ⟨rfl, hb3⟩
  have HP3 := Lib.hid (HP2.out.below hb3)
  have HL3 := Lib.hid (HL2.out.below hb3)
  have hz3 : W.heap.size < W3.heap.size := (Array.getElem?_eq_some_iff.1 HP3.out.box).1
  clear hb3 k0 k1 HL2
  go_wp2_with fail
  refine (awake_any _).mono ?_
  rintro e W5 ⟨rfl, hb5⟩
  have HB5 := Lib.hid (HP3.out.bel.trans (((Below.refl W3.heap.size W3).alloc (Nat.le_refl _) _ |>.trans (hb5.mono (by simp))).mono HP3.out.bel.size))
  clear hb5
  go_wp2
  go_ret
  exact ⟨rfl, HB5.out⟩

set_option maxRecDepth 100000 in
set_option maxHeartbeats 2000000 in
theorem plays_main (r b : Int) (hrb : okRule r b) (xs : List S32) (h : xs.length ≤ 300) (A : Option Addr) (cap : Nat) (key : ByteArray) (hkey : key.size ≤ maxLen) (t : Int) (W : World) (hC : Kd.C k32 W A xs.length xs) (hok : ∀ x ∈ xs, okAct x) :
    Calls Try.prog 5 #[.agg #[.int .i64 r, .int .i64 b], .slice A xs.length cap, .agg #[.string key, .int .i64 t]] W fun e w' => e = .returned (.bool true) ∧ Below W.heap.size W w' := by
  have HO := Lib.hid hrb
  have HC := Lib.hid hC
  have HK := Lib.hid hok
  clear hrb hC hok
  go_enter Try.func5, Try.ntmps5
  go_wp2_with fail
  go_quiet (fail)
  go_wp2_with fail
  refine calls_at (fun W1 => PyBox W W1 r b) (box_start _ _ _ _ _) ?_
  intro W1 hP
  have HP := Lib.hid hP
  clear hP
  refine (new_any r b W1 HO.out.1 HO.out.2.1 HO.out.2.2.1 HO.out.2.2.2).mono ?_
  rintro e W2 ⟨p, m, rfl, L2, hb2, hp, hm⟩
  have HP2 := Lib.hid (HP.out.below hb2)
  have HL2 := Lib.hid L2
  have k0 := (cells_of HP2.out.box 0).1
  have k1 := (cells_of HP2.out.box 1).1
  simp only [List.getElem?_toArray, List.getElem?_cons_succ, List.getElem?_cons_zero] at k0 k1
  have hz2 : W.heap.size < W2.heap.size := (Array.getElem?_eq_some_iff.1 HP2.out.box).1
  have hp1 : W.heap.size ≤ p := Nat.le_trans HP.out.bel.size hp
  have hm1 : W.heap.size ≤ m := Nat.le_trans HP.out.bel.size hm
  clear L2 hb2 hp hm
  go_wp2_with fail
  refine (rnew_ok r b W2 HO.out).mono ?_
  rintro e W3 ⟨rfl, hb3⟩
  have HP3 := Lib.hid (HP2.out.below hb3)
  have HL3 := Lib.hid (HL2.out.below hb3)
  have hz3 : W.heap.size < W3.heap.size := (Array.getElem?_eq_some_iff.1 HP3.out.box).1
  clear hb3 k0 k1 HL2
  have hp3 := HL3.out.lt
  have hm3 := HL3.out.ltm
  go_wp2_with fail
  have hX0 : Wld ((W3.alloc (.cells #[.int .i64 r, .int .i64 b, .slice none 0 0, .int .i64 0] 44)).alloc (.cells #[.pointer (some ⟨p, 0, none⟩), .int .i64 r, .int .i64 b, .slice none 0 0, .int .i64 0, .int .i64 0] 49)) (W3.heap.size + 1) p m r b 0 0 [] := by
    have h := wld_new (HL3.out.below ((Below.refl _ _).alloc (Nat.le_refl _) (.cells #[.int .i64 r, .int .i64 b, .slice none 0 0, .int .i64 0] 44)))
    rwa [show (W3.alloc (.cells #[.int .i64 r, .int .i64 b, .slice none 0 0, .int .i64 0] 44)).heap.size = W3.heap.size + 1 from by simp] at h
  have hB0 : Below W.heap.size W ((W3.alloc (.cells #[.int .i64 r, .int .i64 b, .slice none 0 0, .int .i64 0] 44)).alloc (.cells #[.pointer (some ⟨p, 0, none⟩), .int .i64 r, .int .i64 b, .slice none 0 0, .int .i64 0, .int .i64 0] 49)) :=
    (HP3.out.bel.alloc HP3.out.bel.size _).alloc (HP3.out.bel.alloc HP3.out.bel.size _).size _
  have HX0 := Lib.hid hX0
  have HB0 := Lib.hid hB0
  clear hX0 hB0
  go_loopw [14] (fun v14 wr => ∃ (i : Nat), i ≤ xs.length ∧ v14 = .int .i64 i ∧ PyRel W wr (W3.heap.size + 1) p m r b i) (fun v14 _ => xs.length - (intOf v14).toNat)
  case atStart => exact ⟨0, by omega, rfl, ⟨0, 0, [], by omega, by omega, by omega, by omega, HX0.out, HB0.out⟩⟩
  case round =>
    obtain ⟨i, hi, rfl, hR⟩ := hrel
    obtain ⟨d, now, ys, hd0, hd1, hn0, hn1, hX, hB⟩ := hR.out
    by_cases hlt : i < xs.length
    · obtain ⟨ad, rfl, q0, q1, q2, q3⟩ := at_act (Kd.C_below HC.out hB) i hlt
      have hox := HK.out (rd_T32 xs i) (rd_mem xs i hlt)
      obtain ⟨x, hx⟩ : ∃ x, rd_T32 xs i = x := ⟨_, rfl⟩
      rw [hx] at q0 q1 q2 q3 hox
      have HXN := Lib.hid hx
      have HOX := Lib.hid hox
      have HX := Lib.hid hX
      have HB := Lib.hid hB
      clear hx hox hX hB hR
      go_wp2_with fail
      refine wp_region_held_drew (S := fun w' => w'.cell? (ad.add (i * 4)) = some (.int .u8 x.f0) ∧ w'.cell? ⟨(ad.add (i * 4)).block, (ad.add (i * 4)).off + 1, none⟩ = some (.string x.f1) ∧ w'.cell? ⟨(ad.add (i * 4)).block, (ad.add (i * 4)).off + 2, none⟩ = some (.int .u16 x.f2) ∧ w'.cell? ⟨(ad.add (i * 4)).block, (ad.add (i * 4)).off + 3, none⟩ = some (.bool x.f3)) (by kernel_rfl) ⟨q0, q1, q2, q3⟩ (fun hHeld => ?_)
      refine wpAnyH_take (i := 0) (oi := _) (v := ?_) rfl (by kernel_rfl) (by kernel_rfl) (by kernel_rfl) (fun _ _ _ h => h) (Or.inl ⟨by rfl, ?_⟩) (by assumption) ?_
      rotate_left 1
      · intro w hSw
        try dsimp only at hSw
        go_simp
        try with_reducible rfl
      try simp only [Act.put, List.setIfInBounds_toArray, List.set_cons_zero, List.set_cons_succ, List.getElem_toArray, List.getElem_cons_zero, List.getElem_cons_succ]
      refine wpAnyH_take (i := 1) (oi := _) (v := ?_) rfl (by kernel_rfl) (by kernel_rfl) (by kernel_rfl) (fun _ _ _ h => h) (Or.inl ⟨by rfl, ?_⟩) (by assumption) ?_
      rotate_left 1
      · intro w hSw
        try dsimp only at hSw
        go_simp
        try with_reducible rfl
      try simp only [Act.put, List.setIfInBounds_toArray, List.set_cons_zero, List.set_cons_succ, List.getElem_toArray, List.getElem_cons_zero, List.getElem_cons_succ]
      refine wpAnyH_take (i := 2) (oi := _) (v := ?_) rfl (by kernel_rfl) (by kernel_rfl) (by kernel_rfl) (fun _ _ _ h => h) (Or.inl ⟨by rfl, ?_⟩) (by assumption) ?_
      rotate_left 1
      · intro w hSw
        try dsimp only at hSw
        go_simp
        try with_reducible rfl
      try simp only [Act.put, List.setIfInBounds_toArray, List.set_cons_zero, List.set_cons_succ, List.getElem_toArray, List.getElem_cons_zero, List.getElem_cons_succ]
      refine wpAnyH_take (i := 3) (oi := _) (v := ?_) rfl (by kernel_rfl) (by kernel_rfl) (by kernel_rfl) (fun _ _ _ h => h) (Or.inl ⟨by rfl, ?_⟩) (by assumption) ?_
      rotate_left 1
      · intro w hSw
        try dsimp only at hSw
        go_simp
        try with_reducible rfl
      try simp only [Act.put, List.setIfInBounds_toArray, List.set_cons_zero, List.set_cons_succ, List.getElem_toArray, List.getElem_cons_zero, List.getElem_cons_succ]
      refine wpAnyH_take (i := 4) (oi := _) (v := ?_) rfl (by kernel_rfl) (by kernel_rfl) (by kernel_rfl) (fun _ _ _ h => h) (Or.inl ⟨by rfl, ?_⟩) (by assumption) ?_
      rotate_left 1
      · intro w hSw
        try dsimp only at hSw
        go_simp
        try with_reducible rfl
      try simp only [Act.put, List.setIfInBounds_toArray, List.set_cons_zero, List.set_cons_succ, List.getElem_toArray, List.getElem_cons_zero, List.getElem_cons_succ]
      refine wpAnyH_ready (rs := [5]) (by kernel_rfl) (by simp) ?_
      refine AllReadyH.cons (o := _) rfl (fun K hK => ?_) AllReadyH.nil
      go_simp
      refine (do_any _ (W3.heap.size + 1) p m r b d now ys (HX.out.below ((Below.refl _ _).drew)) ⟨hd0, by omega⟩ ⟨hn0, by omega⟩ x HOX.out).mono ?_
      rintro e W4 ⟨rfl, d', now', ys', hX4, hd2, hd3, hn2, hn3, t4⟩
      have HX4 := Lib.hid hX4
      have HB4 := Lib.hid (py_below (HB.out.drew) t4 (by omega) hp1 hm1)
      obtain ⟨ad', hade, a0, a1, a2, a3⟩ := at_act (Kd.C_below HC.out HB4.out) i hlt
      cases hade
      rw [HXN.out] at a0 a1 a2 a3
      have a5 := wld_now hX4
      have hok4 := HOX.out.2.1
      clear hX4 t4 hHeld
      refine hK.out _ _ ⟨a0, a1, a2, a3⟩ (fun hHeld => ?_)
      clear hK K hHeld
      refine wpAnyH_strong (S' := fun w' => (w'.cell? (ad.add (i * 4)) = some (.int .u8 x.f0) ∧ w'.cell? ⟨(ad.add (i * 4)).block, (ad.add (i * 4)).off + 1, none⟩ = some (.string x.f1) ∧ w'.cell? ⟨(ad.add (i * 4)).block, (ad.add (i * 4)).off + 2, none⟩ = some (.int .u16 x.f2) ∧ w'.cell? ⟨(ad.add (i * 4)).block, (ad.add (i * 4)).off + 3, none⟩ = some (.bool x.f3)) ∧ w'.cell? ⟨W3.heap.size + 1, 5, none⟩ = some (.int .i64 now')) (fun w h => h.1) ?_
      have hHeld2 : (fun w' : World => (w'.cell? (ad.add (i * 4)) = some (.int .u8 x.f0) ∧ w'.cell? ⟨(ad.add (i * 4)).block, (ad.add (i * 4)).off + 1, none⟩ = some (.string x.f1) ∧ w'.cell? ⟨(ad.add (i * 4)).block, (ad.add (i * 4)).off + 2, none⟩ = some (.int .u16 x.f2) ∧ w'.cell? ⟨(ad.add (i * 4)).block, (ad.add (i * 4)).off + 3, none⟩ = some (.bool x.f3)) ∧ w'.cell? ⟨W3.heap.size + 1, 5, none⟩ = some (.int .i64 now')) W4 := ⟨⟨a0, a1, a2, a3⟩, a5⟩
      refine wpAnyH_take (i := 6) (oi := _) (v := ?_) rfl (by kernel_rfl) (by kernel_rfl) (by kernel_rfl) (fun _ _ _ h => h) (Or.inl ⟨by rfl, ?_⟩) (by assumption) ?_
      rotate_left 1
      · intro w hSw
        try dsimp only at hSw
        go_simp
        try with_reducible rfl
      try simp only [Act.put, List.setIfInBounds_toArray, List.set_cons_zero, List.set_cons_succ, List.getElem_toArray, List.getElem_cons_zero, List.getElem_cons_succ]
      refine wpAnyH_take (i := 7) (oi := _) (v := ?_) rfl (by kernel_rfl) (by kernel_rfl) (by kernel_rfl) (fun _ _ _ h => h) (Or.inl ⟨by rfl, ?_⟩) (by assumption) ?_
      rotate_left 1
      · intro w hSw
        try dsimp only at hSw
        go_simp
        try with_reducible rfl
      try simp only [Act.put, List.setIfInBounds_toArray, List.set_cons_zero, List.set_cons_succ, List.getElem_toArray, List.getElem_cons_zero, List.getElem_cons_succ]
      refine wpAnyH_take (i := 8) (oi := _) (v := ?_) rfl (by kernel_rfl) (by kernel_rfl) (by kernel_rfl) (fun _ _ _ h => h) (Or.inl ⟨by rfl, ?_⟩) (by assumption) ?_
      rotate_left 1
      · intro w hSw
        try dsimp only at hSw
        go_simp
        try with_reducible rfl
      try simp only [Act.put, List.setIfInBounds_toArray, List.set_cons_zero, List.set_cons_succ, List.getElem_toArray, List.getElem_cons_zero, List.getElem_cons_succ]
      refine wpAnyH_take (i := 9) (oi := _) (v := ?_) rfl (by kernel_rfl) (by kernel_rfl) (by kernel_rfl) (fun _ _ _ h => h) (Or.inl ⟨by rfl, ?_⟩) (by assumption) ?_
      rotate_left 1
      · intro w hSw
        try dsimp only at hSw
        go_simp
        try with_reducible rfl
      try simp only [Act.put, List.setIfInBounds_toArray, List.set_cons_zero, List.set_cons_succ, List.getElem_toArray, List.getElem_cons_zero, List.getElem_cons_succ]
      refine wpAnyH_take (i := 10) (oi := _) (v := ?_) rfl (by kernel_rfl) (by kernel_rfl) (by kernel_rfl) (fun _ _ _ h => h) (Or.inl ⟨by rfl, ?_⟩) (by assumption) ?_
      rotate_left 1
      · intro w hSw
        try dsimp only at hSw
        go_simp
        try with_reducible rfl
      try simp only [Act.put, List.setIfInBounds_toArray, List.set_cons_zero, List.set_cons_succ, List.getElem_toArray, List.getElem_cons_zero, List.getElem_cons_succ]
      refine wpAnyH_take (i := 11) (oi := _) (v := ?_) rfl (by kernel_rfl) (by kernel_rfl) (by kernel_rfl) (fun _ _ _ h => h) (Or.inl ⟨by rfl, ?_⟩) (by assumption) ?_
      rotate_left 1
      · intro w hSw
        try dsimp only at hSw
        go_simp
        try with_reducible rfl
      try simp only [Act.put, List.setIfInBounds_toArray, List.set_cons_zero, List.set_cons_succ, List.getElem_toArray, List.getElem_cons_zero, List.getElem_cons_succ]
      refine wpAnyH_take (i := 12) (oi := _) (v := ?_) rfl (by kernel_rfl) (by kernel_rfl) (by kernel_rfl) (fun _ _ _ h => h) (Or.inl ⟨by rfl, ?_⟩) (by assumption) ?_
      rotate_left 1
      · intro w hSw
        try dsimp only at hSw
        go_simp
        try with_reducible rfl
      try simp only [Act.put, List.setIfInBounds_toArray, List.set_cons_zero, List.set_cons_succ, List.getElem_toArray, List.getElem_cons_zero, List.getElem_cons_succ]
      refine wpAnyH_take (i := 13) (oi := _) (v := ?_) rfl (by kernel_rfl) (by kernel_rfl) (by kernel_rfl) (fun _ _ _ h => h) (Or.inl ⟨by rfl, ?_⟩) (by assumption) ?_
      rotate_left 1
      · intro w hSw
        try dsimp only at hSw
        go_simp
        try with_reducible rfl
      try simp only [Act.put, List.setIfInBounds_toArray, List.set_cons_zero, List.set_cons_succ, List.getElem_toArray, List.getElem_cons_zero, List.getElem_cons_succ]
      refine wpAnyH_take (i := 14) (oi := _) (v := ?_) rfl (by kernel_rfl) (by kernel_rfl) (by kernel_rfl) (fun _ _ _ h => h) (Or.inl ⟨by rfl, ?_⟩) (by assumption) ?_
      rotate_left 1
      · intro w hSw
        try dsimp only at hSw
        go_simp
        try with_reducible rfl
      try simp only [Act.put, List.setIfInBounds_toArray, List.set_cons_zero, List.set_cons_succ, List.getElem_toArray, List.getElem_cons_zero, List.getElem_cons_succ]
      refine wpAnyH_take (i := 15) (oi := _) (v := ?_) rfl (by kernel_rfl) (by kernel_rfl) (by kernel_rfl) (fun _ _ _ h => h) (Or.inl ⟨by rfl, ?_⟩) (by assumption) ?_
      rotate_left 1
      · intro w hSw
        try dsimp only at hSw
        go_simp
        try with_reducible rfl
      try simp only [Act.put, List.setIfInBounds_toArray, List.set_cons_zero, List.set_cons_succ, List.getElem_toArray, List.getElem_cons_zero, List.getElem_cons_succ]
      refine wpAnyH_take (i := 16) (oi := _) (v := ?_) rfl (by kernel_rfl) (by kernel_rfl) (by kernel_rfl) (fun _ _ _ h => h) (Or.inl ⟨by rfl, ?_⟩) (by assumption) ?_
      rotate_left 1
      · intro w hSw
        try dsimp only at hSw
        go_simp
        try with_reducible rfl
      try simp only [Act.put, List.setIfInBounds_toArray, List.set_cons_zero, List.set_cons_succ, List.getElem_toArray, List.getElem_cons_zero, List.getElem_cons_succ]
      refine wpAnyH_take (i := 17) (oi := _) (v := ?_) rfl (by kernel_rfl) (by kernel_rfl) (by kernel_rfl) (fun _ _ _ h => h) (Or.inl ⟨by rfl, ?_⟩) (by assumption) ?_
      rotate_left 1
      · intro w hSw
        try dsimp only at hSw
        go_simp
        try with_reducible rfl
      try simp only [Act.put, List.setIfInBounds_toArray, List.set_cons_zero, List.set_cons_succ, List.getElem_toArray, List.getElem_cons_zero, List.getElem_cons_succ]
      refine wpAnyH_ready (rs := [18]) (by kernel_rfl) (by simp) ?_
      refine AllReadyH.cons (o := _) rfl (fun K hK => ?_) AllReadyH.nil
      go_simp
      refine (same_any _ _ p m r b d' now' ys' HX4.out x.f1 hok4 now').mono ?_
      rintro e W5 ⟨rfl, hb5⟩
      have HX5 := Lib.hid (HX4.out.below hb5)
      have HB5 := Lib.hid (HB4.out.trans (hb5.mono HB4.out.size))
      obtain ⟨ad', hade, b0, b1, b2, b3⟩ := at_act (Kd.C_below HC.out HB5.out) i hlt
      cases hade
      rw [HXN.out] at b0 b1 b2 b3
      have b5 := wld_now HX5.out
      clear hb5 hHeld2
      refine hK.out _ _ ⟨⟨b0, b1, b2, b3⟩, b5⟩ (fun hHeld => ?_)
      clear hK K
      refine wpAnyH_take (i := 19) (oi := _) (v := ?_) rfl (by kernel_rfl) (by kernel_rfl) (by kernel_rfl) (fun _ _ _ h => h) (Or.inl ⟨by rfl, ?_⟩) (by assumption) ?_
      rotate_left 1
      · intro w hSw
        try dsimp only at hSw
        go_simp
        try with_reducible rfl
      try simp only [Act.put, List.setIfInBounds_toArray, List.set_cons_zero, List.set_cons_succ, List.getElem_toArray, List.getElem_cons_zero, List.getElem_cons_succ]
      refine wpAnyH_take (i := 20) (oi := _) (v := ?_) rfl (by kernel_rfl) (by kernel_rfl) (by kernel_rfl) (fun _ _ _ h => h) (Or.inl ⟨by rfl, ?_⟩) (by assumption) ?_
      rotate_left 1
      · intro w hSw
        try dsimp only at hSw
        go_simp
        try with_reducible rfl
      try simp only [Act.put, List.setIfInBounds_toArray, List.set_cons_zero, List.set_cons_succ, List.getElem_toArray, List.getElem_cons_zero, List.getElem_cons_succ]
      refine wpAnyH_done (by kernel_rfl) ?_ _
      clear hHeld q0 q1 q2 q3 a0 a1 a2 a3 a5 b0 b1 b2 b3 b5
      go_wp2_with fail
      go_roundw
      case rel => exact ⟨i + 1, by omega, by go_num, ⟨d', now', ys', by omega, by omega, by omega, by omega, HX5.out, HB5.out⟩⟩
      case measure => simp [intOf]; omega
    · have HX := Lib.hid hX
      have HB := Lib.hid hB
      clear hX hB hR
      go_wp2_with fail
      refine (same_any _ _ p m r b d now ys HX.out key hkey t).mono ?_
      rintro e W4 ⟨rfl, hb4⟩
      have HL4 := Lib.hid (HX.out.below hb4).lim
      have HB4 := Lib.hid (HB.out.trans (hb4.mono HB.out.size))
      clear hb4
      go_wp2_with fail
      refine (allow_minus HL4.out hd0 (by omega) key).mono ?_
      rintro e W5 ⟨rfl, L5, t5⟩
      have HB5 := Lib.hid (HB4.out.trans (t5.to_below HB4.out.size (fun k h => by omega)))
      clear L5 t5
      go_wp2_with fail
      refine (forget_bad p (-1) (by omega) _).mono ?_
      rintro e W6 ⟨rfl, rfl⟩
      go_wp2_with fail
      refine (awake_any _).mono ?_
      rintro e W7 ⟨rfl, hb7⟩
      have HB7 := Lib.hid (HB5.out.trans (hb7.mono HB5.out.size))
      clear hb7
      go_wp2
      go_ret
      exact ⟨rfl, HB7.out⟩

end Go.Proofs.Ytgphhjghodhodaa
