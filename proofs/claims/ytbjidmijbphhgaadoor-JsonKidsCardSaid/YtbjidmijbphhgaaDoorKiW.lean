/- JsonKids, walked. -/
import Derived.Test.YtbjidmijbphhgaaDoorKiO
import Derived.Test.YtbjidmijbphhgaaDoorJh
namespace Go.Proofs.YtbjidmijbphhgaaDoor
open Go.RowKit Go.Proofs.YtbjidmijbphhgaaDoorW.PrintWords PJsonKids
set_option linter.unusedVariables false
set_option linter.unusedSimpArgs false

theorem calls_at {P : Program} {f : Nat} {args : Array Value} {Q : Ending → World → Prop} {W : World} (S : World → Prop) (h : S W) (k : ∀ W1, S W1 → Calls P f args W1 Q) : Calls P f args W Q := k W h
/-- Behind the box of the place. -/
structure KiBox (W W1 : World) (i : Int) (name : ByteArray) : Prop where
  bel : Below W.heap.size W W1
  c0 : W1.cell? ⟨W.heap.size, 0, none⟩ = some (.int .i64 i)
  c1 : W1.cell? ⟨W.heap.size, 1, none⟩ = some (.string name)
  lt : W.heap.size < W1.heap.size
theorem KiBox.below {W W1 W2 : World} {i : Int} {name : ByteArray} (h : KiBox W W1 i name) (b : Below W1.heap.size W1 W2) : KiBox W W2 i name :=
  ⟨h.bel.trans (b.mono h.bel.size), (b.cell h.lt).trans h.c0, (b.cell h.lt).trans h.c1, Nat.lt_of_lt_of_le h.lt b.size⟩
theorem kibox_start (W : World) (i : Int) (name : ByteArray) : KiBox W (W.alloc (.cells #[.int .i64 i, .string name] 45)) i name :=
  ⟨(Below.refl W.heap.size W).alloc (Nat.le_refl _) _, by go_simp, by go_simp, by simp⟩

set_option maxRecDepth 100000 in
set_option maxHeartbeats 2000000 in
theorem kids_bad {W : World} (hT : Tabs W) (A : Option Addr) (c : Nat) (l : List S36) (B : Option Addr) (d : Nat) (m : List S36) (i : Int) (name : ByteArray)
    (hC : Kd.C k36 W A l.length l) (hc : l.length ≤ c) (hD : Kd.C k36 W B m.length m) (hd : m.length ≤ d) (k : Nat) (hk : watchfireref24_Light.f k l 4000 = some false) :
    Calls Tryd.prog 8 #[.slice A l.length c, .slice B m.length d, .agg #[.int .i64 i, .string name]] W fun e w' => e = .returned (.bool true) ∧ Below W.heap.size W w' := by
  have HT := Lib.hid hT
  have HC := Lib.hid (And.intro hC hc)
  have HK := Lib.hid hk
  clear hT hC hc hD hd hk
  go_enter Tryd.func8, Tryd.ntmps8
  go_wp2_with fail
  refine calls_at (fun W1 => KiBox W W1 i name) (kibox_start _ _ _) ?_
  intro W1 hP
  have HP := Lib.hid hP
  clear hP
  refine (watchfireref24_Light.calls k A c l 4000 false W1 (Kd.C_below HC.out.1 HP.out.bel) HC.out.2 HK.out).mono ?_
  rintro e W2 ⟨rfl, hb2⟩
  have HP2 := Lib.hid (HP.out.below hb2)
  clear hb2
  go_wp2_with fail
  refine (awake_any (tabs_below HT.out HP2.out.bel)).mono ?_
  rintro e W3 ⟨rfl, hb3⟩
  have HP3 := Lib.hid (HP2.out.below hb3)
  clear hb3
  go_wp2
  go_ret
  exact ⟨rfl, HP3.out.bel⟩

set_option maxRecDepth 100000 in
set_option maxHeartbeats 2000000 in
theorem kids_bad2 {W : World} (hT : Tabs W) (A : Option Addr) (c : Nat) (l : List S36) (B : Option Addr) (d : Nat) (m : List S36) (i : Int) (name : ByteArray)
    (hC : Kd.C k36 W A l.length l) (hc : l.length ≤ c) (hD : Kd.C k36 W B m.length m) (hd : m.length ≤ d) (k : Nat) (hk : watchfireref24_Light.f k l 4000 = some true) (k2 : Nat) (hk2 : watchfireref24_Light.f k2 m 4000 = some false) :
    Calls Tryd.prog 8 #[.slice A l.length c, .slice B m.length d, .agg #[.int .i64 i, .string name]] W fun e w' => e = .returned (.bool true) ∧ Below W.heap.size W w' := by
  have HT := Lib.hid hT
  have HC := Lib.hid (And.intro hC hc)
  have HD := Lib.hid (And.intro hD hd)
  have HK := Lib.hid hk
  have HK2 := Lib.hid hk2
  clear hT hC hc hD hd hk hk2
  go_enter Tryd.func8, Tryd.ntmps8
  go_wp2_with fail
  refine calls_at (fun W1 => KiBox W W1 i name) (kibox_start _ _ _) ?_
  intro W1 hP
  have HP := Lib.hid hP
  clear hP
  refine (watchfireref24_Light.calls k A c l 4000 true W1 (Kd.C_below HC.out.1 HP.out.bel) HC.out.2 HK.out).mono ?_
  rintro e W2 ⟨rfl, hb2⟩
  have HP2 := Lib.hid (HP.out.below hb2)
  clear hb2
  go_wp2_with fail
  refine (watchfireref24_Light.calls k2 B d m 4000 false W2 (Kd.C_below HD.out.1 HP2.out.bel) HD.out.2 HK2.out).mono ?_
  rintro e W3 ⟨rfl, hb3⟩
  have HP3 := Lib.hid (HP2.out.below hb3)
  clear hb3
  go_wp2_with fail
  refine (awake_any (tabs_below HT.out HP3.out.bel)).mono ?_
  rintro e W4 ⟨rfl, hb3⟩
  have HP4 := Lib.hid (HP3.out.below hb3)
  clear hb3
  go_wp2
  go_ret
  exact ⟨rfl, HP4.out.bel⟩

/-- A slice that reads as these numbers. -/
def KRead (w : World) (v : Value) (ks : List Int) : Prop := ∃ A c, v = .slice A ks.length c ∧ Kd.C (Kd.int .i64) w A ks.length ks
theorem KRead.below {w w' : World} {v : Value} {ks : List Int} (h : KRead w v ks) (b : Below w.heap.size w w') : KRead w' v ks := by
  obtain ⟨A, c, e, hC⟩ := h
  exact ⟨A, c, e, Kd.C_below hC b⟩
theorem KRead.of {w : World} {base : Nat} {ok : Nat → Prop} {v : Value} {ks : List Int} (h : Kd.R (Kd.int .i64) 3 w base ok v ks) : KRead w v ks := by
  obtain ⟨A, c, rfl⟩ := Kd.R_slice h
  exact ⟨A, c, rfl, (Kd.R_reads' h).2.2⟩
theorem KRead.at {w : World} {v : Value} {ks : List Int} (h : KRead w v ks) {j : Nat} (hj : j < ks.length) : ∃ a c, v = .slice (some a) ks.length c ∧ w.cell? (a.add j) = some (.int .i64 ks[j]) := by
  obtain ⟨A, c, rfl, hC⟩ := h
  obtain ⟨ad, cs, rfl, hl, hK, hc⟩ := Kd.C_get hC 0 (j : Int) (by omega) (by omega)
  have hK' : cs = [.int .i64 (ks.getD ((j : Int).toNat) 0)] := hK
  subst hK'
  have h0 := hc 0 _ rfl
  rw [Int.toNat_natCast, List.getD_eq_getElem?_getD, List.getElem?_eq_getElem hj] at h0
  have h1 : w.cell? (ad.add (j * 1 + 0)) = some (.int .i64 ks[j]) := h0
  exact ⟨ad, c, rfl, by simpa using h1⟩

set_option maxRecDepth 100000 in
set_option maxHeartbeats 4000000 in
theorem kids_main {W : World} (hT : Tabs W) (A : Option Addr) (c : Nat) (l : List S36) (B : Option Addr) (d : Nat) (m : List S36) (i : Int) (name : Bytes)
    (hC : Kd.C k36 W A l.length l) (hc : l.length ≤ c) (hD : Kd.C k36 W B m.length m) (hd : m.length ≤ d) (hok : ∀ x ∈ l, okV x) (k : Nat) (hk : watchfireref24_Light.f k l 4000 = some true) (k2 : Nat) (hk2 : watchfireref24_Light.f k2 m 4000 = some true) (hl : l.length ≤ 600) :
    Calls Tryd.prog 8 #[.slice A l.length c, .slice B m.length d, .agg #[.int .i64 i, .string (str name)]] W fun e w' => e = .returned (.bool true) ∧ Below W.heap.size W w' := by
  have HT := Lib.hid hT
  have HC := Lib.hid (And.intro hC hc)
  have HD := Lib.hid (And.intro hD hd)
  have HK := Lib.hid hk
  have HK2 := Lib.hid hk2
  have HO := Lib.hid hok
  have HL := Lib.hid hl
  clear hT hC hc hD hd hk hk2 hok hl
  go_enter Tryd.func8, Tryd.ntmps8
  go_wp2_with fail
  refine calls_at (fun W1 => KiBox W W1 i (str name)) (kibox_start _ _ _) ?_
  intro W1 hP
  have HP := Lib.hid hP
  clear hP
  refine (watchfireref24_Light.calls k A c l 4000 true W1 (Kd.C_below HC.out.1 HP.out.bel) HC.out.2 HK.out).mono ?_
  rintro e W2 ⟨rfl, hb2⟩
  have HP2 := Lib.hid (HP.out.below hb2)
  clear hb2
  go_wp2_with fail
  refine (watchfireref24_Light.calls k2 B d m 4000 true W2 (Kd.C_below HD.out.1 HP2.out.bel) HD.out.2 HK2.out).mono ?_
  rintro e W3 ⟨rfl, hb3⟩
  have HP3 := Lib.hid (HP2.out.below hb3)
  clear hb3 HP HP2
  go_wp2_with fail
  go_cut [7, 8] (fun v7 v8 wc => KiBox W wc i (str name) ∧ KRead wc v7 (kidsM l i) ∧ KRead wc v8 (kidsM l i))
  case first =>
    have k0 := HP3.out.c0
    refine wp_region_held_drew (S := fun w' => w'.cell? ⟨W.heap.size, 0, none⟩ = some (.int .i64 i)) (by kernel_rfl) k0 (fun hHeld => ?_)
    refine wpAnyH_take (i := 0) (oi := _) (v := ?_) rfl (by kernel_rfl) (by kernel_rfl) (by kernel_rfl) (fun _ _ _ h => h) (Or.inl ⟨by rfl, ?_⟩) (by assumption) ?_
    rotate_left 1
    · intro w hSw
      try dsimp only at hSw
      go_simp
      try with_reducible rfl
    try simp only [Act.put, List.setIfInBounds_toArray, List.set_cons_zero, List.set_cons_succ, List.getElem_toArray, List.getElem_cons_zero, List.getElem_cons_succ]
    refine wpAnyH_take (i := 1) (oi := _) (v := ?_) rfl (by kernel_rfl) (by kernel_rfl) (by kernel_rfl) (fun _ _ _ h => h) (Or.inl ⟨by rfl, ?_⟩) (by assumption) ?_
    rotate_left 1
    · intro w hSw
      try dsimp only at hSw
      go_simp
      try with_reducible rfl
    try simp only [Act.put, List.setIfInBounds_toArray, List.set_cons_zero, List.set_cons_succ, List.getElem_toArray, List.getElem_cons_zero, List.getElem_cons_succ]
    refine wpAnyH_take (i := 2) (oi := _) (v := ?_) rfl (by kernel_rfl) (by kernel_rfl) (by kernel_rfl) (fun _ _ _ h => h) (Or.inl ⟨by rfl, ?_⟩) (by assumption) ?_
    rotate_left 1
    · intro w hSw
      try dsimp only at hSw
      go_simp
      try with_reducible rfl
    try simp only [Act.put, List.setIfInBounds_toArray, List.set_cons_zero, List.set_cons_succ, List.getElem_toArray, List.getElem_cons_zero, List.getElem_cons_succ]
    refine wpAnyH_take (i := 4) (oi := _) (v := ?_) rfl (by kernel_rfl) (by kernel_rfl) (by kernel_rfl) (fun _ _ _ h => h) (Or.inl ⟨by rfl, ?_⟩) (by assumption) ?_
    rotate_left 1
    · intro w hSw
      try dsimp only at hSw
      go_simp
      try with_reducible rfl
    try simp only [Act.put, List.setIfInBounds_toArray, List.set_cons_zero, List.set_cons_succ, List.getElem_toArray, List.getElem_cons_zero, List.getElem_cons_succ]
    refine wpAnyH_take (i := 5) (oi := _) (v := ?_) rfl (by kernel_rfl) (by kernel_rfl) (by kernel_rfl) (fun _ _ _ h => h) (Or.inl ⟨by rfl, ?_⟩) (by assumption) ?_
    rotate_left 1
    · intro w hSw
      try dsimp only at hSw
      go_simp
      try with_reducible rfl
    try simp only [Act.put, List.setIfInBounds_toArray, List.set_cons_zero, List.set_cons_succ, List.getElem_toArray, List.getElem_cons_zero, List.getElem_cons_succ]
    refine wpAnyH_take (i := 6) (oi := _) (v := ?_) rfl (by kernel_rfl) (by kernel_rfl) (by kernel_rfl) (fun _ _ _ h => h) (Or.inl ⟨by rfl, ?_⟩) (by assumption) ?_
    rotate_left 1
    · intro w hSw
      try dsimp only at hSw
      go_simp
      try with_reducible rfl
    try simp only [Act.put, List.setIfInBounds_toArray, List.set_cons_zero, List.set_cons_succ, List.getElem_toArray, List.getElem_cons_zero, List.getElem_cons_succ]
    refine wpAnyH_ready (rs := [3]) (by kernel_rfl) (by simp) ?_
    refine AllReadyH.cons (o := _) rfl (fun K hK => ?_) AllReadyH.nil
    go_simp
    refine (json_Kids.calls (l.length + 1) A c l i (kidsM l i) _ (Kd.C_below HC.out.1 (HP3.out.bel.trans (((Below.refl W3.heap.size W3).drew).mono HP3.out.bel.size))) HC.out.2 (kids_json_f l i HL.out)).mono ?_
    rintro e W4 ⟨v7, rfl, R4, b4⟩
    have HR4 := Lib.hid (KRead.of R4)
    have HP4 := Lib.hid (HP3.out.below (((Below.refl W3.heap.size W3).drew).trans b4))
    have k4 := HP4.out.c0
    clear R4 b4 hHeld
    refine hK.out _ _ k4 (fun hHeld => ?_)
    clear hK K
    refine wpAnyH_ready (rs := [7]) (by kernel_rfl) (by simp) ?_
    refine AllReadyH.cons (o := _) rfl (fun K hK => ?_) AllReadyH.nil
    go_simp
    refine (watchfireref24_Kids.calls (l.length + 1) A c l i (kidsM l i) _ (Kd.C_below HC.out.1 HP4.out.bel) HC.out.2 (kids_ref_f l i HL.out)).mono ?_
    rintro e W5 ⟨v8, rfl, R5, b5⟩
    have HR5 := Lib.hid (KRead.of R5)
    have HR45 := Lib.hid (HR4.out.below b5)
    have HP5 := Lib.hid (HP4.out.below b5)
    have k5 := HP5.out.c0
    clear R5 b5 hHeld
    refine hK.out _ _ k5 (fun hHeld => ?_)
    clear hK K
    refine wpAnyH_take (i := 8) (oi := _) (v := ?_) rfl (by kernel_rfl) (by kernel_rfl) (by kernel_rfl) (fun _ _ _ h => h) (Or.inl ⟨by rfl, ?_⟩) (by assumption) ?_
    rotate_left 1
    · intro w hSw
      try dsimp only at hSw
      go_simp
      try with_reducible rfl
    try simp only [Act.put, List.setIfInBounds_toArray, List.set_cons_zero, List.set_cons_succ, List.getElem_toArray, List.getElem_cons_zero, List.getElem_cons_succ]
    refine wpAnyH_take (i := 9) (oi := _) (v := ?_) rfl (by kernel_rfl) (by kernel_rfl) (by kernel_rfl) (fun _ _ _ h => h) (Or.inl ⟨by rfl, ?_⟩) (by assumption) ?_
    rotate_left 1
    · intro w hSw
      try dsimp only at hSw
      go_simp
      try with_reducible rfl
    try simp only [Act.put, List.setIfInBounds_toArray, List.set_cons_zero, List.set_cons_succ, List.getElem_toArray, List.getElem_cons_zero, List.getElem_cons_succ]
    refine wpAnyH_done (by kernel_rfl) ?_ _
    go_wp2
    go_meet
    case rel => exact ⟨HP5.out, HR45.out, HR5.out⟩
  case rest =>
    obtain ⟨hb, h7, h8⟩ := hcut
    have HB := Lib.hid hb
    have HL7 := Lib.hid (And.intro h7 h8)
    obtain ⟨A7, c7, rfl, -⟩ := h7
    obtain ⟨A8, c8, rfl, -⟩ := h8
    obtain ⟨ks, hks⟩ : ∃ ks, kidsM l i = ks := ⟨_, rfl⟩
    have hkl : ks.length ≤ 600 := by
      have := kidsFrom_len l i l.length 0
      have := HL.out
      rw [← hks]; unfold kidsM; omega
    rw [hks] at HL7 ⊢
    have hne : (((ks.length : Nat) : Int) != (ks.length : Int)) = false := by simp
    clear hb HP3 hks
    go_wp2_with fail
    go_loopw [9] (fun v wr => ∃ n : Nat, v = .int .i64 n ∧ n ≤ ks.length ∧ KiBox W wr i (str name) ∧ KRead wr (.slice A7 ks.length c7) ks ∧ KRead wr (.slice A8 ks.length c8) ks) (fun v _ => ks.length - (intOf v).toNat)
    case atStart => exact ⟨0, rfl, Nat.zero_le _, HB.out, HL7.out.1, HL7.out.2⟩
    case round =>
      obtain ⟨n, rfl, hn, hb, h7, h8⟩ := hrel
      have HR := Lib.hid (And.intro hb (And.intro h7 h8))
      clear hb HB HL7
      by_cases hlt : n < ks.length
      · obtain ⟨a7, d7, e7, cell7⟩ := h7.at hlt
        obtain ⟨a8, d8, e8, cell8⟩ := h8.at hlt
        cases e7
        cases e8
        clear h7 h8
        have hx : (ks[n] != ks[n]) = false := by simp
        generalize ks[n] = x at cell7 cell8 hx
        go_wp2
        go_quiet (fail)
        go_wp2
        go_roundw
        case measure => simp [intOf]; omega
        case rel => exact ⟨n + 1, by go_num, by omega, HR.out.1.below (pw_below_drewN (Below.refl _ _) _), HR.out.2.1.below (pw_below_drewN (Below.refl _ _) _), HR.out.2.2.below (pw_below_drewN (Below.refl _ _) _)⟩
      · have hn' : n = ks.length := by omega
        clear h7 h8
        obtain ⟨kS, rS, hS1, hS2⟩ := same_f l m HL.out
        have HS := Lib.hid (And.intro hS1 hS2)
        clear hS1 hS2
        have k0 := HR.out.1.c0
        have k1 := HR.out.1.c1
        go_wp2_with fail
        refine (get_any (lst_of (Kd.C_below HC.out.1 HR.out.1.bel) HO.out c) (by rw [List.length_map]; have := HL.out; unfold maxLen; omega) i name).mono ?_
        obtain ⟨g, hg⟩ : ∃ g, getM (l.map toV) i name = g := ⟨_, rfl⟩
        have HG := Lib.hid hg
        rw [hg]
        clear hg
        rintro e W6 ⟨he, b6⟩
        obtain rfl : e = .returned (.tuple #[.int .i64 (outM g).1, .bool (outM g).2]) := by rw [he]; cases g <;> rfl
        clear he
        have HB6 := Lib.hid (HR.out.1.below b6)
        have k6 := HB6.out.c0
        have k7 := HB6.out.c1
        clear b6 k0 k1
        go_wp2_with fail
        refine (watchfireref24_Get.calls (l.length + 1) A c l i (str name) (outM g).1 (outM g).2 W6 (Kd.C_below HC.out.1 HB6.out.bel) HC.out.2 (by have := get_ref_f l i name HL.out; rw [HG.out] at this; exact this)).mono ?_
        rintro e W7 ⟨rfl, b7⟩
        have HB7 := Lib.hid (HB6.out.below b7)
        clear b7 k6 k7
        have hxx : ((outM g).1 == (outM g).1) = true := by simp
        have hyy : ((outM g).2 == (outM g).2) = true := by simp
        go_wp2_with fail
        refine (json_Same.calls kS A c l B d m rS W7 (Kd.C_below HC.out.1 HB7.out.bel) HC.out.2 (Kd.C_below HD.out.1 HB7.out.bel) HD.out.2 HS.out.2).mono ?_
        rintro e W8 ⟨rfl, b8⟩
        have HB8 := Lib.hid (HB7.out.below b8.below)
        clear b8
        go_wp2_with fail
        refine (watchfireref24_Same.calls kS A c l B d m rS W8 (Kd.C_below HC.out.1 HB8.out.bel) HC.out.2 (Kd.C_below HD.out.1 HB8.out.bel) HD.out.2 HS.out.1).mono ?_
        rintro e W9 ⟨rfl, b9⟩
        have HB9 := Lib.hid (HB8.out.below b9.below)
        clear b9
        have hrr : (rS == rS) = true := by simp
        go_wp2_with fail
        refine (awake_any (tabs_below HT.out HB9.out.bel)).mono ?_
        rintro e W10 ⟨rfl, b10⟩
        have HB10 := Lib.hid (HB9.out.below b10)
        clear b10
        go_wp2
        go_ret
        exact ⟨by first | rfl | (simp; done), HB10.out.bel⟩
end Go.Proofs.YtbjidmijbphhgaaDoor
