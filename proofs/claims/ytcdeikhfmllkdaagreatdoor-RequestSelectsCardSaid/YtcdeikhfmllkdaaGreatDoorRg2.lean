import Derived.Test.YtcdeikhfmllkdaaGreatDoorRg1
/- regex: atom. -/
namespace Go.Proofs.YtcdeikhfmllkdaaGreatDoor
open Go.RowKit
set_option linter.unusedVariables false
set_option linter.unusedSimpArgs false
def PfPost (w w' : World) (q : Nat) (V : Value) (e : Ending) : Option (Pc × Bytes × List St) → Prop
  | none => e = badE ∧ Below q w w'
  | some r => e = .returned (.agg #[.int .i64 r.1.1, .int .i64 r.1.2]) ∧ PrPost w w' q V r.2.1 r.2.2
def PfHyp (fn : Nat) (F : PF) (n B : Nat) : Prop := ∀ (w : World) (q : Nat) (V : Value) (s : Bytes) (l : List St), s.length < n → l.length + 4 * s.length < B → PrV w q V s l → Calls Tryz.prog fn #[.pointer (some ⟨q, 0, none⟩)] w fun e w' => PfPost w w' q V e (F s l)
theorem PrV.uniq {w : World} {q : Nat} {V V' : Value} {s s' : Bytes} {l l' : List St} (P : PrV w q V s l) (P' : PrV w q V' s' l') : V = V' := by
  have h := P.row.symm.trans P'.row
  simp at h
  exact h.2
/-- The same, under a caller that has boxes. -/
def PbPost (w w' : World) (q : Nat) (V : Value) (bxs : List (Nat × Array Value)) (e : Ending) : Option (Pc × Bytes × List St) → Prop
  | none => e = badE ∧ Below q w w'
  | some r => e = .returned (.agg #[.int .i64 r.1.1, .int .i64 r.1.2]) ∧ PrB w w' q V r.2.1 r.2.2 bxs
theorem PrB.pf {w wr : World} {q : Nat} {V : Value} {s : Bytes} {l : List St} {bxs : List (Nat × Array Value)} {fn n B : Nat} {F : PF} (H : PrB w wr q V s l bxs) (h : PfHyp fn F n B) (hs : s.length < n) (hl : l.length + 4 * s.length < B) :
    Calls Tryz.prog fn #[.pointer (some ⟨q, 0, none⟩)] wr fun e w' => PbPost w w' q V bxs e (F s l) := by
  obtain ⟨V1, p, k, hn⟩ := H.pr
  refine (h wr q V1 s l hs hl p).mono fun e w' hp => ?_
  cases hF : F s l with
  | none => rw [hF] at hp; exact ⟨hp.1, H.bel.trans hp.2⟩
  | some r => rw [hF] at hp; exact ⟨hp.1, PrB.step k hn H.rows H.nd H.bel H.hq hp.2⟩
/-- A call that changes the text alone. -/
theorem PrB.tx {w wr : World} {q : Nat} {V : Value} {s s' : Bytes} {l : List St} {bxs : List (Nat × Array Value)} {f : FuncId} {args : Array Value} {v : Value} (H : PrB w wr q V s l bxs)
    (C : ∀ V1, PrV wr q V1 s l → Calls Tryz.prog f args wr fun e w' => e = .returned v ∧ TxR wr w' q V1 s') : Calls Tryz.prog f args wr fun e w' => e = .returned v ∧ PrB w w' q V s' l bxs :=
  H.call (fun V1 P _ => (C V1 P).mono fun e w' ⟨he, t⟩ => ⟨he, TxR.post P t⟩)
theorem PrB.one {w wr : World} {q g : Nat} {V : Value} {s : Bytes} {l : List St} {bxs : List (Nat × Array Value)} {bs : List Bool} (H : PrB w wr q V s l bxs) (hl : l.length < 90000) (hb : BsC wr g bs) (hg : ∀ V1, PrV wr q V1 s l → g ≠ q ∧ V1.ownBlock ≠ some g) :
    Calls Tryz.prog 263 #[.pointer (some ⟨q, 0, none⟩), .pointer (some ⟨g, 0, none⟩)] wr fun e w' => e = .returned (.agg #[.int .i64 ((oneP l).1 : Int), .int .i64 ((oneP l).2 : Int)]) ∧ PrB w w' q V s (oneL l bs) bxs :=
  H.call (fun V1 P _ => one_any' P hl (bs := bs) ⟨g, rfl, (hg V1 P).1, (hg V1 P).2, hb.1, hb.2⟩)
theorem PrB.set' {w wr : World} {q : Nat} {V : Value} {s : Bytes} {l : List St} {bxs : List (Nat × Array Value)} (H : PrB w wr q V s l bxs) :
    Calls Tryz.prog 264 #[.pointer (some ⟨q, 0, none⟩)] wr fun e w' => match setM s with
      | none => e = badE ∧ Below q w w'
      | some x => ∃ g, e = .returned (.pointer (some ⟨g, 0, none⟩)) ∧ PrB w w' q V x.2 l bxs ∧ BsC w' g x.1 ∧ ∀ V1, PrV w' q V1 x.2 l → g ≠ q ∧ V1.ownBlock ≠ some g := by
  obtain ⟨V1, p, k, hn⟩ := H.pr
  refine (set_any p).mono fun e w' hp => ?_
  cases hF : setM s with
  | none => rw [hF] at hp; exact ⟨hp.1, H.bel.trans hp.2⟩
  | some x =>
    rw [hF] at hp
    obtain ⟨g, he, hgq, hgw, t, hb⟩ := hp
    refine ⟨g, he, PrB.step k hn H.rows H.nd H.bel H.hq (TxR.post p t), hb, fun V2 p2 => ⟨hgq, fun e => ?_⟩⟩
    obtain rfl := (TxR.pr p t).uniq p2
    have := (p.own_lt e).2
    omega
theorem PrB.new {w wr w' : World} {q g : Nat} {V : Value} {s : Bytes} {l : List St} {bxs : List (Nat × Array Value)} (H : PrB w wr q V s l bxs) (b : Below wr.heap.size wr w') (hg : wr.heap.size ≤ g) : ∀ V1, PrV w' q V1 s l → g ≠ q ∧ V1.ownBlock ≠ some g := by
  intro V1 p1
  obtain ⟨V2, p2, -, -⟩ := H.pr
  obtain rfl := (p2.below b).uniq p1
  exact ⟨by have := p2.lt; omega, fun e => by have := (p2.own_lt e).2; omega⟩
theorem special_fin : ∀ i : Fin 256, specialB.contains (UInt8.ofNat i.val) = decide (0 ≤ Lib.indexByte specialB (UInt8.ofNat i.val)) := by decide +kernel
theorem special_dec (c : UInt8) : specialB.contains c = decide (0 ≤ Lib.indexByte specialB c) := by
  have := special_fin ⟨c.toNat, c.toNat_lt⟩
  simpa using this
theorem u8_ne {c d : UInt8} (h : c ≠ d) : ((c.toNat : Int) == (d.toNat : Int)) = false := by
  rw [beq_eq_false_iff_ne]; intro e; exact h (UInt8.toNat_inj.1 (by omega))
theorem fillTo_all : fillTo (List.replicate 256 false) 0 256 = List.replicate 256 true := by decide +kernel
set_option maxRecDepth 100000 in
set_option maxHeartbeats 8000000 in
theorem atom_walk {pat : PF} {n B : Nat} (hB : B ≤ 80000) (HP : PfHyp 202 pat n B) : PfHyp 258 (atomF pat) (n + 1) (B + 1) := by
  intro w q V s l hs hl P
  have H0 := Lib.hid ((PrB.start P).alloc #[.int .i64 0, .int .i64 0])
  have hq := P.lt
  obtain ⟨R, hR⟩ : ∃ R, atomF pat s l = R := ⟨_, rfl⟩
  rw [hR]
  have HPt := Lib.hid HP
  cases s with
  | nil =>
    have HT := Lib.hid (fun (w1 : World) (V1 : Value) (P1 : PrV w1 q V1 [] l) => take_nil P1)
    have hR : none = R := hR
    subst hR
    clear P HP
    unfold badE at HT
    go_enter Tryz.func258, Tryz.ntmps258
    go_upto_region 1 with fail
    generalize w.alloc _ = w1 at H0 ⊢
    obtain ⟨V1, p1, -, -⟩ := H0.out.pr
    have HT1 := Lib.hid (HT.out w1 V1 p1)
    clear p1
    go_wp2_with (first | (go_at_call 262; refine HT1.out.mono ?_; rintro e w2 ⟨rfl, hw⟩; rw [hw]; clear hw))
    exact ⟨rfl, rfl, H0.out.bel⟩
  | cons c t =>
    simp only [List.length_cons] at hs hl
    have HRr := Lib.hid hR
    clear P HP hR
    go_enter Tryz.func258, Tryz.ntmps258
    go_upto_region 1 with fail
    generalize hb2 : w.heap.size = b2 at H0
    generalize w.alloc _ = w1 at H0 ⊢
    have HT := Lib.hid (H0.out.tx (f := 262) (args := #[.pointer (some ⟨q, 0, none⟩)]) (fun V1 P1 => take_cons P1))
    go_upto_region 3 with (first | (go_at_call 262; refine HT.out.mono ?_; rintro e w2 ⟨rfl, h2⟩; have H2 := Lib.hid h2; clear h2))
    clear HT H0
    by_cases h40 : c = 40
    · subst h40
      have hR : ((pat t l).bind fun r => if (isR 41 r.2.1).1 then some (r.1, (isR 41 r.2.1).2, r.2.2) else none) = R := HRr.out
      simp only [show (((40 : UInt8).toNat : Nat) : Int) = 40 from rfl]
      have HC := Lib.hid (H2.out.pf HPt.out (by omega) (by omega))
      cases hp : pat t l with
      | none =>
        rw [hp] at hR HC
        have hR : none = R := hR
        subst hR
        unfold PbPost badE at HC
        go_wp2_with (first | (go_at_call 202; refine HC.out.mono ?_; rintro e w3 ⟨rfl, hb3⟩))
        exact ⟨rfl, rfl, hb3⟩
      | some r =>
        rw [hp] at hR HC
        obtain ⟨⟨pa, pb⟩, s1, l1⟩ := r
        have hR : (if (isR 41 s1).1 then some ((pa, pb), (isR 41 s1).2, l1) else none) = R := hR
        have HC : Hid (Calls Tryz.prog 202 #[.pointer (some ⟨q, 0, none⟩)] w2 fun e w' => e = .returned (.agg #[.int .i64 pa, .int .i64 pb]) ∧ PrB w w' q V s1 l1 [(b2, #[.int .i64 0, .int .i64 0])]) := Lib.hid HC.out
        clear hp HRr
        go_upto_region 5 with (first | (go_at_call 202; refine HC.out.mono ?_; rintro e w3 ⟨rfl, h3⟩; have H3 := Lib.hid (h3.alloc #[.int .i64 pa, .int .i64 pb]); clear h3))
        generalize hb4 : w3.heap.size = b4 at H3 ⊢
        generalize w3.alloc _ = w4 at H3 ⊢
        have HI := Lib.hid (H3.out.tx (fun V1 P1 => is_any' P1 41))
        clear HC H2
        cases h41 : (isR 41 s1).1 with
        | false =>
          rw [h41] at hR HI
          have hR : none = R := hR
          subst hR
          go_wp2_with (first | (go_at_call 229; refine HI.out.mono ?_; rintro e w5 ⟨rfl, h5⟩))
          exact ⟨rfl, rfl, h5.bel⟩
        | true =>
          rw [h41] at hR HI
          have hR : some ((pa, pb), (isR 41 s1).2, l1) = R := hR
          subst hR
          go_upto_region 7 with (first | (go_at_call 229; refine HI.out.mono ?_; rintro e w5 ⟨rfl, h5⟩; have H5 := Lib.hid h5; clear h5))
          have r4 := (H5.out.rows _ (List.mem_cons_self ..)).1
          have r2 := (H5.out.rows _ (List.mem_cons_of_mem _ (List.mem_cons_self ..))).1
          have c0 : w5.cell? ⟨b4, 0, none⟩ = some (.int .i64 pa) := (cells_of r4 0).1
          have c1 : w5.cell? ⟨b4, 1, none⟩ = some (.int .i64 pb) := (cells_of r4 1).1
          have H6 := Lib.hid (H5.out.perm (List.Perm.swap _ _ _))
          clear H5 HI H3
          go_wp2_with (refine wpList_store_row rfl 260 (.tmp 2) (.tmp 23) rfl b2 #[.int .i64 pa, .int .i64 pb] (by rfl) (by rfl) 260 #[.int .i64 0, .int .i64 0] r2 Tryz.size260 rfl (by simp [Value.oneCell']) ?_)
          refine bodyPost_ret (results_pc rfl _ _ b2 _ rfl rfl (setRow_heap _ _ _ _ _ _ r2)) rfl ⟨rfl, ?_⟩
          exact (H6.out.setRow _).post
    · have n40 : ((c.toNat : Int) == 40) = false := u8_ne (d := 40) h40
      by_cases h91 : c = 91
      · subst h91
        have hR : ((setM t).map fun x => (oneP l, x.2, oneL l x.1)) = R := HRr.out
        simp only [show (((91 : UInt8).toNat : Nat) : Int) = 91 from rfl] at n40 ⊢
        have HC := Lib.hid H2.out.set'
        cases hp : setM t with
        | none =>
          rw [hp] at hR HC
          have hR : none = R := hR
          subst hR
          have HC : Hid (Calls Tryz.prog 264 #[.pointer (some ⟨q, 0, none⟩)] w2 fun e w' => e = .panicked [{ v := .iface 253 (.agg #[]), recovered := false }] ∧ Below q w w') := Lib.hid HC.out
          go_wp2_with (first | (go_at_call 264; refine HC.out.mono ?_; rintro e w3 ⟨rfl, hb3⟩))
          exact ⟨rfl, rfl, hb3⟩
        | some x =>
          rw [hp] at hR HC
          have hR : some (oneP l, x.2, oneL l x.1) = R := hR
          subst hR
          have HC : Hid (Calls Tryz.prog 264 #[.pointer (some ⟨q, 0, none⟩)] w2 fun e w' => ∃ g, e = .returned (.pointer (some ⟨g, 0, none⟩)) ∧ PrB w w' q V x.2 l [(b2, #[.int .i64 0, .int .i64 0])] ∧ BsC w' g x.1 ∧ ∀ V1, PrV w' q V1 x.2 l → g ≠ q ∧ V1.ownBlock ≠ some g) := Lib.hid HC.out
          clear hp HRr
          go_wp2_with (first
            | (go_at_call 264; refine HC.out.mono ?_; rintro e w3 ⟨g, rfl, h3, hb3, hg3⟩; have H3 := Lib.hid (h3.one (by omega) hb3 hg3); clear h3 hb3 hg3)
            | (go_at_call 263; refine H3.out.mono ?_; rintro e w4 ⟨rfl, h4⟩; have H4 := Lib.hid h4; have r2 := (h4.rows _ (List.mem_cons_self ..)).1; clear h4)
            | (refine wpList_store_row rfl 260 (.tmp 2) (.tmp 30) rfl b2 #[.int .i64 ((oneP l).1 : Int), .int .i64 ((oneP l).2 : Int)] (by rfl) (by rfl) 260 #[.int .i64 0, .int .i64 0] r2 Tryz.size260 rfl (by simp [Value.oneCell']) ?_))
          refine bodyPost_ret (results_pc rfl _ _ b2 _ rfl rfl (setRow_heap _ _ _ _ _ _ r2)) rfl ⟨rfl, ?_⟩
          exact (H4.out.setRow _).post
      have n91 : ((c.toNat : Int) == 91) = false := u8_ne (d := 91) h91
      by_cases h46 : c = 46
      · subst h46
        have hR : some (oneP l, t, oneL l (List.replicate 256 true)) = R := HRr.out
        subst hR
        simp only [show (((46 : UInt8).toNat : Nat) : Int) = 46 from rfl] at n40 n91 ⊢
        go_upto_region 12 with fail
        have ba : Below w2.heap.size w2 (w2.alloc (.cells Tryz.zeroCells325 325)) := (Below.refl _ _).alloc (Nat.le_refl _) _
        have HA := Lib.hid (And.intro ba (BsC.new w2))
        clear ba HRr
        generalize hb3 : w2.heap.size = b3 at HA ⊢
        generalize w2.alloc _ = w3 at HA ⊢
        go_wp2_with fail
        go_loopw [34] (fun v wr => ∃ n : Nat, v = .int .i64 n ∧ n ≤ 256 ∧ Below b3 w2 wr ∧ BsC wr b3 (fillTo (List.replicate 256 false) 0 n)) (fun v _ => 256 - (intOf v).toNat)
        case atStart => exact ⟨0, rfl, by omega, HA.out.1, by rw [fillTo_start]; exact HA.out.2⟩
        case round =>
          obtain ⟨n, rfl, hn, hb, hbs⟩ := hrel
          have HS := Lib.hid (And.intro hb hbs)
          clear hb hbs
          by_cases hlt : n < 256
          · obtain ⟨b', -, k0, k1⟩ := HS.out.2.cell hlt
            have hni : (n : Int) < 256 := by omega
            go_wp2_with fail
            go_roundw
            case measure => simp [intOf]; omega
            case rel => exact ⟨n + 1, by go_num, by omega, HS.out.1.setCell (p := ⟨b3, n, none⟩) (Nat.le_refl _) _, by rw [← fillTo_step _ (Nat.zero_le n)]; exact HS.out.2.set n true⟩
          · obtain rfl : n = 256 := by omega
            have hb := HS.out.1
            have hbs := HS.out.2
            rw [fillTo_all] at hbs
            rw [← hb3] at hb
            have H3 := Lib.hid ((H2.out.other hb).one (by omega) hbs (H2.out.new hb (Nat.le_of_eq hb3)))
            clear hb hbs HS HA
            go_wp2_with (first
              | (go_at_call 263; refine H3.out.mono ?_; rintro e w4 ⟨rfl, h4⟩; have H4 := Lib.hid h4; have r2 := (h4.rows _ (List.mem_cons_self ..)).1; clear h4)
              | (refine wpList_store_row rfl 260 (.tmp 2) (.tmp 41) rfl b2 #[.int .i64 ((oneP l).1 : Int), .int .i64 ((oneP l).2 : Int)] (by rfl) (by rfl) 260 #[.int .i64 0, .int .i64 0] r2 Tryz.size260 rfl (by simp [Value.oneCell']) ?_))
            refine bodyPost_ret (results_pc rfl _ _ b2 _ rfl rfl (setRow_heap _ _ _ _ _ _ r2)) rfl ⟨rfl, ?_⟩
            exact (H4.out.setRow _).post
      have n46 : ((c.toNat : Int) == 46) = false := u8_ne (d := 46) h46
      have HSg := Lib.hid single_any
      by_cases h92 : c = 92
      · subst h92
        have hR : ((takeM t).map fun x => (oneP l, x.2, oneL l (singleM x.1))) = R := HRr.out
        simp only [show (((92 : UInt8).toNat : Nat) : Int) = 92 from rfl] at n40 n91 n46 ⊢
        cases t with
        | nil =>
          have hR : none = R := hR
          subst hR
          obtain ⟨V1, p1, -, -⟩ := H2.out.pr
          have HC := Lib.hid (take_nil p1)
          unfold badE at HC
          clear p1
          go_wp2_with (first | (go_at_call 262; refine HC.out.mono ?_; rintro e w3 ⟨rfl, hw⟩; rw [hw]; clear hw))
          exact ⟨rfl, rfl, H2.out.bel⟩
        | cons d u =>
          have hR : some (oneP l, u, oneL l (singleM d)) = R := hR
          subst hR
          have HC := Lib.hid (H2.out.tx (f := 262) (args := #[.pointer (some ⟨q, 0, none⟩)]) (fun V1 P1 => take_cons P1))
          clear HRr
          go_wp2_with (first
            | (go_at_call 262; refine HC.out.mono ?_; rintro e w3 ⟨rfl, h3⟩; have H3 := Lib.hid h3; clear h3)
            | (go_at_call 265; refine (HSg.out w3 d).mono ?_; rintro e w4 ⟨rfl, hb4, bb4⟩; have H4 := Lib.hid ((H3.out.other bb4).one (by omega) hb4 (H3.out.new bb4 (Nat.le_refl _))); clear hb4 bb4)
            | (go_at_call 263; refine H4.out.mono ?_; rintro e w5 ⟨rfl, h5⟩; have H5 := Lib.hid h5; have r2 := (h5.rows _ (List.mem_cons_self ..)).1; clear h5)
            | (refine wpList_store_row rfl 260 (.tmp 2) (.tmp 49) rfl b2 #[.int .i64 ((oneP l).1 : Int), .int .i64 ((oneP l).2 : Int)] (by rfl) (by rfl) 260 #[.int .i64 0, .int .i64 0] r2 Tryz.size260 rfl (by simp [Value.oneCell']) ?_))
          refine bodyPost_ret (results_pc rfl _ _ b2 _ rfl rfl (setRow_heap _ _ _ _ _ _ r2)) rfl ⟨rfl, ?_⟩
          exact (H5.out.setRow _).post
      have n92 : ((c.toNat : Int) == 92) = false := u8_ne (d := 92) h92
      have hR : (if specialB.contains c then none else some (oneP l, t, oneL l (singleM c))) = R := by
        have := HRr.out
        simp only [atomF, takeM, if_neg h40, if_neg h91, if_neg h46, if_neg h92] at this
        exact this
      have HX : Hid (Calls Tryz.prog 66 #[.string ⟨#[40, 41, 91, 93, 124, 42, 43, 63, 46, 92]⟩, .int .u8 c.toNat] w2 fun e w' => e = .returned (.int .i64 (Lib.indexByte specialB c)) ∧ w' = w2) := Lib.hid (by
        have h := Any.strings_IndexByte Tryz.laysIndexByte ⟨#[40, 41, 91, 93, 124, 42, 43, 63, 46, 92]⟩ (c.toNat : Int) w2
        rw [show ((c.toNat : Int).toNat.toUInt8) = c by simp] at h
        exact h)
      rw [special_dec] at hR
      obtain ⟨ix, hix⟩ : ∃ ix, Lib.indexByte specialB c = ix := ⟨_, rfl⟩
      rw [hix] at hR HX
      clear HRr hix
      by_cases hsp : 0 ≤ ix
      · have hspi : decide (0 ≤ ix) = true := decide_eq_true hsp
        rw [hspi] at hR
        have hR : none = R := hR
        subst hR
        go_wp2_with (first | (go_at_call 66; refine HX.out.mono ?_; rintro e w3 ⟨rfl, hw⟩; rw [hw]; clear hw))
        exact ⟨rfl, rfl, H2.out.bel⟩
      · have hspi : decide (0 ≤ ix) = false := decide_eq_false hsp
        rw [hspi] at hR
        have hR : some (oneP l, t, oneL l (singleM c)) = R := hR
        subst hR
        go_wp2_with (first
          | (go_at_call 66; refine HX.out.mono ?_; rintro e w3 ⟨rfl, hw⟩; rw [hw]; clear hw)
          | (go_at_call 265; refine (HSg.out w2 c).mono ?_; rintro e w4 ⟨rfl, hb4, bb4⟩; have H4 := Lib.hid ((H2.out.other bb4).one (by omega) hb4 (H2.out.new bb4 (Nat.le_refl _))); clear hb4 bb4)
          | (go_at_call 263; refine H4.out.mono ?_; rintro e w5 ⟨rfl, h5⟩; have H5 := Lib.hid h5; have r2 := (h5.rows _ (List.mem_cons_self ..)).1; clear h5)
          | (refine wpList_store_row rfl 260 (.tmp 2) (.tmp 12) rfl b2 #[.int .i64 ((oneP l).1 : Int), .int .i64 ((oneP l).2 : Int)] (by rfl) (by rfl) 260 #[.int .i64 0, .int .i64 0] r2 Tryz.size260 rfl (by simp [Value.oneCell']) ?_))
        refine bodyPost_ret (results_pc rfl _ _ b2 _ rfl rfl (setRow_heap _ _ _ _ _ _ r2)) rfl ⟨rfl, ?_⟩
        exact (H5.out.setRow _).post
end Go.Proofs.YtcdeikhfmllkdaaGreatDoor

/- regex: part. -/
namespace Go.Proofs.YtcdeikhfmllkdaaGreatDoor
open Go.RowKit
set_option linter.unusedVariables false
set_option linter.unusedSimpArgs false
theorem PrPost.trans' {w w1 w2 : World} {q : Nat} {V : Value} {s1 s2 : Bytes} {l1 l2 : List St} (h : PrPost w w1 q V s1 l1) (k : ∀ V1, PrV w1 q V1 s1 l1 → PrPost w1 w2 q V1 s2 l2) : PrPost w w2 q V s2 l2 := by
  obtain ⟨⟨V1, p1, k1⟩, b1⟩ := h
  exact PrPost.trans p1 k1 b1 (k V1 p1)
/-- The place of the states' block, and what may be written there. -/
structure StAt (w : World) (q g cap : Nat) (s : Bytes) (l : List St) : Prop where
  pr : PrV w q (.slice (some ⟨g, 0, none⟩) l.length cap) s l
theorem PrB.at {w wr : World} {q : Nat} {V : Value} {s : Bytes} {l : List St} {bxs : List (Nat × Array Value)} (H : PrB w wr q V s l bxs) (hl : l ≠ []) : ∃ g cap, StAt wr q g cap s l ∧ wr.cell? ⟨q, 1, none⟩ = some (.slice (some ⟨g, 0, none⟩) l.length cap) ∧ q ≠ g ∧ g ≠ q ∧ ∀ x ∈ bxs, g ≠ x.1 ∧ x.1 ≠ g := by
  obtain ⟨V1, p, -, hn⟩ := H.pr
  obtain ⟨g, cap, rfl, hg⟩ := p.blk hl
  exact ⟨g, cap, ⟨p⟩, p.c1, by omega, by omega, fun x hx => ⟨fun e => hn x hx (by rw [← e]; rfl), fun e => hn x hx (by rw [e]; rfl)⟩⟩
theorem StAt.post {w w' : World} {q g cap : Nat} {s s' : Bytes} {l l' : List St} {w0 : World} {V : Value} {bxs : List (Nat × Array Value)} (S : StAt w q g cap s l) (H : PrB w0 w q V s l bxs) (h : PrPost w w' q (.slice (some ⟨g, 0, none⟩) l.length cap) s' l') : PrB w0 w' q V s' l' bxs := by
  obtain ⟨V1, p, k, hn⟩ := H.pr
  obtain rfl := p.uniq S.pr
  exact PrB.step k hn H.rows H.nd H.bel H.hq h
theorem StAt.next {w : World} {q g cap : Nat} {s : Bytes} {l : List St} (S : StAt w q g cap s l) {i : Nat} (hi : i < l.length) (x : Int) : StAt (w.setCell ⟨g, i * 3 + 1, none⟩ (.int .i64 x)) q g cap s (setNext l i x) ∧ PrPost w (w.setCell ⟨g, i * 3 + 1, none⟩ (.int .i64 x)) q (.slice (some ⟨g, 0, none⟩) l.length cap) s (setNext l i x) := by
  have h := S.pr.next hi x
  refine ⟨⟨?_⟩, h⟩
  rw [setNext_len]
  obtain ⟨⟨V1, p, k⟩, -⟩ := h
  have hg := S.pr.own_lt (g := g) rfl
  have hrow : (w.setCell ⟨g, i * 3 + 1, none⟩ (.int .i64 x)).heap[q]? = w.heap[q]? := Below.heap_setCell _ _ _ _ (by show q ≠ g; omega)
  have e := p.row.symm.trans (hrow.trans S.pr.row)
  simp at e
  rw [← e]
  exact p
theorem StAt.other {w : World} {q g cap : Nat} {s : Bytes} {l : List St} (S : StAt w q g cap s l) {i : Nat} (hi : i < l.length) (x : Int) : StAt (w.setCell ⟨g, i * 3 + 2, none⟩ (.int .i64 x)) q g cap s (setOther l i x) ∧ PrPost w (w.setCell ⟨g, i * 3 + 2, none⟩ (.int .i64 x)) q (.slice (some ⟨g, 0, none⟩) l.length cap) s (setOther l i x) := by
  have h := S.pr.other hi x
  refine ⟨⟨?_⟩, h⟩
  rw [setOther_len]
  obtain ⟨⟨V1, p, k⟩, -⟩ := h
  have hg := S.pr.own_lt (g := g) rfl
  have hrow : (w.setCell ⟨g, i * 3 + 2, none⟩ (.int .i64 x)).heap[q]? = w.heap[q]? := Below.heap_setCell _ _ _ _ (by show q ≠ g; omega)
  have e := p.row.symm.trans (hrow.trans S.pr.row)
  simp at e
  rw [← e]
  exact p
/-- A state's next set. -/
theorem PrB.next1 {w wr : World} {q g cap i : Nat} {V : Value} {s : Bytes} {l : List St} {bxs : List (Nat × Array Value)} (H : PrB w wr q V s l bxs) (S : StAt wr q g cap s l) (hi : i < l.length) (x : Int) : PrB w (wr.setCell ⟨g, i * 3 + 1, none⟩ (.int .i64 x)) q V s (setNext l i x) bxs := S.post H (S.next hi x).2
/-- A state's next and other set. -/
theorem PrB.both {w wr : World} {q g cap i : Nat} {V : Value} {s : Bytes} {l : List St} {bxs : List (Nat × Array Value)} (H : PrB w wr q V s l bxs) (S : StAt wr q g cap s l) (hi : i < l.length) (x y : Int) : PrB w ((wr.setCell ⟨g, i * 3 + 1, none⟩ (.int .i64 x)).setCell ⟨g, i * 3 + 2, none⟩ (.int .i64 y)) q V s (setOther (setNext l i x) i y) bxs := by
  have h1 := S.next hi x
  exact h1.1.post (S.post H h1.2) (h1.1.other (by rw [setNext_len]; exact hi) y).2
/-- Two states' next set. -/
theorem PrB.next2 {w wr : World} {q g cap i j : Nat} {V : Value} {s : Bytes} {l : List St} {bxs : List (Nat × Array Value)} (H : PrB w wr q V s l bxs) (S : StAt wr q g cap s l) (hi : i < l.length) (hj : j < l.length) (x y : Int) : PrB w ((wr.setCell ⟨g, i * 3 + 1, none⟩ (.int .i64 x)).setCell ⟨g, j * 3 + 1, none⟩ (.int .i64 y)) q V s (setNext (setNext l i x) j y) bxs := by
  have h1 := S.next hi x
  exact h1.1.post (S.post H h1.2) (h1.1.next (by rw [setNext_len]; exact hj) y).2
theorem put_none (a : Act) (v : Value) : a.put none v = a := rfl
set_option maxRecDepth 100000 in
set_option maxHeartbeats 8000000 in
theorem part_walk {pat : PF} {n B : Nat} (hB : B ≤ 80000) (HP : PfHyp 258 (atomF pat) n B) (hnice : NiceF 0 1 pat) : PfHyp 248 (partF pat) n B := by
  intro w q V s l hs hl P
  have H0 := Lib.hid ((PrB.start P).alloc #[.int .i64 0, .int .i64 0])
  have hq := P.lt
  obtain ⟨R, hR⟩ : ∃ R, partF pat s l = R := ⟨_, rfl⟩
  rw [hR]
  have HRr := Lib.hid hR
  have HPt := Lib.hid HP
  clear P HP hR
  go_enter Tryz.func248, Tryz.ntmps248
  go_upto_region 1 with fail
  generalize hb2 : w.heap.size = b2 at H0
  generalize w.alloc _ = w1 at H0 ⊢
  have HC := Lib.hid (H0.out.pf HPt.out hs hl)
  cases hp : atomF pat s l with
  | none =>
    have hR := HRr.out
    unfold partF at hR
    rw [hp] at hR HC
    have hR : none = R := hR
    subst hR
    unfold PbPost badE at HC
    go_wp2_with (first | (go_at_call 258; refine HC.out.mono ?_; rintro e w3 ⟨rfl, hb3⟩))
    exact ⟨rfl, rfl, hb3⟩
  | some r =>
    have hR := HRr.out
    unfold partF at hR
    rw [hp] at hR HC
    have hR : partLoop (r.2.1.length + 1) r.1 r.2.1 r.2.2 = R := hR
    obtain ⟨hn, hf⟩ := atom_nice hnice hp
    obtain ⟨⟨pa, pb⟩, s1, l1⟩ := r
    have HC : Hid (Calls Tryz.prog 258 #[.pointer (some ⟨q, 0, none⟩)] w1 fun e w' => e = .returned (.agg #[.int .i64 pa, .int .i64 pb]) ∧ PrB w w' q V s1 l1 [(b2, #[.int .i64 0, .int .i64 0])]) := Lib.hid HC.out
    have ha := hn.a
    have hb := hn.b
    have HR2 := Lib.hid hR
    dsimp only at ha hb hf
    clear hp HRr hn hR
    go_upto_region 2 with (first | (go_at_call 258; refine HC.out.mono ?_; rintro e w3 ⟨rfl, h3⟩; have H3 := Lib.hid (h3.alloc #[.int .i64 pa, .int .i64 pb]); clear h3))
    generalize hb3 : w3.heap.size = b3 at H3 ⊢
    generalize w3.alloc _ = w4 at H3 ⊢
    clear HC H0 hb2 hb3
    go_loopw [4] (fun v wr => ∃ (a1 a2 : Nat) (s2 : Bytes) (l2 : List St), PrB w wr q V s2 l2 [(b3, #[.int .i64 a1, .int .i64 a2]), (b2, #[.int .i64 0, .int .i64 0])] ∧ partLoop (s2.length + 1) (a1, a2) s2 l2 = R ∧ a1 < l2.length ∧ a2 < l2.length ∧ l2.length + 4 * s2.length < B) (fun _ wr => txtLen wr q)
    case atStart => exact ⟨pa, pb, s1, l1, H3.out, HR2.out, ha, hb, by omega⟩
    case round =>
      obtain ⟨a1, a2, s2, l2, hpr, hlp, ha1, ha2, hfew⟩ := hrel
      rename World => wo
      have HB := Lib.hid hpr
      have HL := Lib.hid hlp
      clear H3 HR2 ha hb hf hpr hlp
      have HF := Lib.hid (HB.out.call (f := 230) (args := #[.pointer (some ⟨q, 0, none⟩)]) (fun V1 P1 _ => rfree_p P1 (by omega)))
      have hun : partLoop (s2.length + 1) (a1, a2) s2 l2 = if (isR 42 s2).1 then partLoop s2.length (l2.length + 1, l2.length) (isR 42 s2).2 (loopL (a1, a2) l2 ++ [⟨none, a1, l2.length⟩])
        else if (isR 43 s2).1 then partLoop s2.length (a1, l2.length) (isR 43 s2).2 (loopL (a1, a2) l2)
        else if (isR 63 s2).1 then partLoop s2.length (l2.length + 1, l2.length) (isR 63 s2).2 (setNext (l2 ++ [freeS]) a2 l2.length ++ [⟨none, a1, l2.length⟩])
        else some ((a1, a2), s2, l2 ++ [freeS]) := rfl
      have hLf := HL.out
      rw [hun] at hLf
      have HU := Lib.hid hLf
      clear hun hLf
      go_upto_region 4 with (first | (go_at_call 230; refine HF.out.mono ?_; rintro e w5 ⟨rfl, h5⟩; have H5 := Lib.hid h5; clear h5))
      have HI := Lib.hid (H5.out.tx (fun V1 P1 => is_any' P1 42))
      cases h42 : (isR 42 s2).1 with
      | true =>
        have hU := HU.out
        rw [h42, if_pos rfl] at hU
        rw [h42] at HI
        have hz := (isR_len 42 s2).2 h42
        obtain ⟨s3, hs3⟩ : ∃ s3, (isR 42 s2).2 = s3 := ⟨_, rfl⟩
        rw [hs3] at hU HI hz
        have HU2 := Lib.hid hU
        clear hU HU h42 hs3
        go_upto_region 5 with (first | (go_at_call 229; refine HI.out.mono ?_; rintro e w6 ⟨rfl, h6⟩; have H6 := Lib.hid h6; clear h6))
        obtain ⟨g, cap, hS, c1, q1, q2, hg⟩ := H6.out.at (by simp)
        obtain ⟨g1, g2⟩ := hg _ (List.mem_cons_self ..)
        have r3 := (H6.out.rows _ (List.mem_cons_self ..)).1
        have e0 : w6.cell? ⟨b3, 0, none⟩ = some (.int .i64 a1) := (cells_of r3 0).1
        have e1 : w6.cell? ⟨b3, 1, none⟩ = some (.int .i64 a2) := (cells_of r3 1).1
        obtain ⟨⟨v1, k1⟩, f1⟩ := hS.pr.cellAt (i := a2) (j := 1) (by simp; omega) (by omega)
        obtain ⟨⟨v2, k2⟩, f2⟩ := hS.pr.cellAt (i := a2) (j := 2) (by simp; omega) (by omega)
        have hll : (l2 ++ [freeS]).length = l2.length + 1 := by simp
        rw [hll] at c1
        have hix : (a2 : Int) < (l2.length : Int) + 1 := by omega
        have H7 := Lib.hid (H6.out.both hS (i := a2) (by simp; omega) a1 l2.length)
        dsimp only at g1 g2
        clear hS r3 H5 HF HI hg
        go_region
        have H8 := Lib.hid (H7.out.other (Below.drew (Below.refl _ _)))
        clear H6 H7 c1 e0 e1 k1 f1 k2 f2
        generalize ((w6.setCell _ _).setCell _ _).drew = w7 at H8 ⊢
        have r3 := (H8.out.rows _ (List.mem_cons_self ..)).1
        have e0 : w7.cell? ⟨b3, 0, none⟩ = some (.int .i64 a1) := (cells_of r3 0).1
        have hL2 : (setOther (setNext (l2 ++ [freeS]) a2 a1) a2 l2.length).length = l2.length + 1 := loopL_len (a1, a2) l2
        have HA : Hid (Calls Tryz.prog 231 #[.pointer (some ⟨q, 0, none⟩), .agg #[.pointer none, .int .i64 a1, .int .i64 l2.length]] w7 fun e w' => e = .returned (.int .i64 ((l2.length + 1 : Nat) : Int)) ∧ PrB w w' q V s3 (loopL (a1, a2) l2 ++ [⟨none, a1, l2.length⟩]) [(b3, #[.int .i64 a1, .int .i64 a2]), (b2, #[.int .i64 0, .int .i64 0])]) := Lib.hid (H8.out.call (fun V1 P1 _ => by
          have h := radd_any P1 (by rw [hL2]; omega) ⟨none, a1, l2.length⟩ (p := .pointer none) rfl
          rw [hL2] at h
          exact h))
        clear H8 r3
        go_wp2_with (first
          | (go_at_call 231; refine HA.out.mono ?_; rintro e w8 ⟨rfl, h8⟩; have H9 := Lib.hid h8; have r3 := (h8.rows _ (List.mem_cons_self ..)).1; clear h8)
          | (refine wpList_store_row rfl 260 (.tmp 3) (.tmp 39) rfl b3 #[.int .i64 ((l2.length + 1 : Nat) : Int), .int .i64 l2.length] (by rfl) (by rfl) 260 #[.int .i64 a1, .int .i64 a2] r3 Tryz.size260 rfl (by simp [Value.oneCell']) ?_; dsimp only [put_none]))
        have H10 := H9.out.setRow #[.int .i64 ((l2.length + 1 : Nat) : Int), .int .i64 l2.length]
        have hl3 : (loopL (a1, a2) l2 ++ [(⟨none, a1, l2.length⟩ : St)]).length = l2.length + 2 := by rw [List.length_append, loopL_len]; rfl
        go_roundw
        case measure =>
          obtain ⟨V1, p1, -, -⟩ := H10.pr
          obtain ⟨V0, p0, -, -⟩ := HB.out.pr
          rw [(TxR.refl p1).txt, (TxR.refl p0).txt]; omega
        case rel =>
          refine ⟨l2.length + 1, l2.length, s3, _, H10, ?_, by omega, by omega, by omega⟩
          rw [← HU2.out]
          exact (partLoop_mono (s3.length + 1) s2.length _ s3 _ (by omega) (by omega)).symm
      | false =>
        have hU := HU.out
        rw [h42] at hU HI
        rw [if_neg (by simp)] at hU
        rw [isR_false h42] at HI
        have HU1 := Lib.hid hU
        clear hU HU h42
        go_upto_region 7 with (first | (go_at_call 229; refine HI.out.mono ?_; rintro e w6 ⟨rfl, h6⟩; have H6 := Lib.hid h6; clear h6))
        have HI2 := Lib.hid (H6.out.tx (fun V1 P1 => is_any' P1 43))
        clear H5 HF HI
        cases h43 : (isR 43 s2).1 with
        | true =>
          have hU := HU1.out
          rw [h43, if_pos rfl] at hU
          rw [h43] at HI2
          have hz := (isR_len 43 s2).2 h43
          obtain ⟨s3, hs3⟩ : ∃ s3, (isR 43 s2).2 = s3 := ⟨_, rfl⟩
          rw [hs3] at hU HI2 hz
          have HU2 := Lib.hid hU
          clear hU HU1 h43 hs3 H6
          go_upto_region 8 with (first | (go_at_call 229; refine HI2.out.mono ?_; rintro e w7 ⟨rfl, h7⟩; have H7 := Lib.hid h7; clear h7))
          obtain ⟨g, cap, hS, c1, q1, q2, hg⟩ := H7.out.at (by simp)
          obtain ⟨g1, g2⟩ := hg _ (List.mem_cons_self ..)
          have r3 := (H7.out.rows _ (List.mem_cons_self ..)).1
          have e0 : w7.cell? ⟨b3, 0, none⟩ = some (.int .i64 a1) := (cells_of r3 0).1
          have e1 : w7.cell? ⟨b3, 1, none⟩ = some (.int .i64 a2) := (cells_of r3 1).1
          obtain ⟨⟨v1, k1⟩, f1⟩ := hS.pr.cellAt (i := a2) (j := 1) (by simp; omega) (by omega)
          obtain ⟨⟨v2, k2⟩, f2⟩ := hS.pr.cellAt (i := a2) (j := 2) (by simp; omega) (by omega)
          have hll : (l2 ++ [freeS]).length = l2.length + 1 := by simp
          rw [hll] at c1
          have hix : (a2 : Int) < (l2.length : Int) + 1 := by omega
          have H8 := Lib.hid ((H7.out.both hS (i := a2) (by simp; omega) a1 l2.length).other (Below.drew (Below.refl _ _)))
          dsimp only at g1 g2
          clear hS r3 HI2 hg
          go_region
          clear H7 c1 e0 e1 k1 f1 k2 f2
          generalize ((w7.setCell _ _).setCell _ _).drew = w8 at H8 ⊢
          have r3 := (H8.out.rows _ (List.mem_cons_self ..)).1
          have e1 : w8.cell? ⟨b3, 1, none⟩ = some (.int .i64 a2) := (cells_of r3 1).1
          have f1 : w8.frozen? ⟨b3, 1, none⟩ = false := (cells_of r3 1).2
          go_wp2_with fail
          have H9 := H8.out.setCell (i := 1) (.int .i64 l2.length)
          have hl3 := loopL_len (a1, a2) l2
          refine ⟨⟨a1, l2.length, s3, _, H9, ?_, ?_, ?_, ?_⟩, ?_⟩
          · rw [← HU2.out]
            exact (partLoop_mono (s3.length + 1) s2.length _ s3 _ (by omega) (by omega)).symm
          · show a1 < (loopL (a1, a2) l2).length; omega
          · show l2.length < (loopL (a1, a2) l2).length; omega
          · show (loopL (a1, a2) l2).length + 4 * s3.length < B; omega
          · obtain ⟨V1, p1, -, -⟩ := H9.pr
            obtain ⟨V0, p0, -, -⟩ := HB.out.pr
            rw [(TxR.refl p1).txt, (TxR.refl p0).txt]; omega
        | false =>
          have hU := HU1.out
          rw [h43] at hU HI2
          rw [if_neg (by simp)] at hU
          rw [isR_false h43] at HI2
          have HU2 := Lib.hid hU
          clear hU HU1 h43 H6
          go_upto_region 10 with (first | (go_at_call 229; refine HI2.out.mono ?_; rintro e w7 ⟨rfl, h7⟩; have H7 := Lib.hid h7; clear h7))
          have HI3 := Lib.hid (H7.out.tx (fun V1 P1 => is_any' P1 63))
          clear HI2
          cases h63 : (isR 63 s2).1 with
          | true =>
            have hU := HU2.out
            rw [h63, if_pos rfl] at hU
            rw [h63] at HI3
            have hz := (isR_len 63 s2).2 h63
            obtain ⟨s3, hs3⟩ : ∃ s3, (isR 63 s2).2 = s3 := ⟨_, rfl⟩
            rw [hs3] at hU HI3 hz
            have HU3 := Lib.hid hU
            clear hU HU2 h63 hs3 H7
            go_upto_region 11 with (first | (go_at_call 229; refine HI3.out.mono ?_; rintro e w8 ⟨rfl, h8⟩; have H8 := Lib.hid h8; clear h8))
            obtain ⟨g, cap, hS, c1, q1, q2, hg⟩ := H8.out.at (by simp)
            obtain ⟨g1, g2⟩ := hg _ (List.mem_cons_self ..)
            have r3 := (H8.out.rows _ (List.mem_cons_self ..)).1
            have e0 : w8.cell? ⟨b3, 0, none⟩ = some (.int .i64 a1) := (cells_of r3 0).1
            have e1 : w8.cell? ⟨b3, 1, none⟩ = some (.int .i64 a2) := (cells_of r3 1).1
            obtain ⟨⟨v1, k1⟩, f1⟩ := hS.pr.cellAt (i := a2) (j := 1) (by simp; omega) (by omega)
            have hll : (l2 ++ [freeS]).length = l2.length + 1 := by simp
            rw [hll] at c1
            have hix : (a2 : Int) < (l2.length : Int) + 1 := by omega
            have H9 := Lib.hid ((H8.out.next1 hS (i := a2) (by simp; omega) l2.length).other (Below.drew (Below.refl _ _)))
            dsimp only at g1 g2
            clear hS r3 HI3 hg
            go_region
            clear H8 c1 e0 e1 k1 f1
            generalize (w8.setCell _ _).drew = w9 at H9 ⊢
            have r3 := (H9.out.rows _ (List.mem_cons_self ..)).1
            have e0 : w9.cell? ⟨b3, 0, none⟩ = some (.int .i64 a1) := (cells_of r3 0).1
            have hL2 : (setNext (l2 ++ [freeS]) a2 l2.length).length = l2.length + 1 := by rw [setNext_len]; simp
            have HA : Hid (Calls Tryz.prog 231 #[.pointer (some ⟨q, 0, none⟩), .agg #[.pointer none, .int .i64 a1, .int .i64 l2.length]] w9 fun e w' => e = .returned (.int .i64 ((l2.length + 1 : Nat) : Int)) ∧ PrB w w' q V s3 (setNext (l2 ++ [freeS]) a2 l2.length ++ [⟨none, a1, l2.length⟩]) [(b3, #[.int .i64 a1, .int .i64 a2]), (b2, #[.int .i64 0, .int .i64 0])]) := Lib.hid (H9.out.call (fun V1 P1 _ => by
              have h := radd_any P1 (by rw [hL2]; omega) ⟨none, a1, l2.length⟩ (p := .pointer none) rfl
              rw [hL2] at h
              exact h))
            clear H9 r3
            go_wp2_with (first
              | (go_at_call 231; refine HA.out.mono ?_; rintro e w10 ⟨rfl, h10⟩; have H11 := Lib.hid h10; have r3 := (h10.rows _ (List.mem_cons_self ..)).1; clear h10)
              | (refine wpList_store_row rfl 260 (.tmp 3) (.tmp 83) rfl b3 #[.int .i64 ((l2.length + 1 : Nat) : Int), .int .i64 l2.length] (by rfl) (by rfl) 260 #[.int .i64 a1, .int .i64 a2] r3 Tryz.size260 rfl (by simp [Value.oneCell']) ?_; dsimp only [put_none]))
            have H12 := H11.out.setRow #[.int .i64 ((l2.length + 1 : Nat) : Int), .int .i64 l2.length]
            have hl3 : (setNext (l2 ++ [freeS]) a2 l2.length ++ [(⟨none, a1, l2.length⟩ : St)]).length = l2.length + 2 := by rw [List.length_append, hL2]; rfl
            go_roundw
            case measure =>
              obtain ⟨V1, p1, -, -⟩ := H12.pr
              obtain ⟨V0, p0, -, -⟩ := HB.out.pr
              rw [(TxR.refl p1).txt, (TxR.refl p0).txt]; omega
            case rel =>
              refine ⟨l2.length + 1, l2.length, s3, _, H12, ?_, by omega, by omega, by omega⟩
              rw [← HU3.out]
              exact (partLoop_mono (s3.length + 1) s2.length _ s3 _ (by omega) (by omega)).symm
          | false =>
            have hU := HU2.out
            rw [h63] at hU HI3
            rw [if_neg (by simp)] at hU
            rw [isR_false h63] at HI3
            subst hU
            clear HU2 h63 HL
            go_upto_region 3 with (first | (go_at_call 229; refine HI3.out.mono ?_; rintro e w8 ⟨rfl, h8⟩; have H8 := Lib.hid h8; clear h8))
            have r3 := (H8.out.rows _ (List.mem_cons_self ..)).1
            have r2 := (H8.out.rows _ (List.mem_cons_of_mem _ (List.mem_cons_self ..))).1
            have e0 : w8.cell? ⟨b3, 0, none⟩ = some (.int .i64 a1) := (cells_of r3 0).1
            have e1 : w8.cell? ⟨b3, 1, none⟩ = some (.int .i64 a2) := (cells_of r3 1).1
            have H9 := Lib.hid (H8.out.perm (List.Perm.swap _ _ _))
            clear H8 HI3 H7 r3
            go_wp2_with (refine wpList_store_row rfl 260 (.tmp 2) (.tmp 9) rfl b2 #[.int .i64 a1, .int .i64 a2] (by rfl) (by rfl) 260 #[.int .i64 0, .int .i64 0] r2 Tryz.size260 rfl (by simp [Value.oneCell']) ?_)
            refine bodyPost_ret (results_pc rfl _ _ b2 _ rfl rfl (setRow_heap _ _ _ _ _ _ r2)) rfl ⟨rfl, ?_⟩
            exact (H9.out.setRow _).post
end Go.Proofs.YtcdeikhfmllkdaaGreatDoor

/- regex: row. -/
namespace Go.Proofs.YtcdeikhfmllkdaaGreatDoor
open Go.RowKit
set_option linter.unusedVariables false
set_option linter.unusedSimpArgs false
theorem PrB.drop {w wr : World} {q : Nat} {V : Value} {s : Bytes} {l : List St} {x : Nat × Array Value} {bxs : List (Nat × Array Value)} (H : PrB w wr q V s l (x :: bxs)) : PrB w wr q V s l bxs := by
  obtain ⟨V1, p, k, hn⟩ := H.pr
  exact ⟨⟨V1, p, k, fun y hy => hn y (List.mem_cons_of_mem _ hy)⟩, fun y hy => H.rows y (List.mem_cons_of_mem _ hy), (List.nodup_cons.1 (show (x.1 :: bxs.map (·.1)).Nodup from H.nd)).2, H.bel, H.hq⟩
theorem PrB.txt {w wr : World} {q : Nat} {V : Value} {s : Bytes} {l : List St} {bxs : List (Nat × Array Value)} (H : PrB w wr q V s l bxs) : txtLen wr q = s.length := by
  obtain ⟨V1, p, -, -⟩ := H.pr
  exact (TxR.refl p).txt
set_option maxRecDepth 100000 in
set_option maxHeartbeats 8000000 in
theorem row_walk {pat : PF} {n B : Nat} (hB : B ≤ 80000) (HP : PfHyp 248 (partF pat) n (B + 1)) (hnice : NiceF 0 1 pat) : PfHyp 228 (rowF pat) n B := by
  intro w q V s l hs hl P
  have H0 := Lib.hid ((PrB.start P).alloc #[.int .i64 0, .int .i64 0])
  have hq := P.lt
  obtain ⟨R, hR⟩ : ∃ R, rowF pat s l = R := ⟨_, rfl⟩
  rw [hR]
  have HRr : Hid (rowLoop (partF pat) (s.length + 1) (l.length, l.length) s (l ++ [freeS]) = R) := Lib.hid hR
  have HPt := Lib.hid HP
  have HN := Lib.hid (part_nice hnice)
  clear P HP hR
  go_enter Tryz.func228, Tryz.ntmps228
  go_upto_region 1 with fail
  generalize hb2 : w.heap.size = b2 at H0
  generalize w.alloc _ = w1 at H0 ⊢
  have HF := Lib.hid (H0.out.call (f := 230) (args := #[.pointer (some ⟨q, 0, none⟩)]) (fun V1 P1 _ => rfree_p P1 (by omega)))
  go_upto_region 2 with (first | (go_at_call 230; refine HF.out.mono ?_; rintro e w2 ⟨rfl, h2⟩; have H2 := Lib.hid (h2.alloc #[.int .i64 l.length, .int .i64 l.length]); clear h2))
  go_wp2_with fail
  generalize hb4 : w2.heap.size = b4 at H2 ⊢
  generalize w2.alloc _ = w3 at H2 ⊢
  clear HF H0 hb2 hb4
  go_loopw [5] (fun v wr => ∃ (p1 p2 : Nat) (s2 : Bytes) (l2 : List St), PrB w wr q V s2 l2 [(b4, #[.int .i64 p1, .int .i64 p2]), (b2, #[.int .i64 0, .int .i64 0])] ∧ rowLoop (partF pat) (s2.length + 1) (p1, p2) s2 l2 = R ∧ p1 < l2.length ∧ p2 < l2.length ∧ s2.length < n ∧ l2.length + 4 * s2.length < B + 1) (fun _ wr => txtLen wr q)
  case atStart => exact ⟨l.length, l.length, s, _, H2.out, HRr.out, by simp, by simp, hs, by simp; omega⟩
  case round =>
    obtain ⟨p1, p2, s2, l2, hpr, hlp, hp1, hp2, hsn, hfew⟩ := hrel
    rename World => wo
    have HB := Lib.hid hpr
    have HL : Hid ((if rowEnd s2 then some ((p1, p2), s2, l2) else (partF pat s2 l2).bind fun r => rowLoop (partF pat) s2.length (p1, r.1.2) r.2.1 (setNext r.2.2 p2 r.1.1)) = R) := Lib.hid hlp
    clear H2 HRr hpr hlp
    have HK : Hid (Calls Tryz.prog 247 #[.pointer (some ⟨q, 0, none⟩)] wo fun e w' => e = .returned (peekR s2) ∧ w' = wo) := by
      obtain ⟨V1, p, -, -⟩ := HB.out.pr
      exact Lib.hid (peek_any p)
    by_cases hend : rowEnd s2 = true
    · have hU := HL.out
      rw [if_pos hend] at hU
      subst hU
      have r4 := (HB.out.rows _ (List.mem_cons_self ..)).1
      have r2 := (HB.out.rows _ (List.mem_cons_of_mem _ (List.mem_cons_self ..))).1
      have e0 : wo.cell? ⟨b4, 0, none⟩ = some (.int .i64 p1) := (cells_of r4 0).1
      have e1 : wo.cell? ⟨b4, 1, none⟩ = some (.int .i64 p2) := (cells_of r4 1).1
      have H9 := Lib.hid (HB.out.perm (List.Perm.swap _ _ _))
      clear HL r4
      cases s2 with
      | nil =>
        simp only [peekR] at HK
        go_wp2_with (first
          | (go_at_call 247; refine HK.out.mono ?_; rintro e w5 ⟨rfl, hw⟩; rw [hw]; clear hw)
          | (refine wpList_store_row rfl 260 (.tmp 2) (.tmp 28) rfl b2 #[.int .i64 p1, .int .i64 p2] (by rfl) (by rfl) 260 #[.int .i64 0, .int .i64 0] r2 Tryz.size260 rfl (by simp [Value.oneCell']) ?_))
        refine bodyPost_ret (results_pc rfl _ _ b2 _ rfl rfl (setRow_heap _ _ _ _ _ _ r2)) rfl ⟨rfl, ?_⟩
        exact (H9.out.setRow _).post
      | cons c t =>
        simp only [peekR] at HK
        have hc : c = 124 ∨ c = 41 := by simpa [rowEnd] using hend
        rcases hc with rfl | rfl
        all_goals
          go_wp2_with (first
            | (go_at_call 247; refine HK.out.mono ?_; rintro e w5 ⟨rfl, hw⟩; rw [hw]; clear hw)
            | (refine wpList_store_row rfl 260 (.tmp 2) (.tmp 28) rfl b2 #[.int .i64 p1, .int .i64 p2] (by rfl) (by rfl) 260 #[.int .i64 0, .int .i64 0] r2 Tryz.size260 rfl (by simp [Value.oneCell']) ?_))
          refine bodyPost_ret (results_pc rfl _ _ b2 _ rfl rfl (setRow_heap _ _ _ _ _ _ r2)) rfl ⟨rfl, ?_⟩
          exact (H9.out.setRow _).post
    · have hU := HL.out
      rw [if_neg hend] at hU
      have HU := Lib.hid hU
      clear hU HL
      cases s2 with
      | nil => exact absurd rfl hend
      | cons c t =>
        simp only [peekR] at HK
        have hc : c ≠ 124 ∧ c ≠ 41 := by simpa [rowEnd] using hend
        have n124 : ((c.toNat : Int) == 124) = false := u8_ne (d := 124) hc.1
        have n41 : ((c.toNat : Int) == 41) = false := u8_ne (d := 41) hc.2
        have HC := Lib.hid (HB.out.pf HPt.out hsn (by
          have : (c :: t).length = t.length + 1 := rfl
          omega))
        cases hp : partF pat (c :: t) l2 with
        | none =>
          have hR := HU.out
          rw [hp] at hR HC
          have hR : none = R := hR
          subst hR
          unfold PbPost badE at HC
          go_wp2_with (first
            | (go_at_call 247; refine HK.out.mono ?_; rintro e w5 ⟨rfl, hw⟩; rw [hw]; clear hw)
            | (go_at_call 248; refine HC.out.mono ?_; rintro e w5 ⟨rfl, hb5⟩))
          exact ⟨rfl, rfl, hb5⟩
        | some r =>
          have hR := HU.out
          rw [hp] at hR HC
          have hn := HN.out _ _ _ hp
          obtain ⟨⟨m1, m2⟩, s3, l3⟩ := r
          have hR : rowLoop (partF pat) (c :: t).length (p1, m2) s3 (setNext l3 p2 m1) = R := hR
          have HC : Hid (Calls Tryz.prog 248 #[.pointer (some ⟨q, 0, none⟩)] wo fun e w' => e = .returned (.agg #[.int .i64 m1, .int .i64 m2]) ∧ PrB w w' q V s3 l3 [(b4, #[.int .i64 p1, .int .i64 p2]), (b2, #[.int .i64 0, .int .i64 0])]) := Lib.hid HC.out
          have hm1 := hn.a
          have hm2 := hn.b
          have hle := hn.le
          have htx := hn.txt
          have hfw := hn.few
          dsimp only at hm1 hm2 hle htx hfw
          have HR3 := Lib.hid hR
          clear hp HU hn hR hend
          go_upto_region 7 with (first
            | (go_at_call 247; refine HK.out.mono ?_; rintro e w5 ⟨rfl, hw⟩; rw [hw]; clear hw)
            | (go_at_call 248; refine HC.out.mono ?_; rintro e w5 ⟨rfl, h5⟩; have H5 := Lib.hid (h5.alloc #[.int .i64 m1, .int .i64 m2]); clear h5))
          generalize hb7 : w5.heap.size = b7 at H5 ⊢
          generalize w5.alloc _ = w6 at H5 ⊢
          obtain ⟨g, cap, hS, c1, q1, q2, hg⟩ := H5.out.at (by intro e; rw [e] at hm1; simp at hm1)
          obtain ⟨g7, g7'⟩ := hg _ (List.mem_cons_self ..)
          obtain ⟨g4, g4'⟩ := hg _ (List.mem_cons_of_mem _ (List.mem_cons_self ..))
          have r7 := (H5.out.rows _ (List.mem_cons_self ..)).1
          have r4 := (H5.out.rows _ (List.mem_cons_of_mem _ (List.mem_cons_self ..))).1
          have e0 : w6.cell? ⟨b4, 0, none⟩ = some (.int .i64 p1) := (cells_of r4 0).1
          have e1 : w6.cell? ⟨b4, 1, none⟩ = some (.int .i64 p2) := (cells_of r4 1).1
          have i0 : w6.cell? ⟨b7, 0, none⟩ = some (.int .i64 m1) := (cells_of r7 0).1
          obtain ⟨⟨v1, k1⟩, f1⟩ := hS.pr.cellAt (i := p2) (j := 1) (by omega) (by omega)
          have hix : (p2 : Int) < (l3.length : Int) := by omega
          have H7 := Lib.hid ((H5.out.next1 hS (i := p2) (by omega) m1).other (Below.drew (Below.refl _ _)))
          dsimp only at g7 g7' g4 g4'
          clear hS r7 r4 hg HC HK
          go_region
          clear H5 c1 e0 e1 i0 k1 f1
          generalize (w6.setCell _ _).drew = w7 at H7 ⊢
          have r7 := (H7.out.rows _ (List.mem_cons_self ..)).1
          have r4 := (H7.out.rows _ (List.mem_cons_of_mem _ (List.mem_cons_self ..))).1
          have i1 : w7.cell? ⟨b7, 1, none⟩ = some (.int .i64 m2) := (cells_of r7 1).1
          have e1 : w7.cell? ⟨b4, 1, none⟩ = some (.int .i64 p2) := (cells_of r4 1).1
          have f1 : w7.frozen? ⟨b4, 1, none⟩ = false := (cells_of r4 1).2
          go_wp2_with fail
          have H9 := (H7.out.drop).setCell (i := 1) (.int .i64 m2)
          go_roundw
          case measure =>
            rw [H9.txt, HB.out.txt]; omega
          case rel =>
            refine ⟨p1, m2, s3, _, H9, ?_, by rw [setNext_len]; omega, by rw [setNext_len]; omega, by omega, by rw [setNext_len]; omega⟩
            rw [← HR3.out]
            exact (rowLoop_mono HN.out (s3.length + 1) (c :: t).length _ s3 _ (by omega) (by omega)).symm
end Go.Proofs.YtcdeikhfmllkdaaGreatDoor

/- regex: pattern, and all of the parser. -/
namespace Go.Proofs.YtcdeikhfmllkdaaGreatDoor
open Go.RowKit
set_option linter.unusedVariables false
set_option linter.unusedSimpArgs false
set_option maxRecDepth 100000 in
set_option maxHeartbeats 8000000 in
theorem pattern_walk {pat : PF} {n B : Nat} (hB : B ≤ 80000) (HP : PfHyp 228 (rowF pat) n B) (hnice : NiceF 0 1 pat) : PfHyp 202 (patF pat) n B := by
  intro w q V s l hs hl P
  have H0 := Lib.hid ((PrB.start P).alloc #[.int .i64 0, .int .i64 0])
  have hq := P.lt
  obtain ⟨R, hR⟩ : ∃ R, patF pat s l = R := ⟨_, rfl⟩
  rw [hR]
  have HRr := Lib.hid hR
  have HPt := Lib.hid HP
  have HN := Lib.hid (row_nice hnice)
  clear P HP hR
  go_enter Tryz.func202, Tryz.ntmps202
  go_upto_region 1 with fail
  generalize hb2 : w.heap.size = b2 at H0
  generalize w.alloc _ = w1 at H0 ⊢
  have HC := Lib.hid (H0.out.pf HPt.out hs hl)
  cases hp : rowF pat s l with
  | none =>
    have hR := HRr.out
    unfold patF at hR
    rw [hp] at hR HC
    have hR : none = R := hR
    subst hR
    unfold PbPost badE at HC
    go_wp2_with (first | (go_at_call 228; refine HC.out.mono ?_; rintro e w3 ⟨rfl, hb3⟩))
    exact ⟨rfl, rfl, hb3⟩
  | some r =>
    have hR := HRr.out
    unfold patF at hR
    rw [hp] at hR HC
    have hn := HN.out _ _ _ hp
    obtain ⟨⟨pa, pb⟩, s1, l1⟩ := r
    have hR : patLoop (rowF pat) (s1.length + 1) (pa, pb) s1 l1 = R := hR
    have HC : Hid (Calls Tryz.prog 228 #[.pointer (some ⟨q, 0, none⟩)] w1 fun e w' => e = .returned (.agg #[.int .i64 pa, .int .i64 pb]) ∧ PrB w w' q V s1 l1 [(b2, #[.int .i64 0, .int .i64 0])]) := Lib.hid HC.out
    have ha := hn.a
    have hb := hn.b
    have htx := hn.txt
    have hfw := hn.few
    dsimp only at ha hb htx hfw
    have HR2 := Lib.hid hR
    clear hp HRr hn hR
    go_upto_region 2 with (first | (go_at_call 228; refine HC.out.mono ?_; rintro e w3 ⟨rfl, h3⟩; have H3 := Lib.hid (h3.alloc #[.int .i64 pa, .int .i64 pb]); clear h3))
    generalize hb3 : w3.heap.size = b3 at H3 ⊢
    generalize w3.alloc _ = w4 at H3 ⊢
    clear HC H0 hb2 hb3
    go_loopw [5] (fun v wr => ∃ (p1 p2 : Nat) (s2 : Bytes) (l2 : List St), PrB w wr q V s2 l2 [(b3, #[.int .i64 p1, .int .i64 p2]), (b2, #[.int .i64 0, .int .i64 0])] ∧ patLoop (rowF pat) (s2.length + 1) (p1, p2) s2 l2 = R ∧ p1 < l2.length ∧ p2 < l2.length ∧ s2.length < n ∧ l2.length + 4 * s2.length < B + 1) (fun _ wr => txtLen wr q)
    case atStart => exact ⟨pa, pb, s1, l1, H3.out, HR2.out, ha, hb, by omega, by omega⟩
    case round =>
      obtain ⟨p1, p2, s2, l2, hpr, hlp, hp1, hp2, hsn, hfew⟩ := hrel
      rename World => wo
      have HB := Lib.hid hpr
      have HL : Hid ((if (isR 124 s2).1 then (rowF pat (isR 124 s2).2 l2).bind fun r => patLoop (rowF pat) s2.length (r.2.2.length + 1, r.2.2.length) r.2.1 (setNext (setNext (r.2.2 ++ [freeS]) p2 r.2.2.length) r.1.2 r.2.2.length ++ [⟨none, p1, r.1.1⟩]) else some ((p1, p2), s2, l2)) = R) := Lib.hid hlp
      clear H3 HR2 ha hb htx hfw hpr hlp
      have HI := Lib.hid (HB.out.tx (fun V1 P1 => is_any' P1 124))
      cases h124 : (isR 124 s2).1 with
      | false =>
        have hU := HL.out
        rw [h124] at hU HI
        rw [if_neg (by simp)] at hU
        rw [isR_false h124] at HI
        subst hU
        clear HL h124
        go_upto_region 7 with (first | (go_at_call 229; refine HI.out.mono ?_; rintro e w5 ⟨rfl, h5⟩; have H5 := Lib.hid h5; clear h5))
        have r3 := (H5.out.rows _ (List.mem_cons_self ..)).1
        have r2 := (H5.out.rows _ (List.mem_cons_of_mem _ (List.mem_cons_self ..))).1
        have e0 : w5.cell? ⟨b3, 0, none⟩ = some (.int .i64 p1) := (cells_of r3 0).1
        have e1 : w5.cell? ⟨b3, 1, none⟩ = some (.int .i64 p2) := (cells_of r3 1).1
        have H9 := Lib.hid (H5.out.perm (List.Perm.swap _ _ _))
        clear H5 HI r3
        go_wp2_with (refine wpList_store_row rfl 260 (.tmp 2) (.tmp 41) rfl b2 #[.int .i64 p1, .int .i64 p2] (by rfl) (by rfl) 260 #[.int .i64 0, .int .i64 0] r2 Tryz.size260 rfl (by simp [Value.oneCell']) ?_)
        refine bodyPost_ret (results_pc rfl _ _ b2 _ rfl rfl (setRow_heap _ _ _ _ _ _ r2)) rfl ⟨rfl, ?_⟩
        exact (H9.out.setRow _).post
      | true =>
        have hU := HL.out
        rw [h124, if_pos rfl] at hU
        rw [h124] at HI
        have hz := (isR_len 124 s2).2 h124
        obtain ⟨s3, hs3⟩ : ∃ s3, (isR 124 s2).2 = s3 := ⟨_, rfl⟩
        rw [hs3] at hU HI hz
        have HU := Lib.hid hU
        clear hU HL h124 hs3
        go_upto_region 3 with (first | (go_at_call 229; refine HI.out.mono ?_; rintro e w5 ⟨rfl, h5⟩; have H5 := Lib.hid h5; clear h5))
        have HC := Lib.hid (H5.out.pf HPt.out (by omega) (by omega))
        cases hp : rowF pat s3 l2 with
        | none =>
          have hR := HU.out
          rw [hp] at hR HC
          have hR : none = R := hR
          subst hR
          unfold PbPost badE at HC
          go_wp2_with (first | (go_at_call 228; refine HC.out.mono ?_; rintro e w6 ⟨rfl, hb6⟩))
          exact ⟨rfl, rfl, hb6⟩
        | some r =>
          have hR := HU.out
          rw [hp] at hR HC
          have hn := HN.out _ _ _ hp
          obtain ⟨⟨m1, m2⟩, s4, l3⟩ := r
          have hR : patLoop (rowF pat) s2.length (l3.length + 1, l3.length) s4 (setNext (setNext (l3 ++ [freeS]) p2 l3.length) m2 l3.length ++ [⟨none, p1, m1⟩]) = R := hR
          have HC : Hid (Calls Tryz.prog 228 #[.pointer (some ⟨q, 0, none⟩)] w5 fun e w' => e = .returned (.agg #[.int .i64 m1, .int .i64 m2]) ∧ PrB w w' q V s4 l3 [(b3, #[.int .i64 p1, .int .i64 p2]), (b2, #[.int .i64 0, .int .i64 0])]) := Lib.hid HC.out
          have hm1 := hn.a
          have hm2 := hn.b
          have hle := hn.le
          have htx := hn.txt
          have hfw := hn.few
          dsimp only at hm1 hm2 hle htx hfw
          have HR3 := Lib.hid hR
          clear hp HU hn hR HI
          go_upto_region 4 with (first | (go_at_call 228; refine HC.out.mono ?_; rintro e w6 ⟨rfl, h6⟩; have H6 := Lib.hid (h6.alloc #[.int .i64 m1, .int .i64 m2]); clear h6))
          generalize hb7 : w6.heap.size = b7 at H6 ⊢
          generalize w6.alloc _ = w7 at H6 ⊢
          have HF := Lib.hid (H6.out.call (f := 230) (args := #[.pointer (some ⟨q, 0, none⟩)]) (fun V1 P1 _ => rfree_p P1 (by omega)))
          clear HC H5 hb7
          go_upto_region 5 with (first | (go_at_call 230; refine HF.out.mono ?_; rintro e w8 ⟨rfl, h8⟩; have H8 := Lib.hid h8; clear h8))
          obtain ⟨g, cap, hS, c1, q1, q2, hg⟩ := H8.out.at (by simp)
          obtain ⟨g7, g7'⟩ := hg _ (List.mem_cons_self ..)
          obtain ⟨g4, g4'⟩ := hg _ (List.mem_cons_of_mem _ (List.mem_cons_self ..))
          have r7 := (H8.out.rows _ (List.mem_cons_self ..)).1
          have r4 := (H8.out.rows _ (List.mem_cons_of_mem _ (List.mem_cons_self ..))).1
          have e1 : w8.cell? ⟨b3, 1, none⟩ = some (.int .i64 p2) := (cells_of r4 1).1
          have i1 : w8.cell? ⟨b7, 1, none⟩ = some (.int .i64 m2) := (cells_of r7 1).1
          have hll : (l3 ++ [freeS]).length = l3.length + 1 := by simp
          obtain ⟨⟨v1, k1⟩, f1⟩ := hS.pr.cellAt (i := p2) (j := 1) (by rw [hll]; omega) (by omega)
          obtain ⟨⟨v2, k2⟩, f2⟩ := hS.pr.cellAt (i := m2) (j := 1) (by rw [hll]; omega) (by omega)
          have hix : (p2 : Int) < (l3.length : Int) + 1 := by omega
          have hix2 : (m2 : Int) < (l3.length : Int) + 1 := by omega
          have H9 := Lib.hid ((H8.out.next2 hS (i := p2) (j := m2) (by rw [hll]; omega) (by rw [hll]; omega) l3.length l3.length).other (Below.drew (Below.refl _ _)))
          rw [hll] at c1
          dsimp only at g7 g7' g4 g4'
          have hL2 : (setNext (setNext (l3 ++ [freeS]) p2 l3.length) m2 l3.length).length = l3.length + 1 := by rw [setNext_len, setNext_len]; exact hll
          have hlp3 : ∀ s5 : Bytes, s5.length = s4.length → patLoop (rowF pat) (s4.length + 1) (l3.length + 1, l3.length) s4 (setNext (setNext (l3 ++ [freeS]) p2 l3.length) m2 l3.length ++ [⟨none, p1, m1⟩]) = R := fun _ _ => by
            rw [← HR3.out]
            exact (patLoop_mono HN.out (s4.length + 1) s2.length _ s4 _ (by omega) (by omega)).symm
          have HLP := Lib.hid (hlp3 s4 rfl)
          generalize hll4 : setNext (setNext (l3 ++ [freeS]) p2 l3.length) m2 l3.length = l4 at H9 hL2 HLP
          clear hS r7 r4 hg HF H6 HR3 hlp3 hll4
          by_cases hpm : p2 = m2
          · subst hpm
            go_region
            generalize ((w8.setCell _ _).setCell _ _).drew = w9 at H9 ⊢
            have r7 := (H9.out.rows _ (List.mem_cons_self ..)).1
            have r4 := (H9.out.rows _ (List.mem_cons_of_mem _ (List.mem_cons_self ..))).1
            have e0 : w9.cell? ⟨b3, 0, none⟩ = some (.int .i64 p1) := (cells_of r4 0).1
            have i0 : w9.cell? ⟨b7, 0, none⟩ = some (.int .i64 m1) := (cells_of r7 0).1
            have HA : Hid (Calls Tryz.prog 231 #[.pointer (some ⟨q, 0, none⟩), .agg #[.pointer none, .int .i64 p1, .int .i64 m1]] w9 fun e w' => e = .returned (.int .i64 ((l3.length + 1 : Nat) : Int)) ∧ PrB w w' q V s4 (l4 ++ [⟨none, p1, m1⟩]) [(b7, #[.int .i64 m1, .int .i64 p2]), (b3, #[.int .i64 p1, .int .i64 p2]), (b2, #[.int .i64 0, .int .i64 0])]) := Lib.hid (H9.out.call (fun V1 P1 _ => by
              have h := radd_any P1 (by rw [hL2]; omega) ⟨none, p1, m1⟩ (p := .pointer none) rfl
              rw [hL2] at h
              exact h))
            clear H8 c1 e1 i1 k1 f1 k2 f2 H9 r7 r4
            go_wp2_with (first
              | (go_at_call 231; refine HA.out.mono ?_; rintro e w10 ⟨rfl, h10⟩; have H11 := Lib.hid h10.drop; have r3 := (h10.rows _ (List.mem_cons_of_mem _ (List.mem_cons_self ..))).1; clear h10)
              | (refine wpList_store_row rfl 260 (.tmp 3) (.tmp 40) rfl b3 #[.int .i64 ((l3.length + 1 : Nat) : Int), .int .i64 l3.length] (by rfl) (by rfl) 260 #[.int .i64 p1, .int .i64 p2] r3 Tryz.size260 rfl (by simp [Value.oneCell']) ?_; dsimp only [put_none]))
            have H12 := H11.out.setRow #[.int .i64 ((l3.length + 1 : Nat) : Int), .int .i64 l3.length]
            have hl5 : (l4 ++ [(⟨none, p1, m1⟩ : St)]).length = l3.length + 2 := by rw [List.length_append, hL2]; rfl
            go_roundw
            case measure => rw [H12.txt, HB.out.txt]; omega
            case rel => exact ⟨l3.length + 1, l3.length, s4, _, H12, HLP.out, by omega, by omega, by omega, by omega⟩
          · have hne : p2 * 3 + 1 ≠ m2 * 3 + 1 := by omega
            have hne' : m2 * 3 + 1 ≠ p2 * 3 + 1 := by omega
            go_region
            generalize ((w8.setCell _ _).setCell _ _).drew = w9 at H9 ⊢
            have r7 := (H9.out.rows _ (List.mem_cons_self ..)).1
            have r4 := (H9.out.rows _ (List.mem_cons_of_mem _ (List.mem_cons_self ..))).1
            have e0 : w9.cell? ⟨b3, 0, none⟩ = some (.int .i64 p1) := (cells_of r4 0).1
            have i0 : w9.cell? ⟨b7, 0, none⟩ = some (.int .i64 m1) := (cells_of r7 0).1
            have HA : Hid (Calls Tryz.prog 231 #[.pointer (some ⟨q, 0, none⟩), .agg #[.pointer none, .int .i64 p1, .int .i64 m1]] w9 fun e w' => e = .returned (.int .i64 ((l3.length + 1 : Nat) : Int)) ∧ PrB w w' q V s4 (l4 ++ [⟨none, p1, m1⟩]) [(b7, #[.int .i64 m1, .int .i64 m2]), (b3, #[.int .i64 p1, .int .i64 p2]), (b2, #[.int .i64 0, .int .i64 0])]) := Lib.hid (H9.out.call (fun V1 P1 _ => by
              have h := radd_any P1 (by rw [hL2]; omega) ⟨none, p1, m1⟩ (p := .pointer none) rfl
              rw [hL2] at h
              exact h))
            clear H8 c1 e1 i1 k1 f1 k2 f2 H9 r7 r4
            go_wp2_with (first
              | (go_at_call 231; refine HA.out.mono ?_; rintro e w10 ⟨rfl, h10⟩; have H11 := Lib.hid h10.drop; have r3 := (h10.rows _ (List.mem_cons_of_mem _ (List.mem_cons_self ..))).1; clear h10)
              | (refine wpList_store_row rfl 260 (.tmp 3) (.tmp 40) rfl b3 #[.int .i64 ((l3.length + 1 : Nat) : Int), .int .i64 l3.length] (by rfl) (by rfl) 260 #[.int .i64 p1, .int .i64 p2] r3 Tryz.size260 rfl (by simp [Value.oneCell']) ?_; dsimp only [put_none]))
            have H12 := H11.out.setRow #[.int .i64 ((l3.length + 1 : Nat) : Int), .int .i64 l3.length]
            have hl5 : (l4 ++ [(⟨none, p1, m1⟩ : St)]).length = l3.length + 2 := by rw [List.length_append, hL2]; rfl
            go_roundw
            case measure => rw [H12.txt, HB.out.txt]; omega
            case rel => exact ⟨l3.length + 1, l3.length, s4, _, H12, HLP.out, by omega, by omega, by omega, by omega⟩
/-- The parser comes to the plain function. -/
theorem patN_hyp : ∀ (n B : Nat), B ≤ 70000 → PfHyp 202 (patN n) n B
  | 0, _, _ => fun w q V s l hs _ _ => absurd hs (Nat.not_lt_zero _)
  | n + 1, B, hB => pattern_walk (by omega) (row_walk (by omega) (part_walk (by omega) (atom_walk (by omega) (patN_hyp n B hB)) (patN_nice n)) (patN_nice n)) (patN_nice n)
end Go.Proofs.YtcdeikhfmllkdaaGreatDoor

/- regex: what the parser leaves is in range; Compile. -/
namespace Go.Proofs.YtcdeikhfmllkdaaGreatDoor
open Go.RowKit
set_option linter.unusedVariables false
set_option linter.unusedSimpArgs false
/-- All places that stand in the states are states, or none. -/
def StW (n : Nat) (l : List St) : Prop := ∀ st ∈ l, -1 ≤ st.next ∧ st.next < n ∧ -1 ≤ st.other ∧ st.other < n
theorem StW.mono {n m : Nat} {l : List St} (h : StW n l) (hm : n ≤ m) : StW m l := fun st hs => by have := h st hs; omega
theorem StW.snoc {n : Nat} {l : List St} {st : St} (h : StW n l) (hs : -1 ≤ st.next ∧ st.next < n ∧ -1 ≤ st.other ∧ st.other < n) : StW n (l ++ [st]) := fun x hx => by
  rcases List.mem_append.1 hx with hx | hx
  · exact h x hx
  · obtain rfl := List.mem_singleton.1 hx; exact hs
theorem mem_modify' {α : Type} {l : List α} {i : Nat} {f : α → α} {x : α} (h : x ∈ l.modify i f) : x ∈ l ∨ ∃ y ∈ l, x = f y := by
  obtain ⟨j, hj⟩ := List.mem_iff_getElem?.1 h
  rw [List.getElem?_modify] at hj
  obtain ⟨y, hy, e⟩ := Option.map_eq_some_iff.1 hj
  have hm := List.mem_of_getElem? hy
  by_cases hi : i = j
  · rw [if_pos hi] at e; exact .inr ⟨y, hm, e.symm⟩
  · rw [if_neg hi] at e; exact .inl (e ▸ hm)
theorem StW.next {n : Nat} {l : List St} (h : StW n l) (i : Nat) {x : Int} (hx : -1 ≤ x) (hn : x < n) : StW n (setNext l i x) := fun st hs => by
  rcases mem_modify' hs with hs | ⟨y, hy, rfl⟩
  · exact h st hs
  · have := h y hy; exact ⟨hx, hn, this.2.2⟩
theorem StW.other {n : Nat} {l : List St} (h : StW n l) (i : Nat) {x : Int} (hx : -1 ≤ x) (hn : x < n) : StW n (setOther l i x) := fun st hs => by
  rcases mem_modify' hs with hs | ⟨y, hy, rfl⟩
  · exact h st hs
  · have := h y hy; exact ⟨this.1, this.2.1, hx, hn⟩
def StF (F : PF) : Prop := ∀ s l r, StW l.length l → F s l = some r → StW r.2.2.length r.2.2
theorem wf_free {n : Nat} {l : List St} (h : StW n l) : StW n (l ++ [freeS]) := h.snoc (by refine ⟨?_, ?_, ?_, ?_⟩ <;> (unfold freeS; dsimp only; omega))
theorem wf_one {l : List St} {bs : List Bool} (h : StW l.length l) : StW (oneL l bs).length (oneL l bs) := by
  rw [oneL_len]
  exact (wf_free (h.mono (by omega))).snoc ⟨by dsimp only; omega, by dsimp only; omega, by dsimp only; omega, by dsimp only; omega⟩
theorem atom_wf {pat : PF} (hp : StF pat) : StF (atomF pat) := by
  intro s l r hl h
  unfold atomF at h
  cases s with
  | nil => cases h
  | cons c t =>
    simp only [takeM] at h
    split at h
    · obtain ⟨x, hx, h⟩ := Option.bind_eq_some_iff.1 h
      split at h
      · simp only [Option.some.injEq] at h; subst h; have := hp _ _ _ hl hx; exact this
      · cases h
    · split at h
      · obtain ⟨x, hx, rfl⟩ := Option.map_eq_some_iff.1 h; exact wf_one hl
      · split at h
        · simp only [Option.some.injEq] at h; subst h; exact wf_one hl
        · split at h
          · obtain ⟨x, hx, rfl⟩ := Option.map_eq_some_iff.1 h; exact wf_one hl
          · split at h
            · cases h
            · simp only [Option.some.injEq] at h; subst h; exact wf_one hl
theorem wf_loop {a : Pc} {l : List St} (h : StW l.length l) (h1 : a.1 < l.length) : StW (l.length + 1) (loopL a l) := by
  unfold loopL
  exact ((wf_free (h.mono (by omega))).next _ (by omega) (by omega)).other _ (by omega) (by omega)
theorem partLoop_wf : ∀ (f : Nat) (a : Pc) (s : Bytes) (l : List St) (r : Pc × Bytes × List St), StW l.length l → a.1 < l.length → a.2 < l.length → partLoop f a s l = some r → StW r.2.2.length r.2.2
  | 0, _, _, _, _, _, _, _, h => by cases h
  | f + 1, a, s, l, r, hl, h1, h2, h => by
    simp only [partLoop] at h
    split at h
    · refine partLoop_wf f _ _ _ r ?_ ?_ ?_ h
      · rw [List.length_append, loopL_len]; exact ((wf_loop hl h1).mono (by simp)).snoc ⟨by dsimp only; omega, by simp; omega, by dsimp only; omega, by simp; omega⟩
      · rw [List.length_append, loopL_len]; simp
      · rw [List.length_append, loopL_len]; simp; omega
    · split at h
      · refine partLoop_wf f _ _ _ r ?_ ?_ ?_ h
        · rw [loopL_len]; exact wf_loop hl h1
        · rw [loopL_len]; omega
        · rw [loopL_len]; simp
      · split at h
        · refine partLoop_wf f _ _ _ r ?_ ?_ ?_ h
          · rw [List.length_append, setNext_len, List.length_append]
            exact ((wf_free (hl.mono (by simp; omega))).next _ (by omega) (by simp; omega)).snoc ⟨by dsimp only; omega, by simp; omega, by dsimp only; omega, by simp; omega⟩
          · rw [List.length_append, setNext_len, List.length_append]; simp
          · rw [List.length_append, setNext_len, List.length_append]; simp; omega
        · simp only [Option.some.injEq] at h; subst h
          rw [List.length_append]
          exact wf_free (hl.mono (by simp))
theorem part_wf {pat : PF} (hp : StF pat) (hn : NiceF 0 1 pat) : StF (partF pat) := by
  intro s l r hl h
  obtain ⟨x, hx, h⟩ := Option.bind_eq_some_iff.1 h
  have hx' := (atom_nice hn hx).1
  exact partLoop_wf _ _ _ _ _ (atom_wf hp _ _ _ hl hx) hx'.a hx'.b h
theorem rowLoop_wf {part : PF} (hp : StF part) (hn : NiceF 1 0 part) : ∀ (f : Nat) (p : Pc) (s : Bytes) (l : List St) (r : Pc × Bytes × List St), StW l.length l → rowLoop part f p s l = some r → StW r.2.2.length r.2.2
  | 0, _, _, _, _, _, h => by cases h
  | f + 1, p, s, l, r, hl, h => by
    simp only [rowLoop] at h
    split at h
    · simp only [Option.some.injEq] at h; subst h; exact hl
    · obtain ⟨x, hx, h⟩ := Option.bind_eq_some_iff.1 h
      refine rowLoop_wf hp hn f _ _ _ r ?_ h
      rw [setNext_len]
      exact (hp _ _ _ hl hx).next _ (by omega) (by have := (hn _ _ _ hx).a; omega)
theorem row_wf {pat : PF} (hp : StF pat) (hn : NiceF 0 1 pat) : StF (rowF pat) := fun s l r hl h => by
  refine rowLoop_wf (part_wf hp hn) (part_nice hn) _ _ _ _ _ ?_ h
  rw [List.length_append]
  exact wf_free (hl.mono (by simp))
theorem patLoop_wf {row : PF} (hp : StF row) (hn : NiceF 0 1 row) : ∀ (f : Nat) (p : Pc) (s : Bytes) (l : List St) (r : Pc × Bytes × List St), StW l.length l → p.1 < l.length → patLoop row f p s l = some r → StW r.2.2.length r.2.2
  | 0, _, _, _, _, _, _, h => by cases h
  | f + 1, p, s, l, r, hl, h1, h => by
    simp only [patLoop] at h
    split at h
    · obtain ⟨x, hx, h⟩ := Option.bind_eq_some_iff.1 h
      have hw := hp _ _ _ hl hx
      have ha := (hn _ _ _ hx).a
      have hle := (hn _ _ _ hx).le
      refine patLoop_wf hp hn f _ _ _ r ?_ ?_ h
      · rw [List.length_append, setNext_len, setNext_len, List.length_append]
        exact (((wf_free (hw.mono (by simp; omega))).next _ (by omega) (by simp; omega)).next _ (by omega) (by simp; omega)).snoc ⟨by dsimp only; omega, by simp; omega, by dsimp only; omega, by simp; omega⟩
      · rw [List.length_append, setNext_len, setNext_len, List.length_append]; simp
    · simp only [Option.some.injEq] at h; subst h; exact hl
theorem pat_wf {pat : PF} (hp : StF pat) (hn : NiceF 0 1 pat) : StF (patF pat) := by
  intro s l r hl h
  obtain ⟨x, hx, h⟩ := Option.bind_eq_some_iff.1 h
  exact patLoop_wf (row_wf hp hn) (row_nice hn) _ _ _ _ _ (row_wf hp hn _ _ _ hl hx) (row_nice hn _ _ _ hx).a h
theorem patN_wf : ∀ n, StF (patN n)
  | 0 => fun s l r _ h => by cases h
  | n + 1 => pat_wf (patN_wf n) (patN_nice n)
/-- What a pattern compiles to. -/
def compileM (s : Bytes) : Except Nat (List St × Nat) :=
  if 64 < s.length then .error 5
  else match patN (s.length + 1) s [] with
    | none => .error 9
    | some r => if r.2.1 = [] then .ok (r.2.2 ++ [⟨none, -1, r.1.2⟩], r.1.1) else .error 9
/-- An automaton that may be: its last state tells the accepting one, the others stand among themselves. -/
structure ReOk (l : List St) (p : Nat) : Prop where
  ex : ∃ l0 e, l = l0 ++ [⟨none, -1, (e : Nat)⟩] ∧ e < l0.length ∧ StW l0.length l0 ∧ p < l0.length ∧ l0.length ≤ 257
theorem compileM_ok {s : Bytes} {l : List St} {p : Nat} (h : compileM s = .ok (l, p)) : ReOk l p := by
  unfold compileM at h
  split at h
  · cases h
  · cases hp : patN (s.length + 1) s [] with
    | none => rw [hp] at h; cases h
    | some r =>
      rw [hp] at h
      have hn := patN_nice _ _ _ _ hp
      have hw := patN_wf _ _ _ _ (by intro st hs; cases hs) hp
      dsimp only at h
      split at h
      · simp only [Except.ok.injEq, Prod.mk.injEq] at h
        obtain ⟨rfl, rfl⟩ := h
        have := hn.few
        exact ⟨_, _, rfl, hn.b, hw, hn.a, by simp at this; omega⟩
      · cases h
end Go.Proofs.YtcdeikhfmllkdaaGreatDoor
