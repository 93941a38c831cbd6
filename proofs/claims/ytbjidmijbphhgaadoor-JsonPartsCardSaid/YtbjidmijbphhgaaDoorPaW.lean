/- JsonParts, walked. -/
import Derived.Test.YtbjidmijbphhgaaDoorBlW
import Derived.Test.YtbjidmijbphhgaaDoorBkG
import Derived.Outline
namespace Go.Proofs.YtbjidmijbphhgaaDoor
open Go.RowKit Go.Proofs.YtbjidmijbphhgaaDoorW.PrintWords PJsonKids
set_option linter.unusedVariables false
set_option linter.unusedSimpArgs false

set_option maxRecDepth 100000 in
set_option maxHeartbeats 2000000 in
theorem parts_bad {W : World} (hT : Tabs W) (A : Option Addr) (c : Nat) (l : List S36) (n : Int)
    (hC : Kd.C k36 W A l.length l) (hc : l.length ≤ c) (k : Nat) (hk : watchfireref24_Light.f k l 1500 = some false) :
    Calls Tryd.prog 4 #[.slice A l.length c, .int .u16 n] W fun e w' => e = .returned (.bool true) ∧ Below W.heap.size W w' := by
  have HT := Lib.hid hT
  have HC := Lib.hid (And.intro hC hc)
  have HK := Lib.hid hk
  clear hT hC hc hk
  go_enter Tryd.func4, Tryd.ntmps4
  go_wp2_with fail
  refine (watchfireref24_Light.calls k A c l 1500 false W HC.out.1 HC.out.2 HK.out).mono ?_
  rintro e W2 ⟨rfl, hb2⟩
  have HB2 := Lib.hid hb2
  clear hb2
  go_wp2_with fail
  refine (awake_any (tabs_below HT.out HB2.out)).mono ?_
  rintro e W3 ⟨rfl, hb3⟩
  have HB3 : Hid (Below W.heap.size W W3) := Lib.hid (HB2.out.trans (hb3.mono HB2.out.size))
  clear hb3
  go_wp2
  go_ret
  exact ⟨rfl, HB3.out⟩
set_option maxRecDepth 100000 in
set_option maxHeartbeats 2000000 in
theorem parts_long {W : World} (hT : Tabs W) (A : Option Addr) (c : Nat) (l : List S36) (n : Int)
    (hC : Kd.C k36 W A l.length l) (hc : l.length ≤ c) (k : Nat) (hk : watchfireref24_Light.f k l 1500 = some true) (hl : 200 < l.length) (hl2 : l.length ≤ 600) :
    Calls Tryd.prog 4 #[.slice A l.length c, .int .u16 n] W fun e w' => e = .returned (.bool true) ∧ Below W.heap.size W w' := by
  have HT := Lib.hid hT
  have HC := Lib.hid (And.intro hC hc)
  have HK := Lib.hid hk
  have e0 : decide ((200 : Int) < (l.length : Int)) = true := by simp; omega
  clear hT hC hc hk
  go_enter Tryd.func4, Tryd.ntmps4
  go_wp2_with fail
  refine (watchfireref24_Light.calls k A c l 1500 true W HC.out.1 HC.out.2 HK.out).mono ?_
  rintro e W2 ⟨rfl, hb2⟩
  have HB2 := Lib.hid hb2
  clear hb2
  go_wp2_with fail
  refine (awake_any (tabs_below HT.out HB2.out)).mono ?_
  rintro e W3 ⟨rfl, hb3⟩
  have HB3 : Hid (Below W.heap.size W W3) := Lib.hid (HB2.out.trans (hb3.mono HB2.out.size))
  clear hb3
  go_wp2
  go_ret
  exact ⟨rfl, HB3.out⟩
set_option maxRecDepth 100000 in
set_option maxHeartbeats 4000000 in
theorem parts_no {W : World} (hT : Tabs W) (A : Option Addr) (c : Nat) (l : List S36) (n : Int)
    (hC : Kd.C k36 W A l.length l) (hc : l.length ≤ c) (hok : ∀ x ∈ l, okV x) (hl : l.length ≤ 200) (hbk : (l.map bulk).sum ≤ 1500) (h0 : checkM (l.map toV) ≠ 0) (k : Nat) (hk : watchfireref24_Light.f k l 1500 = some true) :
    Calls Tryd.prog 4 #[.slice A l.length c, .int .u16 n] W fun e w' => e = .returned (.bool true) ∧ Below W.heap.size W w' := by
  have HT := Lib.hid hT
  have HC := Lib.hid (And.intro hC hc)
  have HK := Lib.hid hk
  have HO := Lib.hid (And.intro hok (And.intro hl hbk))
  have hroom : Hid (wt (l.map toV) ≤ 140737488350000) := by
    have := wt_vol (l.map toV); rw [bulk_vol, List.length_map] at this
    exact Lib.hid (by omega)
  have HV : Hid (∀ v ∈ l.map toV, v.ok) := Lib.hid (fun v hv => by
    obtain ⟨x, hx, rfl⟩ := List.mem_map.1 hv
    exact okV_val' (hok x hx))
  have HM : Hid ((l.map toV).length ≤ maxLen) := Lib.hid (by rw [List.length_map]; unfold maxLen; omega)
  have e0 : decide ((200 : Int) < (l.length : Int)) = false := by simp; omega
  clear hT hC hc hk hok hl hbk
  go_enter Tryd.func4, Tryd.ntmps4
  go_wp2_with fail
  refine (watchfireref24_Light.calls k A c l 1500 true W HC.out.1 HC.out.2 HK.out).mono ?_
  rintro e W2 ⟨rfl, hb2⟩
  have HB2 := Lib.hid hb2
  clear hb2
  go_wp2_with fail
  refine (put_any (tabs_below HT.out HB2.out) (lst_of (Kd.C_below HC.out.1 HB2.out) HO.out.1 c) HM.out HV.out hroom.out).mono ?_
  rw [putM_no h0]
  rintro e W3 ⟨rfl, hb3⟩
  have HB3 : Hid (Below W.heap.size W W3) := Lib.hid (HB2.out.trans (hb3.mono HB2.out.size))
  clear hb3
  obtain ⟨m, hm⟩ : ∃ m, checkM (l.map toV) = m := ⟨_, rfl⟩
  rw [hm] at h0 ⊢
  have e1 : ((m : Int) != 0) = true := by rw [bne_iff_ne]; omega
  clear hm h0
  go_wp2_with fail
  refine (awake_any (tabs_below HT.out HB3.out)).mono ?_
  rintro e W4 ⟨rfl, hb4⟩
  have HB4 : Hid (Below W.heap.size W W4) := Lib.hid (HB3.out.trans (hb4.mono HB3.out.size))
  clear hb4
  go_wp2
  go_ret
  exact ⟨by first | rfl | (simp; done), HB4.out⟩
theorem info36' : (Tryd.prog.info? 36).map (fun i => (i.zero, i.size, i.bytes)) = some (some (.agg #[.int .i64 0, .int .u8 0, .string ⟨#[]⟩, .string ⟨#[]⟩]), 4, 48) := by kernel_rfl
/-- What the first loop keeps. -/
def PtRel (W W3 : World) (l : List S36) (q : Nat) (v8 v9 : Value) (wr : World) : Prop :=
  ∃ j : Nat, v9 = .int .i64 (j : Int) ∧ q ≤ j ∧ j ≤ l.length ∧ Below W.heap.size W wr ∧ Below W3.heap.size W3 wr ∧ Kd.R k36 36 wr W3.heap.size (fun _ => True) v8 ((partTo (l.map toV) q (j - q)).map ofV) ∧
    ∀ (d : Nat) (w : Val), 1 ≤ d → d < j - q → (l.map toV)[q + d]? = some w → (q : Int) ≤ w.parent
theorem shift_first {j : Nat} {x0 x1 : Int} {x2 x3 : ByteArray} (h : okV ⟨x0, x1, x2, x3⟩) : (⟨-1, x1, ⟨#[]⟩, x3⟩ : S36) = ofV (shiftV j j (toV ⟨x0, x1, x2, x3⟩)) := by
  have := okV_kind h
  unfold shiftV
  rw [if_pos rfl]
  simp only [ofV, toV, str_of]
  simp only at this
  congr 1; omega
theorem shift_other {j q : Nat} (hjq : ¬ j = q) {x0 x1 : Int} {x2 x3 : ByteArray} (h : okV ⟨x0, x1, x2, x3⟩) : (⟨x0 - (q : Int), x1, x2, x3⟩ : S36) = ofV (shiftV q j (toV ⟨x0, x1, x2, x3⟩)) := by
  have := okV_kind h
  rw [shift_ne hjq]
  simp only [ofV, toV, str_of]
  simp only at this
  congr 1; omega
theorem pt_step {W W3 w1 : World} {l : List S36} {q j : Nat} {v1 : Value} {x p : S36} (hb3 : Below W.heap.size W W3) (h0 : q ≤ j) (hx : l[j]? = some x) (hp : p = ofV (shiftV q j (toV x)))
    (hR : Kd.R k36 36 w1 W3.heap.size (fun _ => True) v1 ((partTo (l.map toV) q (j - q)).map ofV ++ [p])) (hb1 : Below W3.heap.size W3 w1)
    (hin : ∀ (d : Nat) (w : Val), 1 ≤ d → d < j - q → (l.map toV)[q + d]? = some w → (q : Int) ≤ w.parent) (hc : j = q ∨ (q : Int) ≤ x.f0) : PtRel W W3 l q v1 (.int .i64 ((j : Int) + 1)) w1 := by
  have hjl := (List.getElem?_eq_some_iff.1 hx).1
  refine ⟨j + 1, by congr 1, by omega, by omega, hb3.trans (hb1.mono hb3.size), hb1, ?_, fun d w h1 h2 hw => ?_⟩
  · rw [show j + 1 - q = (j - q) + 1 by omega, partTo_succ, List.map_append]
    have e : q + (j - q) = j := by omega
    have e2 : (l.map toV).getD j v0 = toV x := by rw [List.getD_eq_getElem?_getD, List.getElem?_map, hx]; rfl
    rw [e, e2, List.map_cons, List.map_nil, ← hp]
    exact hR
  · by_cases hd : d < j - q
    · exact hin d w h1 hd hw
    · have e : q + d = j := by omega
      rw [e, List.getElem?_map, hx] at hw
      simp only [Option.map_some, Option.some.injEq] at hw
      subst hw
      rcases hc with hc | hc
      · omega
      · exact hc
theorem pt_part {l : List S36} {q j : Nat} (hin : ∀ (d : Nat) (w : Val), 1 ≤ d → d < j - q → (l.map toV)[q + d]? = some w → (q : Int) ≤ w.parent) (h0 : q ≤ j) (h1 : j ≤ (l.map toV).length) (h2 : q < j) (hout : ∀ w, (l.map toV)[q + (j - q)]? = some w → w.parent < (q : Int)) : IsPart (l.map toV) q (j - q) :=
  ⟨by omega, by omega, hin, hout⟩
theorem vol_part (l : List Val) (i : Nat) : ∀ n, i + n ≤ l.length → vol (partTo l i n) ≤ vol l := by
  have hd : ∀ (l : List Val) (k : Nat) (v : Val), l[k]? = some v → vol (l.drop k) = v.name.length + v.text.length + vol (l.drop (k + 1)) := by
    intro l k v hv
    rw [drop_at hv]; simp [vol]
  have hle : ∀ (l : List Val) (k : Nat), vol (l.drop k) ≤ vol l := by
    intro l
    induction l with
    | nil => intro k; simp
    | cons a l ih =>
      intro k
      cases k with
      | zero => simp
      | succ k =>
        have := ih k
        have e : vol (a :: l) = a.name.length + a.text.length + vol l := by simp [vol]
        rw [List.drop_succ_cons, e]; omega
  have key : ∀ n, i + n ≤ l.length → vol (partTo l i n) + vol (l.drop (i + n)) ≤ vol (l.drop i) := by
    intro n
    induction n with
    | zero => intro _; simp [partTo, vol]
    | succ n ih =>
      intro h
      have h1 := ih (by omega)
      obtain ⟨v, hv⟩ : ∃ v, l[i + n]? = some v := ⟨_, List.getElem?_eq_getElem (show i + n < l.length by omega)⟩
      have h2 := hd l (i + n) v hv
      have e : (l.getD (i + n) v0) = v := by rw [List.getD_eq_getElem?_getD, hv]; rfl
      have h3 : (shiftV i (i + n) v).name.length + (shiftV i (i + n) v).text.length ≤ v.name.length + v.text.length := by
        unfold shiftV; split <;> simp
      rw [partTo_succ, e, vol_snoc, show i + (n + 1) = i + n + 1 by omega]
      omega
  intro n h
  have := key n h
  have := hle l i
  omega
theorem okV_ofV {v : Val} (h : v.ok) : okV (ofV v) := by
  refine ⟨h.par, ?_, ?_, ?_⟩
  · have := h.fits.kind
    show (Lit.int .u8 (v.kind : Int)).wf = true
    simp [Lit.wf, IntKind.min, IntKind.max, IntKind.signed, IntKind.bits]
    omega
  · show (str v.name).size ≤ maxLen; rw [str_size]; exact h.fits.name
  · show (str v.text).size ≤ maxLen; rw [str_size]; exact h.fits.text
theorem pick_mid (a b c : Bytes) : (str (a ++ b ++ c)).extract a.length (a.length + (str b).size) = str b := by
  have h := Lib.extract_data (str (a ++ b ++ c)) a.length (a.length + (str b).size)
  rw [str_toList, str_size, Nat.add_sub_cancel_left, List.append_assoc, List.drop_left, List.take_left] at h
  rw [str_size, List.append_assoc]
  have h2 := congrArg str h
  rw [str_of] at h2
  exact h2
theorem bytes_ne {a b : ByteArray} (h : ¬ a = b) : (a.toList == b.toList) = false := by
  rw [beq_eq_false_iff_ne]
  intro e
  rw [ByteArray.toList_eq, ByteArray.toList_eq] at e
  exact h (ByteArray.ext (Array.ext' e))
theorem parts_par {l : List S36} (h : checkM (l.map toV) = 0) {j : Nat} (hj : j < l.length) : -1 ≤ l[j].f0 ∧ l[j].f0 ≤ 512 := by
  obtain ⟨h1, h2, h3, _⟩ := checkM_zero h
  have := shape_par (l.map toV) 0 [] (by simp) h3 (toV l[j]) (List.mem_map_of_mem (List.getElem_mem hj))
  have e : (toV l[j]).parent = l[j].f0 := rfl
  rw [e] at this
  omega
set_option maxRecDepth 100000 in
set_option maxHeartbeats 4000000 in
theorem parts_yes {W : World} (hT : Tabs W) (ad : Addr) (c : Nat) (l : List S36) (n : Nat) (hn : n < 65536)
    (hC : Kd.C k36 W (some ad) l.length l) (hc : l.length ≤ c) (hok : ∀ x ∈ l, okV x) (hl : l.length ≤ 200) (hp : 0 < l.length) (hbk : (l.map bulk).sum ≤ 1500) (h0 : checkM (l.map toV) = 0) (k : Nat) (hk : watchfireref24_Light.f k l 1500 = some true) :
    Calls Tryd.prog 4 #[.slice (some ad) l.length c, .int .u16 n] W fun e w' => e = .returned (.bool true) ∧ Below W.heap.size W w' := by
  have HT := Lib.hid hT
  have HC := Lib.hid (And.intro hC hc)
  have HK := Lib.hid hk
  have HO := Lib.hid (And.intro hok (And.intro hl hbk))
  have hroom : Hid (wt (l.map toV) ≤ 140737488350000) := by
    have := wt_vol (l.map toV); rw [bulk_vol, List.length_map] at this
    exact Lib.hid (by omega)
  have HV : Hid (∀ v ∈ l.map toV, v.ok) := Lib.hid (fun v hv => by
    obtain ⟨x, hx, rfl⟩ := List.mem_map.1 hv
    exact okV_val' (hok x hx))
  have HM : Hid ((l.map toV).length ≤ maxLen) := Lib.hid (by rw [List.length_map]; unfold maxLen; omega)
  have e0 : decide ((200 : Int) < (l.length : Int)) = false := by simp; omega
  obtain ⟨q, hq⟩ : ∃ q, n % l.length = q := ⟨_, rfl⟩
  have hqs : q < l.length := by rw [← hq]; exact Nat.mod_lt n hp
  have w1 : wrap64 (n : Int) = n := by unfold wrap64; omega
  have w3 : ((n : Int)).tmod (l.length : Int) = (q : Int) := by rw [← hq, Int.tmod_eq_emod_of_nonneg (by omega)]; exact (Int.natCast_emod n l.length).symm
  have w4 : ((l.length : Int) == 0) = false := by rw [beq_eq_false_iff_ne]; omega
  have hlen : (textM (l.map toV)).length ≤ 60000 := by
    have h1 := text_room h0
    have h2 := wt_vol (l.map toV)
    have h3 := (checkM_zero h0).1
    rw [bulk_vol] at h2
    omega
  have hl2 : (l.length : Int) ≤ 200 := by omega
  have H0 := Lib.hid h0
  clear hT hC hc hk hok hl hbk hq hn h0
  go_enter Tryd.func4, Tryd.ntmps4
  go_wp2_with fail
  refine (watchfireref24_Light.calls k (some ad) c l 1500 true W HC.out.1 HC.out.2 HK.out).mono ?_
  rintro e W2 ⟨rfl, hb2⟩
  have HB2 := Lib.hid hb2
  clear hb2
  go_wp2_with fail
  refine (put_any (tabs_below HT.out HB2.out) (lst_of (Kd.C_below HC.out.1 HB2.out) HO.out.1 c) HM.out HV.out hroom.out).mono ?_
  rw [putM_ok H0.out]
  rintro e W3 ⟨rfl, hb3⟩
  have HB3 : Hid (Below W.heap.size W W3) := Lib.hid (HB2.out.trans (hb3.mono HB2.out.size))
  obtain ⟨t, ht⟩ : ∃ t, textM (l.map toV) = t := ⟨_, rfl⟩
  have HTx := Lib.hid ht
  rw [ht] at hlen ⊢
  have hsz := str_size t
  obtain ⟨S, hS⟩ : ∃ S, str t = S := ⟨_, rfl⟩
  rw [hS] at hsz ⊢
  have hS1 : S.size ≤ 60000 := by omega
  have HSt := Lib.hid (And.intro hS hsz)
  have HL := Lib.hid hlen
  clear hb3 ht hlen hsz hS
  have e1 : (((0 : Nat) : Int) != 0) = false := rfl
  go_wp2_with fail
  clear w1 w3 w4
  go_loopw [8, 9] (fun v8 v9 wr => PtRel W W3 l q v8 v9 wr) (fun _ v _ => l.length - (intOf v).toNat)
  case atStart => exact ⟨q, rfl, Nat.le_refl _, by omega, HB3.out, Below.refl _ _, by rw [Nat.sub_self]; exact Kd.R_nil _ _ _ _ _, fun d w h1 h2 => by omega⟩
  case round =>
    obtain ⟨j, rfl, hj1, hj2, hb, hb3, hR, hin⟩ := hrel
    have HP := Lib.hid (And.intro hb (And.intro hb3 (And.intro hR hin)))
    clear hb hb3 hR hin
    by_cases hjl : j < l.length
    · obtain ⟨ad', ea, c0, c1, c2, c3⟩ := at_T36 (Kd.C_below HC.out.1 HP.out.1) (j : Int) (by omega) (by omega)
      cases ea
      rw [rd_at l j hjl, Int.toNat_natCast] at c0 c1 c2 c3
      have hpar := parts_par H0.out hjl
      have hxj : l[j]? = some l[j] := List.getElem?_eq_getElem hjl
      obtain ⟨x, hx⟩ : ∃ x, l[j] = x := ⟨_, rfl⟩
      rw [hx] at c0 c1 c2 c3 hpar hxj
      have HX := Lib.hid hxj
      obtain ⟨x0, x1, x2, x3⟩ := x
      dsimp only at c0 c1 c2 c3 hpar
      have hw : wrap64 (x0 - (q : Int)) = x0 - q := by unfold wrap64; omega
      clear hx hxj
      by_cases hjq : j = q
      · subst hjq
        have hbq : ((j : Int) == (j : Int)) = true := beq_self_eq_true _
        go_wp2_with (first | ((with_reducible refine gate_builtin (b := .append) (xs := #[.tmp 71, .tmp 73]) rfl ?_); at_builtin; refine Kd.R_append k36 (w0 := W3) (W := wr.alloc (.cells #[.int .i64 (-1), .int .u8 x1, .string ⟨#[]⟩, .string x3] 36)) W3.heap.size rfl (.tmp 71) (.tmp 73) 22 36 (.agg #[.int .i64 0, .int .u8 0, .string ⟨#[]⟩, .string ⟨#[]⟩]) 48 rfl Tryd.underlying22 info36' rfl (by decide) (by omega) _ ((partTo (l.map toV) j (j - j)).map ofV) (⟨(-1), x1, ⟨#[]⟩, x3⟩ : S36) [.int .i64 (-1), .int .u8 x1, .string ⟨#[]⟩, .string x3] (fun _ => True) (fun _ => False) rfl ?aX ?aP (fun _ hk => hk.elim) (fun _ _ => trivial) ?aO ?aB ?aS ?aL ?_))
        case aX => go_simp
        case aP => exact k36_mkM _ _ _ _
        case aO => exact Kd.R_below HP.out.2.2.1 (((Below.refl wr.heap.size wr).alloc (Nat.le_refl _) _))
        case aB => exact HP.out.2.1.alloc HP.out.2.1.size _
        case aS => have := HP.out.2.1.size; simp; omega
        case aL => rw [List.length_map, partTo_len]; omega
        intro v1 w1 hR1 hb1 hg1 _
        have HP1 := Lib.hid (And.intro hR1 (And.intro hb1 hg1))
        clear hR1 hb1 hg1
        go_wp2
        go_roundw
        case measure => simp [intOf]; omega
        case rel => exact pt_step HB3.out (Nat.le_refl _) HX.out (shift_first (HO.out.1 _ (List.mem_of_getElem? HX.out))) (by rw [Nat.sub_self]; exact HP1.out.1) HP1.out.2.1 HP.out.2.2.2 (.inl rfl)
      · have hbq : ((j : Int) == (q : Int)) = false := by rw [beq_eq_false_iff_ne]; omega
        by_cases hge : (q : Int) ≤ x0
        · have hge2 : decide ((q : Int) ≤ x0) = true := by simpa using hge
          go_wp2_with (first | ((with_reducible refine gate_builtin (b := .append) (xs := #[.tmp 71, .tmp 73]) rfl ?_); at_builtin; refine Kd.R_append k36 (w0 := W3) (W := wr.alloc (.cells #[.int .i64 (x0 - (q : Int)), .int .u8 x1, .string x2, .string x3] 36)) W3.heap.size rfl (.tmp 71) (.tmp 73) 22 36 (.agg #[.int .i64 0, .int .u8 0, .string ⟨#[]⟩, .string ⟨#[]⟩]) 48 rfl Tryd.underlying22 info36' rfl (by decide) (by omega) _ ((partTo (l.map toV) q (j - q)).map ofV) (⟨(x0 - (q : Int)), x1, x2, x3⟩ : S36) [.int .i64 (x0 - (q : Int)), .int .u8 x1, .string x2, .string x3] (fun _ => True) (fun _ => False) rfl ?bX ?bP (fun _ hk => hk.elim) (fun _ _ => trivial) ?bO ?bB ?bS ?bL ?_))
          case bX => go_simp
          case bP => exact k36_mkM _ _ _ _
          case bO => exact Kd.R_below HP.out.2.2.1 (((Below.refl wr.heap.size wr).alloc (Nat.le_refl _) _))
          case bB => exact HP.out.2.1.alloc HP.out.2.1.size _
          case bS => have := HP.out.2.1.size; simp; omega
          case bL => rw [List.length_map, partTo_len]; omega
          intro v1 w1 hR1 hb1 hg1 _
          have HP1 := Lib.hid (And.intro hR1 (And.intro hb1 hg1))
          clear hR1 hb1 hg1
          go_wp2
          go_roundw
          case measure => simp [intOf]; omega
          case rel => exact pt_step HB3.out hj1 HX.out (shift_other hjq (HO.out.1 _ (List.mem_of_getElem? HX.out))) HP1.out.1 HP1.out.2.1 HP.out.2.2.2 (.inr hge)
        · have hge2 : decide ((q : Int) ≤ x0) = false := by simpa using hge
          have hP : IsPart (l.map toV) q (j - q) := pt_part HP.out.2.2.2 hj1 (by rw [List.length_map]; omega) (by omega) (fun w hw => by
            rw [show q + (j - q) = j by omega, List.getElem?_map, HX.out] at hw
            simp only [Option.map_some, Option.some.injEq] at hw
            subst hw
            show x0 < _
            omega)
          have HPt := Lib.hid hP
          clear hP hge
          go_wp2_with fail
          obtain ⟨A1, c1', hu8, hc1, hC1⟩ := Kd.R_reads HP.out.2.2.1
          obtain ⟨P, hPP⟩ : ∃ P, partTo (l.map toV) q (j - q) = P := ⟨_, rfl⟩
          obtain ⟨hck, hinf⟩ := part_main H0.out HPt.out
          rw [hPP] at hck hinf
          have hvolP : vol P ≤ 1500 := by
            have h1 := vol_part (l.map toV) q (j - q) (by rw [List.length_map]; omega)
            have h2 := bulk_vol l
            have h3 := HO.out.2.2
            rw [hPP] at h1; omega
          have hPl : P.length ≤ 512 := (checkM_zero hck).1
          have hokP := check_ok hck (by omega)
          have hL : Lst wr u8 P := by
            have := lst_of hC1 (fun x hx => by
              rw [hPP] at hx
              obtain ⟨v, hv, rfl⟩ := List.mem_map.1 hx
              exact okV_ofV (hokP v hv)) c1'
            rw [← hu8, hPP, List.map_map, (show toV ∘ ofV = id from funext toV_ofV), List.map_id] at this
            exact this
          have hroomP : wt P ≤ 140737488350000 := by have := wt_vol P; omega
          have hput := put_any (tabs_below HT.out HP.out.1) hL (by unfold maxLen; omega) hokP hroomP
          rw [putM_ok hck] at hput
          obtain ⟨tp, htp⟩ : ∃ tp, textM P = tp := ⟨_, rfl⟩
          rw [htp] at hput hinf
          rw [HTx.out] at hinf
          obtain ⟨ta, tb, hta⟩ := hinf
          have HTA := Lib.hid hta
          refine hput.mono ?_
          rintro e W5 ⟨rfl, hb5⟩
          have HB5 : Hid (Below W.heap.size W W5) := Lib.hid (HP.out.1.trans (hb5.mono HP.out.1.size))
          have hszp := str_size tp
          obtain ⟨T, hT⟩ : ∃ T, str tp = T := ⟨_, rfl⟩
          rw [hT] at hszp ⊢
          have hTA : ta.length + T.size ≤ S.size := by
            have := congrArg List.length hta
            simp only [List.length_append] at this
            have := HSt.out.2
            omega
          have hpick : S.extract ta.length (ta.length + T.size) = T := by
            rw [← HSt.out.1, ← hta, ← hT]
            exact pick_mid ta tp tb
          have HPk := Lib.hid hpick
          have HTs := Lib.hid hT
          clear hu8 hc1 hC1 hPP hck hvolP hPl hokP hL hroomP hput htp hta hb5 hszp hT hpick
          go_wp2_with fail
          go_loopw [13] (fun v13 wr2 => ∃ m : Nat, v13 = .int .i64 (m : Int) ∧ m ≤ ta.length ∧ wr2 = W5) (fun v _ => ta.length - (intOf v).toNat)
          case atStart => exact ⟨0, rfl, Nat.zero_le _, rfl⟩
          case round =>
            obtain ⟨m, rfl, hm, rfl⟩ := hrel
            have hm1 : (0 : Int) ≤ (m : Int) := by omega
            have hm2 : (m : Int) ≤ (m : Int) + (T.size : Int) := by omega
            have hm3 : (m : Int) + (T.size : Int) ≤ (S.size : Int) := by omega
            by_cases hE : S.extract m (m + T.size) = T
            · clear hTA
              go_wp2_with fail
              refine (awake_any (tabs_below HT.out HB5.out)).mono ?_
              rintro e W6 ⟨rfl, hb6⟩
              have HB6 : Hid (Below W.heap.size W W6) := Lib.hid (HB5.out.trans (hb6.mono HB5.out.size))
              clear hb6
              go_wp2
              go_ret
              exact ⟨by first | rfl | (simp; done), HB6.out⟩
            · have hne : m ≠ ta.length := fun e => hE (by rw [e]; exact HPk.out)
              have hlt : m < ta.length := by omega
              have hEb := bytes_ne hE
              clear hne hE
              go_wp2_with fail
              exact ⟨⟨m + 1, by go_num, by omega, trivial⟩, by simp [intOf]; omega⟩
    · have hP : IsPart (l.map toV) q (j - q) := pt_part HP.out.2.2.2 hj1 (by rw [List.length_map]; omega) (by omega) (fun w hw => by
        have := (List.getElem?_eq_some_iff.1 hw).1
        rw [List.length_map] at this; omega)
      have HPt := Lib.hid hP
      clear hP
      go_wp2_with fail
      obtain ⟨A1, c1', hu8, hc1, hC1⟩ := Kd.R_reads HP.out.2.2.1
      obtain ⟨P, hPP⟩ : ∃ P, partTo (l.map toV) q (j - q) = P := ⟨_, rfl⟩
      obtain ⟨hck, hinf⟩ := part_main H0.out HPt.out
      rw [hPP] at hck hinf
      have hvolP : vol P ≤ 1500 := by
        have h1 := vol_part (l.map toV) q (j - q) (by rw [List.length_map]; omega)
        have h2 := bulk_vol l
        have h3 := HO.out.2.2
        rw [hPP] at h1; omega
      have hPl : P.length ≤ 512 := (checkM_zero hck).1
      have hokP := check_ok hck (by omega)
      have hL : Lst wr u8 P := by
        have := lst_of hC1 (fun x hx => by
          rw [hPP] at hx
          obtain ⟨v, hv, rfl⟩ := List.mem_map.1 hx
          exact okV_ofV (hokP v hv)) c1'
        rw [← hu8, hPP, List.map_map, (show toV ∘ ofV = id from funext toV_ofV), List.map_id] at this
        exact this
      have hroomP : wt P ≤ 140737488350000 := by have := wt_vol P; omega
      have hput := put_any (tabs_below HT.out HP.out.1) hL (by unfold maxLen; omega) hokP hroomP
      rw [putM_ok hck] at hput
      obtain ⟨tp, htp⟩ : ∃ tp, textM P = tp := ⟨_, rfl⟩
      rw [htp] at hput hinf
      rw [HTx.out] at hinf
      obtain ⟨ta, tb, hta⟩ := hinf
      have HTA := Lib.hid hta
      refine hput.mono ?_
      rintro e W5 ⟨rfl, hb5⟩
      have HB5 : Hid (Below W.heap.size W W5) := Lib.hid (HP.out.1.trans (hb5.mono HP.out.1.size))
      have hszp := str_size tp
      obtain ⟨T, hT⟩ : ∃ T, str tp = T := ⟨_, rfl⟩
      rw [hT] at hszp ⊢
      have hTA : ta.length + T.size ≤ S.size := by
        have := congrArg List.length hta
        simp only [List.length_append] at this
        have := HSt.out.2
        omega
      have hpick : S.extract ta.length (ta.length + T.size) = T := by
        rw [← HSt.out.1, ← hta, ← hT]
        exact pick_mid ta tp tb
      have HPk := Lib.hid hpick
      have HTs := Lib.hid hT
      clear hu8 hc1 hC1 hPP hck hvolP hPl hokP hL hroomP hput htp hta hb5 hszp hT hpick
      go_wp2_with fail
      go_loopw [13] (fun v13 wr2 => ∃ m : Nat, v13 = .int .i64 (m : Int) ∧ m ≤ ta.length ∧ wr2 = W5) (fun v _ => ta.length - (intOf v).toNat)
      case atStart => exact ⟨0, rfl, Nat.zero_le _, rfl⟩
      case round =>
        obtain ⟨m, rfl, hm, rfl⟩ := hrel
        have hm1 : (0 : Int) ≤ (m : Int) := by omega
        have hm2 : (m : Int) ≤ (m : Int) + (T.size : Int) := by omega
        have hm3 : (m : Int) + (T.size : Int) ≤ (S.size : Int) := by omega
        by_cases hE : S.extract m (m + T.size) = T
        · clear hTA
          go_wp2_with fail
          refine (awake_any (tabs_below HT.out HB5.out)).mono ?_
          rintro e W6 ⟨rfl, hb6⟩
          have HB6 : Hid (Below W.heap.size W W6) := Lib.hid (HB5.out.trans (hb6.mono HB5.out.size))
          clear hb6
          go_wp2
          go_ret
          exact ⟨by first | rfl | (simp; done), HB6.out⟩
        · have hne : m ≠ ta.length := fun e => hE (by rw [e]; exact HPk.out)
          have hlt : m < ta.length := by omega
          have hEb := bytes_ne hE
          clear hne hE
          go_wp2_with fail
          exact ⟨⟨m + 1, by go_num, by omega, trivial⟩, by simp [intOf]; omega⟩
theorem jsonParts_holds0 {W : World} (hT : Tabs W) (A : Option Addr) (c : Nat) (l : List S36) (hC : Kd.C k36 W A l.length l) (hc : l.length ≤ c) (hok : ∀ x ∈ l, okV x) (i : Int) (hi : (Lit.int .u16 i).wf = true) :
    Calls Tryd.prog 4 #[.slice A l.length c, .int .u16 i] W fun e w' => e = .returned (.bool true) ∧ Below W.heap.size W w' := by
  obtain ⟨k, r, hk, hr⟩ := light_1500 l
  obtain ⟨n, rfl, hn⟩ := u16_nat hi
  cases r with
  | false => exact parts_bad hT A c l n hC hc k hk
  | true =>
    obtain ⟨hl, hbk⟩ := hr rfl
    by_cases h2 : 200 < l.length
    · exact parts_long hT A c l n hC hc k hk h2 hl
    by_cases h0 : checkM (l.map toV) = 0
    · have hne := (checkM_zero h0).2.1
      have hp : 0 < l.length := by
        rcases l with _ | ⟨a, l⟩
        · exact absurd rfl hne
        · simp
      obtain ⟨ad, rfl, _⟩ := at_T36 hC 0 (by omega) (by omega)
      exact parts_yes hT ad c l n hn hC hc hok (by omega) hp hbk h0 k hk
    · exact parts_no hT A c l n hC hc hok (by omega) hbk h0 k hk
end Go.Proofs.YtbjidmijbphhgaaDoor
