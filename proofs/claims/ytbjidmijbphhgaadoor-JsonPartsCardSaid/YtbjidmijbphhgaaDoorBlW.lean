/- JsonBlanks, walked. -/
import Derived.Test.YtbjidmijbphhgaaDoorBwO
import Derived.Test.YtbjidmijbphhgaaDoorBkF
namespace Go.Proofs.YtbjidmijbphhgaaDoor
open Go.RowKit Go.Proofs.YtbjidmijbphhgaaDoorW.PrintWords PJsonKids
set_option linter.unusedVariables false
set_option linter.unusedSimpArgs false

theorem light_l0M (M : Nat) (hM : M ≤ 4000) (l : List S36) (hl : l.length ≤ 600) : ∀ (n i s : Nat), i + n = l.length → s ≤ M →
    ∃ r, watchfireref24_Light.l0 (n + 1) l M (s : Int) (i : Int) = some r ∧ (r = true → s + ((l.drop i).map bulk).sum ≤ M)
  | 0, i, s, h, hs => by
    refine ⟨true, ?_, fun _ => ?_⟩
    · rw [watchfireref24_Light.l0, if_neg (by omega)]
    · rw [List.drop_eq_nil_of_le (by omega)]; simpa using hs
  | n + 1, i, s, h, hs => by
    have hi : i < l.length := by omega
    rw [watchfireref24_Light.l0, if_pos (by omega), if_pos (by omega), rd_at l i hi, List.drop_eq_getElem_cons hi, wrap_small' ((M : Int) + 1) (by omega) (by omega), wrap_small' ((i : Int) + 1) (by omega) (by omega)]
    have m1 : ∀ z : Nat, ∃ y : Nat, mn (z : Int) ((M : Int) + 1) = (y : Int) ∧ y ≤ M + 1 ∧ (y ≤ M → y = z) := by
      intro z
      unfold mn
      split
      all_goals first | exact ⟨z, rfl, by omega, fun _ => rfl⟩ | exact ⟨M + 1, by omega, by omega, fun hh => by omega⟩
    obtain ⟨y, ey, y1, y2⟩ := m1 l[i].f2.size
    obtain ⟨z, ez, z1, z2⟩ := m1 l[i].f3.size
    rw [ey, ez, wrap_small' ((s : Int) + y) (by omega) (by omega), wrap_small' ((s : Int) + y + z) (by omega) (by omega)]
    by_cases c1 : (s : Int) + y > M
    · rw [if_pos c1]; exact ⟨false, rfl, fun h => by cases h⟩
    rw [if_neg c1]
    by_cases c2 : (s : Int) + y + z > M
    · rw [if_pos c2]; exact ⟨false, rfl, fun h => by cases h⟩
    rw [if_neg c2]
    obtain ⟨r, hr, hr2⟩ := light_l0M M hM l hl n (i + 1) (s + y + z) (by omega) (by omega)
    refine ⟨r, ?_, fun hh => ?_⟩
    · rw [← hr]; congr 1
    · have := hr2 hh
      have e1 := y2 (by omega)
      have e2 := z2 (by omega)
      have eb : bulk l[i] = l[i].f2.size + l[i].f3.size := rfl
      simp only [List.map_cons, List.sum_cons]
      omega
theorem light_1500 (l : List S36) : ∃ k r, watchfireref24_Light.f k l 1500 = some r ∧ (r = true → l.length ≤ 600 ∧ (l.map bulk).sum ≤ 1500) := by
  by_cases h : l.length ≤ 600
  · obtain ⟨r, hr, hr2⟩ := light_l0M 1500 (by omega) l h l.length 0 0 (by omega) (by omega)
    refine ⟨l.length + 1, r, ?_, fun hh => ⟨h, ?_⟩⟩
    · unfold watchfireref24_Light.f; rw [if_neg (by omega)]; exact hr
    · simpa using hr2 hh
  · exact ⟨0, false, by unfold watchfireref24_Light.f; rw [if_pos (by omega)], fun h => by cases h⟩

set_option maxRecDepth 100000 in
set_option maxHeartbeats 2000000 in
theorem blanks_bad {W : World} (hT : Tabs W) (A : Option Addr) (c : Nat) (l : List S36) (n : Int)
    (hC : Kd.C k36 W A l.length l) (hc : l.length ≤ c) (k : Nat) (hk : watchfireref24_Light.f k l 1500 = some false) :
    Calls Tryd.prog 7 #[.slice A l.length c, .int .u16 n] W fun e w' => e = .returned (.bool true) ∧ Below W.heap.size W w' := by
  have HT := Lib.hid hT
  have HC := Lib.hid (And.intro hC hc)
  have HK := Lib.hid hk
  clear hT hC hc hk
  go_enter Tryd.func7, Tryd.ntmps7
  go_wp2_with fail
  refine (watchfireref24_Light.calls k A c l 1500 false W HC.out.1 HC.out.2 HK.out).mono ?_
  rintro e W2 ⟨rfl, hb2⟩
  have HB2 := Lib.hid hb2
  clear hb2
  go_wp2_with fail
  refine (awake_any (tabs_below HT.out HB2.out)).mono ?_
  rintro e W3 ⟨rfl, hb3⟩
  have HB3 : Hid (Below W.heap.size W W3) := Lib.hid (HB2.out.trans (hb3.mono HB2.out.size))
  clear hb3
  go_wp2
  go_ret
  exact ⟨rfl, HB3.out⟩
theorem str_appB (a b : Bytes) : str a ++ str b = str (a ++ b) := by
  apply ByteArray.ext
  simp [str, ByteArray.data_append]
theorem read_code {w : World} {r : Except Nat (List Val)} {e : Ending} {w' : World} (h : ReadPost w r e w') : Below w.heap.size w w' ∧ ∃ (V : Value) (g : Nat), e = .returned (.tuple #[V, .int .i64 g]) ∧ (r = .error 4 → g = 4) := by
  obtain ⟨hb, h⟩ := h
  refine ⟨hb, ?_⟩
  cases r with
  | error m => exact ⟨_, m, h, fun e => by simpa using e⟩
  | ok l =>
    obtain ⟨V, he, _⟩ := h
    exact ⟨V, 0, he, fun e => by cases e⟩
set_option maxRecDepth 100000 in
set_option maxHeartbeats 4000000 in
theorem blanks_no {W : World} (hT : Tabs W) (A : Option Addr) (c : Nat) (l : List S36) (n : Nat) (hn : n < 65536)
    (hC : Kd.C k36 W A l.length l) (hc : l.length ≤ c) (hok : ∀ x ∈ l, okV x) (hl : l.length ≤ 600) (hbk : (l.map bulk).sum ≤ 1500) (h0 : checkM (l.map toV) ≠ 0) (k : Nat) (hk : watchfireref24_Light.f k l 1500 = some true) :
    Calls Tryd.prog 7 #[.slice A l.length c, .int .u16 n] W fun e w' => e = .returned (.bool true) ∧ Below W.heap.size W w' := by
  have HT := Lib.hid hT
  have HC := Lib.hid (And.intro hC hc)
  have HK := Lib.hid hk
  have HO := Lib.hid (And.intro hok (And.intro hl hbk))
  have hroom : Hid (wt (l.map toV) ≤ 140737488350000) := by
    have := wt_vol (l.map toV); rw [bulk_vol, List.length_map] at this
    exact Lib.hid (by omega)
  have HV : Hid (∀ v ∈ l.map toV, v.ok) := Lib.hid (fun v hv => by
    obtain ⟨x, hx, rfl⟩ := List.mem_map.1 hv
    exact okV_val' (hok x hx))
  have HM : Hid ((l.map toV).length ≤ maxLen) := Lib.hid (by rw [List.length_map]; unfold maxLen; omega)
  clear hT hC hc hk hok hl hbk
  go_enter Tryd.func7, Tryd.ntmps7
  go_wp2_with fail
  refine (watchfireref24_Light.calls k A c l 1500 true W HC.out.1 HC.out.2 HK.out).mono ?_
  rintro e W2 ⟨rfl, hb2⟩
  have HB2 := Lib.hid hb2
  clear hb2
  go_wp2_with fail
  refine (put_any (tabs_below HT.out HB2.out) (lst_of (Kd.C_below HC.out.1 HB2.out) HO.out.1 c) HM.out HV.out hroom.out).mono ?_
  rw [putM_no h0]
  rintro e W3 ⟨rfl, hb3⟩
  have HB3 : Hid (Below W.heap.size W W3) := Lib.hid (HB2.out.trans (hb3.mono HB2.out.size))
  clear hb3
  obtain ⟨m, hm⟩ : ∃ m, checkM (l.map toV) = m := ⟨_, rfl⟩
  rw [hm] at h0 ⊢
  have e0 : ((m : Int) != 0) = true := by rw [bne_iff_ne]; omega
  have hE : (str []).toList.isEmpty = true := by rw [str_empty]; rfl
  clear hm h0
  go_wp2_with fail
  refine (awake_any (tabs_below HT.out HB3.out)).mono ?_
  rintro e W4 ⟨rfl, hb4⟩
  have HB4 : Hid (Below W.heap.size W W4) := Lib.hid (HB3.out.trans (hb4.mono HB3.out.size))
  clear hb4
  go_wp2
  go_ret
  exact ⟨by first | rfl | (simp; done), HB4.out⟩
set_option maxRecDepth 100000 in
set_option maxHeartbeats 4000000 in
theorem blanks_yes {W : World} (hT : Tabs W) (ad : Addr) (c : Nat) (l : List S36) (n : Nat) (hn : n < 65536)
    (hC : Kd.C k36 W (some ad) l.length l) (hc : l.length ≤ c) (hok : ∀ x ∈ l, okV x) (hl : l.length ≤ 600) (hbk : (l.map bulk).sum ≤ 1500) (h0 : checkM (l.map toV) = 0) (x : S36) (hx : l[0]? = some x) (hkind : W.cell? ⟨ad.block, ad.off + 1, none⟩ = some (.int .u8 x.f1)) (k : Nat) (hk : watchfireref24_Light.f k l 1500 = some true) :
    Calls Tryd.prog 7 #[.slice (some ad) l.length c, .int .u16 n] W fun e w' => e = .returned (.bool true) ∧ Below W.heap.size W w' := by
  have HT := Lib.hid hT
  have HC := Lib.hid (And.intro hC hc)
  have HK := Lib.hid hk
  have HO := Lib.hid (And.intro hok (And.intro hl hbk))
  have hroom : Hid (wt (l.map toV) ≤ 140737488350000) := by
    have := wt_vol (l.map toV); rw [bulk_vol, List.length_map] at this
    exact Lib.hid (by omega)
  have HV : Hid (∀ v ∈ l.map toV, v.ok) := Lib.hid (fun v hv => by
    obtain ⟨x, hx, rfl⟩ := List.mem_map.1 hv
    exact okV_val' (hok x hx))
  have HM : Hid ((l.map toV).length ≤ maxLen) := Lib.hid (by rw [List.length_map]; unfold maxLen; omega)
  have HX := Lib.hid (And.intro hx hkind)
  clear hT hC hc hk hok hl hbk hx hkind
  go_enter Tryd.func7, Tryd.ntmps7
  go_wp2_with fail
  refine (watchfireref24_Light.calls k (some ad) c l 1500 true W HC.out.1 HC.out.2 HK.out).mono ?_
  rintro e W2 ⟨rfl, hb2⟩
  have HB2 := Lib.hid hb2
  clear hb2
  go_wp2_with fail
  refine (put_any (tabs_below HT.out HB2.out) (lst_of (Kd.C_below HC.out.1 HB2.out) HO.out.1 c) HM.out HV.out hroom.out).mono ?_
  rw [putM_ok h0]
  rintro e W3 ⟨rfl, hb3⟩
  have HB3 : Hid (Below W.heap.size W W3) := Lib.hid (HB2.out.trans (hb3.mono HB2.out.size))
  have hlen : (textM (l.map toV)).length ≤ 60000 := by
    have h1 := text_room h0
    have h2 := wt_vol (l.map toV)
    have h3 := (checkM_zero h0).1
    rw [bulk_vol] at h2
    have := HO.out.2.2
    omega
  have H0 := Lib.hid h0
  obtain ⟨t, ht⟩ : ∃ t, textM (l.map toV) = t := ⟨_, rfl⟩
  have HTx := Lib.hid ht
  rw [ht] at hlen ⊢
  have hsz := str_size t
  obtain ⟨S, hS⟩ : ∃ S, str t = S := ⟨_, rfl⟩
  rw [hS] at hsz ⊢
  have hS1 : S.size ≤ 60000 := by omega
  have HSt := Lib.hid (And.intro hS hsz)
  have HL := Lib.hid hlen
  clear hb3 h0 ht hlen hsz hS
  have e0 : (((0 : Nat) : Int) != 0) = false := rfl
  go_wp2_with fail
  have hstr : (⟨#[32, 9]⟩ : ByteArray) ++ S ++ (⟨#[10, 13, 32]⟩ : ByteArray) = str ([32, 9] ++ t ++ [10, 13, 32]) := by
    rw [← HSt.out.1, ← str_appB, ← str_appB]; rfl
  have hread := read_any (tabs_below HT.out HB3.out) (s := [32, 9] ++ t ++ [10, 13, 32]) (by have := HL.out; simp only [List.length_append, List.length_cons, List.length_nil]; unfold maxLen; omega)
  rw [← HTx.out, read_back H0.out (by decide) (by decide) (by have := HL.out; rw [← HTx.out] at this; simp only [List.length_append, List.length_cons, List.length_nil]; omega), HTx.out, ← hstr] at hread
  refine hread.mono ?_
  rintro e W4 ⟨hb4, V, rfl, hown, hfew⟩
  obtain ⟨A4, c4, rfl, hc4⟩ := own_slice hown
  obtain ⟨A5, c5, hV, hC4⟩ := kdC_lst hown.lst (by have := HM.out; unfold maxLen at this; omega)
  cases hV
  have HB4 : Hid (Below W.heap.size W W4) := Lib.hid (HB3.out.trans (hb4.mono HB3.out.size))
  rw [map_ofV HO.out.1] at hC4
  have hln : (l.map toV).length = l.length := List.length_map _
  rw [hln] at hc4 ⊢
  have HC4 := Lib.hid (And.intro hC4 hc4)
  clear hread hown hfew hb4 hC4 hc4 hln hstr
  have HN := Lib.hid hn
  have HS1 := Lib.hid hS1
  obtain ⟨q, hq⟩ : ∃ q, n % (S.size + 1) = q := ⟨_, rfl⟩
  have hqs : q ≤ S.size := by rw [← hq]; have := Nat.mod_lt n (show 0 < S.size + 1 by omega); omega
  have w1 : wrap64 (n : Int) = n := by unfold wrap64; omega
  have w2 : wrap64 ((S.size : Int) + 1) = (S.size : Int) + 1 := by unfold wrap64; omega
  have w3 : ((n : Int)).tmod ((S.size : Int) + 1) = (q : Int) := by rw [← hq, Int.tmod_eq_emod_of_nonneg (by omega)]; exact (Int.natCast_emod n (S.size + 1)).symm
  have w4 : (((S.size : Int) + 1) == 0) = false := by rw [beq_eq_false_iff_ne]; omega
  have b0 : (0 : Int) ≤ (q : Int) := by omega
  have b1 : (q : Int) ≤ (S.size : Int) := by omega
  clear hn hS1 hq


  go_wp2_with fail
  have hext : S.extract 0 q = str (t.take q) := by rw [← HSt.out.1, str_take]
  have hread := read_any (tabs_below HT.out HB4.out) (s := t.take q) (by have := HL.out; rw [List.length_take]; unfold maxLen; omega)
  rw [← hext] at hread
  refine hread.mono ?_
  rintro e W5 hrp
  obtain ⟨hb5, V5, g, rfl, hg⟩ := read_code hrp
  have HB5 : Hid (Below W.heap.size W W5) := Lib.hid (HB4.out.trans (hb5.mono HB4.out.size))
  have HC5 := Lib.hid (Kd.C_below HC4.out.1 hb5)
  have HG := Lib.hid hg
  obtain ⟨kS, hS⟩ := jsame_f l HO.out.2.1
  have HSm := Lib.hid hS
  have HQ : Hid (q < S.size → x.f1 ≠ 3 → g = 4) := Lib.hid (fun h1 h2 => hg (by
    refine read_cut H0.out (fun v hv hk3 => ?_) (q := t.take q) ?_ ?_ ?_
    · rw [List.getElem?_map, HX.out.1] at hv
      simp only [Option.map_some, Option.some.injEq] at hv
      subst hv
      have h6 := okV_kind (HO.out.1 x (List.mem_of_getElem? HX.out.1))
      have : (toV x).kind = x.f1.toNat := rfl
      omega
    · rw [HTx.out, List.length_take]; have := HSt.out.2; omega
    · rw [HTx.out, List.length_take]
      have := HSt.out.2
      rw [Nat.min_eq_left (by omega)]
    · have := HL.out; rw [List.length_take]; omega))
  clear hread hrp hb5 hg hS hext
  have hcell := (HB5.out.cell (p := ⟨ad.block, ad.off + 1, none⟩) (World.block_lt_of_cell? W _ HX.out.2)).trans HX.out.2
  have e3 : ((0 : Int) == 0) = true := rfl
  have p1 : (0 : Int) < (l.length : Int) := by have := (List.getElem?_eq_some_iff.1 HX.out.1).1; omega
  by_cases hq1 : q = S.size
  · have e4 : ((q : Int) == (S.size : Int)) = true := by rw [hq1]; exact beq_self_eq_true _
    clear hq1
    go_wp2_with fail
    refine (json_Same.calls kS (some ad) c l A4 c4 l true W5 (Kd.C_below HC.out.1 HB5.out) HC.out.2 HC5.out HC4.out.2 HSm.out).mono ?_
    rintro e W6 ⟨rfl, hb6⟩
    have HB6 : Hid (Below W.heap.size W W6) := Lib.hid (HB5.out.trans (hb6.below.mono HB5.out.size))
    clear hb6
    go_wp2_with fail
    refine (awake_any (tabs_below HT.out HB6.out)).mono ?_
    rintro e W7 ⟨rfl, hb7⟩
    have HB7 : Hid (Below W.heap.size W W7) := Lib.hid (HB6.out.trans (hb7.mono HB6.out.size))
    clear hb7
    go_wp2
    go_ret
    exact ⟨by first | rfl | (simp; done), HB7.out⟩
  · have e4 : ((q : Int) == (S.size : Int)) = false := by rw [beq_eq_false_iff_ne]; omega
    have hqlt : q < S.size := by omega
    by_cases h3 : x.f1 = 3
    · have e5 : (x.f1 == 3) = true := by rw [h3]; rfl
      clear hq1 h3 hqlt
      go_wp2_with fail
      refine (json_Same.calls kS (some ad) c l A4 c4 l true W5 (Kd.C_below HC.out.1 HB5.out) HC.out.2 HC5.out HC4.out.2 HSm.out).mono ?_
      rintro e W6 ⟨rfl, hb6⟩
      have HB6 : Hid (Below W.heap.size W W6) := Lib.hid (HB5.out.trans (hb6.below.mono HB5.out.size))
      clear hb6
      go_wp2_with fail
      refine (awake_any (tabs_below HT.out HB6.out)).mono ?_
      rintro e W7 ⟨rfl, hb7⟩
      have HB7 : Hid (Below W.heap.size W W7) := Lib.hid (HB6.out.trans (hb7.mono HB6.out.size))
      clear hb7
      go_wp2
      go_ret
      exact ⟨by first | rfl | (simp; done), HB7.out⟩
    · have e5 : (x.f1 == 3) = false := by rw [beq_eq_false_iff_ne]; exact h3
      have hg4 := HQ.out hqlt h3
      have e6 : ((g : Int) == 4) = true := by rw [hg4]; rfl
      clear hq1 h3 hqlt hg4
      go_wp2_with fail
      refine (json_Same.calls kS (some ad) c l A4 c4 l true W5 (Kd.C_below HC.out.1 HB5.out) HC.out.2 HC5.out HC4.out.2 HSm.out).mono ?_
      rintro e W6 ⟨rfl, hb6⟩
      have HB6 : Hid (Below W.heap.size W W6) := Lib.hid (HB5.out.trans (hb6.below.mono HB5.out.size))
      clear hb6
      go_wp2_with fail
      refine (awake_any (tabs_below HT.out HB6.out)).mono ?_
      rintro e W7 ⟨rfl, hb7⟩
      have HB7 : Hid (Below W.heap.size W W7) := Lib.hid (HB6.out.trans (hb7.mono HB6.out.size))
      clear hb7
      go_wp2
      go_ret
      exact ⟨by first | rfl | (simp; done), HB7.out⟩
theorem u16_nat {i : Int} (h : (Lit.int .u16 i).wf = true) : ∃ n : Nat, i = n ∧ n < 65536 := by
  simp [Lit.wf, IntKind.min, IntKind.max, IntKind.signed, IntKind.bits] at h
  exact ⟨i.toNat, by omega, by omega⟩
theorem jsonBlanks_holds0 {W : World} (hT : Tabs W) (A : Option Addr) (c : Nat) (l : List S36) (hC : Kd.C k36 W A l.length l) (hc : l.length ≤ c) (hok : ∀ x ∈ l, okV x) (i : Int) (hi : (Lit.int .u16 i).wf = true) :
    Calls Tryd.prog 7 #[.slice A l.length c, .int .u16 i] W fun e w' => e = .returned (.bool true) ∧ Below W.heap.size W w' := by
  obtain ⟨k, r, hk, hr⟩ := light_1500 l
  obtain ⟨n, rfl, hn⟩ := u16_nat hi
  cases r with
  | false => exact blanks_bad hT A c l n hC hc k hk
  | true =>
    obtain ⟨hl, hbk⟩ := hr rfl
    by_cases h0 : checkM (l.map toV) = 0
    · have hne := (checkM_zero h0).2.1
      have hp : 0 < l.length := by
        rcases l with _ | ⟨a, l⟩
        · exact absurd rfl hne
        · simp
      obtain ⟨ad, rfl, _, h1, _⟩ := at_T36 hC 0 (by omega) (by omega)
      have e0 : rd_T36 l (0 : Int) = l[0] := rd_at l 0 hp
      rw [e0] at h1
      have h1' : W.cell? ⟨ad.block, ad.off + 1, none⟩ = some (.int .u8 l[0].f1) := by
        have : (ad.add ((0 : Int).toNat * 4)).block = ad.block ∧ (ad.add ((0 : Int).toNat * 4)).off = ad.off := by constructor <;> rfl
        rw [this.1, this.2] at h1; exact h1
      exact blanks_yes hT ad c l n hn hC hc hok hl hbk h0 l[0] (List.getElem?_eq_getElem hp) h1' k hk
    · exact blanks_no hT A c l n hn hC hc hok hl hbk h0 k hk
end Go.Proofs.YtbjidmijbphhgaaDoor
