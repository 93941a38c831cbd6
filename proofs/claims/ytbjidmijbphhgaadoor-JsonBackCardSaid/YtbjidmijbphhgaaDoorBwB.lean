/- JsonBack, walked. -/
import Derived.Test.YtbjidmijbphhgaaDoorBwO
namespace Go.Proofs.YtbjidmijbphhgaaDoor
open Go.RowKit Go.Proofs.YtbjidmijbphhgaaDoorW.PrintWords PJsonKids
set_option linter.unusedVariables false
set_option linter.unusedSimpArgs false

set_option maxRecDepth 100000 in
set_option maxHeartbeats 2000000 in
theorem back_bad {W : World} (hT : Tabs W) (A : Option Addr) (c : Nat) (l : List S36) (s : ByteArray)
    (hC : Kd.C k36 W A l.length l) (hc : l.length ≤ c) (k : Nat) (hk : watchfireref24_Light.f k l 4000 = some false) :
    Calls Tryd.prog 6 #[.slice A l.length c, .string s] W fun e w' => e = .returned (.bool true) ∧ Below W.heap.size W w' := by
  have HT := Lib.hid hT
  have HC := Lib.hid (And.intro hC hc)
  have HK := Lib.hid hk
  clear hT hC hc hk
  go_enter Tryd.func6, Tryd.ntmps6
  go_wp2_with fail
  refine (watchfireref24_Light.calls k A c l 4000 false W HC.out.1 HC.out.2 HK.out).mono ?_
  rintro e W2 ⟨rfl, hb2⟩
  have HB2 := Lib.hid hb2
  clear hb2
  go_wp2_with fail
  refine (awake_any (tabs_below HT.out HB2.out)).mono ?_
  rintro e W3 ⟨rfl, hb3⟩
  have HB3 : Hid (Below W.heap.size W W3) := Lib.hid (HB2.out.trans (hb3.mono HB2.out.size))
  clear hb3
  go_wp2
  go_ret
  exact ⟨rfl, HB3.out⟩
set_option maxRecDepth 100000 in
set_option maxHeartbeats 2000000 in
theorem back_long {W : World} (hT : Tabs W) (A : Option Addr) (c : Nat) (l : List S36) (s : ByteArray)
    (hC : Kd.C k36 W A l.length l) (hc : l.length ≤ c) (k : Nat) (hk : watchfireref24_Light.f k l 4000 = some true) (hs : 3000 < s.size) (hm : s.size ≤ maxLen) :
    Calls Tryd.prog 6 #[.slice A l.length c, .string s] W fun e w' => e = .returned (.bool true) ∧ Below W.heap.size W w' := by
  have HT := Lib.hid hT
  have HC := Lib.hid (And.intro hC hc)
  have HK := Lib.hid hk
  unfold maxLen at hm
  have hz : decide ((3000 : Int) < (s.size : Int)) = true := by simp; omega
  clear hT hC hc hk
  go_enter Tryd.func6, Tryd.ntmps6
  go_wp2_with fail
  refine (watchfireref24_Light.calls k A c l 4000 true W HC.out.1 HC.out.2 HK.out).mono ?_
  rintro e W2 ⟨rfl, hb2⟩
  have HB2 := Lib.hid hb2
  clear hb2
  go_wp2_with fail
  refine (awake_any (tabs_below HT.out HB2.out)).mono ?_
  rintro e W3 ⟨rfl, hb3⟩
  have HB3 : Hid (Below W.heap.size W W3) := Lib.hid (HB2.out.trans (hb3.mono HB2.out.size))
  clear hb3
  go_wp2
  go_ret
  exact ⟨rfl, HB3.out⟩
/-- What is asked of the second half. -/
structure BkAt (W W1 : World) : Prop where
  bel : Below W.heap.size W W1
theorem str_eq (s : ByteArray) : s = str s.data.toList := (str_of s).symm
/-- What the first half has said. -/
def FirstHalf (W W1 : World) : Prop := Below W.heap.size W W1
set_option maxRecDepth 100000 in
set_option maxHeartbeats 4000000 in
theorem back_main {W : World} (hT : Tabs W) (A : Option Addr) (c : Nat) (l : List S36) (s : Bytes)
    (hC : Kd.C k36 W A l.length l) (hc : l.length ≤ c) (hok : ∀ x ∈ l, okV x) (hl : l.length ≤ 600) (hbk : (l.map bulk).sum ≤ 4000) (k : Nat) (hk : watchfireref24_Light.f k l 4000 = some true) (hs : s.length ≤ 3000) :
    Calls Tryd.prog 6 #[.slice A l.length c, .string (str s)] W fun e w' => e = .returned (.bool true) ∧ Below W.heap.size W w' := by
  have HT := Lib.hid hT
  have HC := Lib.hid (And.intro hC hc)
  have HK := Lib.hid hk
  have HO := Lib.hid (And.intro hok (And.intro hl hbk))
  have HS := Lib.hid hs
  have hsz := str_size s
  have hz : decide ((3000 : Int) < ((str s).size : Int)) = false := by rw [hsz]; simp; omega
  have hroom : Hid (wt (l.map toV) ≤ 140737488350000) := by
    have := wt_vol (l.map toV); rw [bulk_vol, List.length_map] at this
    exact Lib.hid (by omega)
  have HV : Hid (∀ v ∈ l.map toV, v.ok) := Lib.hid (fun v hv => by
    obtain ⟨x, hx, rfl⟩ := List.mem_map.1 hv
    exact okV_val' (hok x hx))
  have HM : Hid ((l.map toV).length ≤ maxLen) := Lib.hid (by rw [List.length_map]; unfold maxLen; omega)
  clear hT hC hc hk hok hl hbk hs hsz
  go_enter Tryd.func6, Tryd.ntmps6
  go_wp2_with fail
  refine (watchfireref24_Light.calls k A c l 4000 true W HC.out.1 HC.out.2 HK.out).mono ?_
  rintro e W2 ⟨rfl, hb2⟩
  have HB2 := Lib.hid hb2
  clear hb2
  go_wp2_with fail
  refine (put_any (tabs_below HT.out HB2.out) (lst_of (Kd.C_below HC.out.1 HB2.out) HO.out.1 c) HM.out HV.out hroom.out).mono ?_
  by_cases h0 : checkM (l.map toV) = 0
  case' pos =>
    rw [putM_ok h0]
    rintro e W3 ⟨rfl, hb3⟩
    have HB3 : Hid (Below W.heap.size W W3) := Lib.hid (HB2.out.trans (hb3.mono HB2.out.size))
    have hlen : (textM (l.map toV)).length ≤ 65536 := by
      have h1 := text_room h0
      have h2 := wt_vol (l.map toV)
      have h3 := (checkM_zero h0).1
      rw [bulk_vol] at h2
      have := HO.out.2.2
      omega
    have hrb := read_back h0 (a := []) (b := []) (by simp) (by simp) (by simpa using hlen)
    simp only [List.nil_append, List.append_nil] at hrb
    have HR := Lib.hid hrb
    have HL : Hid ((textM (l.map toV)).length ≤ maxLen) := Lib.hid (by unfold maxLen; omega)
    have H0 := Lib.hid h0
    clear hb3 hlen hrb h0
    obtain ⟨t, ht⟩ : ∃ t, textM (l.map toV) = t := ⟨_, rfl⟩
    rw [ht] at HR HL ⊢
    clear ht
    have e0 : (((0 : Nat) : Int) == 0) = true := rfl
    have e1 : ((0 : Int) != 0) = false := rfl
    go_wp2_with fail
    have hread := read_any (tabs_below HT.out HB3.out) HL.out
    rw [HR.out] at hread
    refine hread.mono ?_
    rintro e W4 ⟨hb4, V, rfl, hown, hfew⟩
    obtain ⟨A4, c4, rfl, hc4⟩ := own_slice hown
    obtain ⟨A5, c5, hV, hC4⟩ := kdC_lst hown.lst (by have := HM.out; unfold maxLen at this; omega)
    cases hV
    have HB4 : Hid (Below W.heap.size W W4) := Lib.hid (HB3.out.trans (hb4.mono HB3.out.size))
    rw [map_ofV HO.out.1] at hC4
    have hln : (l.map toV).length = l.length := List.length_map _
    rw [hln] at hc4 ⊢
    have HC4 := Lib.hid (And.intro hC4 hc4)
    clear hread hown hfew hb4 hC4 hc4 hln
    obtain ⟨kS, hS⟩ := jsame_f l HO.out.2.1
    have HSm := Lib.hid hS
    clear hS
    go_wp2_with fail
    refine (json_Same.calls kS A c l A4 c4 l true W4 (Kd.C_below HC.out.1 HB4.out) HC.out.2 HC4.out.1 HC4.out.2 HSm.out).mono ?_
    rintro e W5 ⟨rfl, hb5⟩
    have HB5 : Hid (Below W.heap.size W W5) := Lib.hid (HB4.out.trans (hb5.below.mono HB4.out.size))
    clear hb5
    go_wp2_with fail
  case' neg =>
    rw [putM_no h0]
    rintro e W5 ⟨rfl, hb3⟩
    have HB5 : Hid (Below W.heap.size W W5) := Lib.hid (HB2.out.trans (hb3.mono HB2.out.size))
    clear hb3
    obtain ⟨n, hn⟩ : ∃ n, checkM (l.map toV) = n := ⟨_, rfl⟩
    rw [hn] at h0 ⊢
    have e0 : ((n : Int) == 0) = false := by rw [beq_eq_false_iff_ne]; omega
    clear hn h0
    go_wp2_with fail
  all_goals
    have hread := read_any (tabs_below HT.out HB5.out) (s := s) (by have := HS.out; unfold maxLen; omega)
    refine hread.mono ?_
    clear hread
    cases hres : readM s with
    | error m =>
      rintro e W6 ⟨hb6, rfl⟩
      have hm := read_err hres
      have HB6 : Hid (Below W.heap.size W W6) := Lib.hid (HB5.out.trans (hb6.mono HB5.out.size))
      have e2 : ((m : Int) != 0) = true := by rw [bne_iff_ne]; unfold isErr at hm; omega
      clear hb6 hm hres
      go_wp2_with fail
      refine (awake_any (tabs_below HT.out HB6.out)).mono ?_
      rintro e W7 ⟨rfl, hb7⟩
      have HB7 : Hid (Below W.heap.size W W7) := Lib.hid (HB6.out.trans (hb7.mono HB6.out.size))
      clear hb7
      go_wp2
      go_ret
      exact ⟨by first | rfl | (simp; done), HB7.out⟩
    | ok m =>
      rintro e W6 ⟨hb6, V, rfl, hown, hfew⟩
      obtain ⟨hcm, hvol⟩ := read_check hres
      have HB6 : Hid (Below W.heap.size W W6) := Lib.hid (HB5.out.trans (hb6.mono HB5.out.size))
      obtain ⟨A6, c6, rfl, hc6⟩ := own_slice hown
      obtain ⟨A7, c7, hV, hC6⟩ := kdC_lst hown.lst (by omega)
      cases hV
      have hln : (m.map ofV).length = m.length := List.length_map _
      rw [hln] at hC6
      have hroom2 : wt m ≤ 60000 := by
        have h1 := wt_vol m
        have := HS.out
        omega
      have hlen : (textM m).length ≤ 65536 := by have := text_room hcm; omega
      have hrb := read_back hcm (a := []) (b := []) (by simp) (by simp) (by simpa using hlen)
      simp only [List.nil_append, List.append_nil] at hrb
      have HR2 := Lib.hid hrb
      have HL2 : Hid ((textM m).length ≤ maxLen) := Lib.hid (by unfold maxLen; omega)
      have HP2 := Lib.hid (putM_ok hcm)
      have HLst : Hid (Lst W6 (.slice A6 m.length c6) m) := Lib.hid hown.lst
      have HV2 : Hid (∀ v ∈ m, v.ok) := Lib.hid (check_ok hcm (by have := HS.out; omega))
      have HM2 : Hid (m.length ≤ maxLen ∧ m.length ≤ 512 ∧ wt m ≤ 140737488350000) := Lib.hid ⟨by unfold maxLen; omega, hfew, by omega⟩
      have HC6 := Lib.hid (And.intro hC6 hc6)
      have HCM := Lib.hid hcm
      obtain ⟨kS2, hS2⟩ := jsame_f (m.map ofV) (by rw [hln]; omega)
      have HS2 := Lib.hid hS2
      obtain ⟨t2, ht2⟩ : ∃ t, textM m = t := ⟨_, rfl⟩
      rw [ht2] at HR2 HL2 HP2
      have HLN := Lib.hid hln
      have e3 : ((0 : Int) != 0) = false := rfl
      have e4 : ((0 : Int) == 0) = true := rfl
      clear hb6 hres hown hfew hcm hvol hc6 hC6 hln hroom2 hlen hrb hS2 ht2
      go_wp2_with fail
      have hput := put_any (tabs_below HT.out HB6.out) HLst.out HM2.out.1 HV2.out HM2.out.2.2
      rw [HP2.out] at hput
      refine hput.mono ?_
      rintro e W7 ⟨rfl, hb7⟩
      have HB7 : Hid (Below W.heap.size W W7) := Lib.hid (HB6.out.trans (hb7.mono HB6.out.size))
      have HLst7 := Lib.hid (HLst.out.below hb7)
      have HC7 := Lib.hid (Kd.C_below (by rw [HLN.out]; exact HC6.out.1) hb7 : Kd.C k36 W7 A6 (m.map ofV).length (m.map ofV))
      clear hb7 hput
      go_wp2_with fail
      have hread := read_any (tabs_below HT.out HB7.out) HL2.out
      rw [HR2.out] at hread
      refine hread.mono ?_
      rintro e W8 ⟨hb8, V8, rfl, hown8, -⟩
      obtain ⟨A8, c8, rfl, hc8⟩ := own_slice hown8
      obtain ⟨A9, c9, hV, hC8⟩ := kdC_lst hown8.lst (by have := HM2.out.1; unfold maxLen at this; omega)
      cases hV
      have HB8 : Hid (Below W.heap.size W W8) := Lib.hid (HB7.out.trans (hb8.mono HB7.out.size))
      have HLst8 := Lib.hid (HLst7.out.below hb8)
      have HC8 := Lib.hid (Kd.C_below HC7.out hb8)
      have HN8 : Hid (Lst W8 (.slice A8 m.length c8) m) := Lib.hid hown8.lst
      have HNC8 := Lib.hid (And.intro hC8 hc8)
      clear hread hown8 hb8 hC8 hc8
      go_wp2_with fail
      have hput := put_any (tabs_below HT.out HB8.out) HN8.out HM2.out.1 HV2.out HM2.out.2.2
      rw [HP2.out] at hput
      refine hput.mono ?_
      rintro e W9 ⟨rfl, hb9⟩
      have HB9 : Hid (Below W.heap.size W W9) := Lib.hid (HB8.out.trans (hb9.mono HB8.out.size))
      have HLst9 := Lib.hid (HLst8.out.below hb9)
      have HC9 := Lib.hid (Kd.C_below HC8.out hb9)
      have HNC9 := Lib.hid (Kd.C_below HNC8.out.1 hb9)
      clear hb9 hput
      go_wp2_with fail
      have hsame := json_Same.calls kS2 A6 c6 (m.map ofV) A8 c8 (m.map ofV) true W9 HC9.out (by rw [HLN.out]; exact HC6.out.2) HNC9.out (by rw [HLN.out]; exact HNC8.out.2) HS2.out
      rw [HLN.out] at hsame
      refine hsame.mono ?_
      rintro e W10 ⟨rfl, hb10⟩
      have HB10 : Hid (Below W.heap.size W W10) := Lib.hid (HB9.out.trans (hb10.below.mono HB9.out.size))
      have HLst10 := Lib.hid (HLst9.out.below hb10.below)
      clear hb10 hsame
      go_wp2_with fail
      have hcheck := check_calls (tabs_below HT.out HB10.out) HLst10.out HM2.out.1 HV2.out
      rw [HCM.out] at hcheck
      refine hcheck.mono ?_
      rintro e W11 ⟨rfl, hb11⟩
      have HB11 : Hid (Below W.heap.size W W11) := Lib.hid (HB10.out.trans (hb11.mono HB10.out.size))
      clear hb11 hcheck
      have e5 : (((0 : Nat) : Int) == 0) = true := rfl
      go_wp2_with fail
      refine (awake_any (tabs_below HT.out HB11.out)).mono ?_
      rintro e W12 ⟨rfl, hb12⟩
      have HB12 : Hid (Below W.heap.size W W12) := Lib.hid (HB11.out.trans (hb12.mono HB11.out.size))
      clear hb12
      go_wp2
      go_ret
      exact ⟨by first | rfl | (simp; done), HB12.out⟩
theorem jsonBack_holds0 {W : World} (hT : Tabs W) (A : Option Addr) (c : Nat) (l : List S36) (hC : Kd.C k36 W A l.length l) (hc : l.length ≤ c) (hok : ∀ x ∈ l, okV x) (s : ByteArray) (hm : s.size ≤ maxLen) :
    Calls Tryd.prog 6 #[.slice A l.length c, .string s] W fun e w' => e = .returned (.bool true) ∧ Below W.heap.size W w' := by
  obtain ⟨k, r, hk, hr⟩ := light_f l
  cases r with
  | false => exact back_bad hT A c l s hC hc k hk
  | true =>
    by_cases hs : 3000 < s.size
    · exact back_long hT A c l s hC hc k hk hs hm
    · have := back_main hT A c l s.data.toList hC hc hok (hr rfl).1 (hr rfl).2 k hk (by rw [← str_size, str_of]; omega)
      rw [str_of] at this
      exact this
end Go.Proofs.YtbjidmijbphhgaaDoor
