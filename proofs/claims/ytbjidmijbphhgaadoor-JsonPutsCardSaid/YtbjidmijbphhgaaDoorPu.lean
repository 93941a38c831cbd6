import Derived.Test.YtbjidmijbphhgaaDoorKiO
import Derived.Test.YtbjidmijbphhgaaDoorRb
/- From the one print's values to the other's; what Light tells of them. -/
namespace Go.Proofs.YtbjidmijbphhgaaDoor
open Go.RowKit Go.Proofs.YtbjidmijbphhgaaDoorW.PrintWords
set_option linter.unusedVariables false

def cv (x : PJsonKids.S36) : PPut.S36 := ⟨x.f0, x.f1, x.f2, x.f3⟩
theorem cv_V (l : List PJsonKids.S36) : (l.map cv).map tV = l.map toV := by
  rw [List.map_map]; rfl
theorem kd_cv {w : World} {A : Option Addr} {l : List PJsonKids.S36} (h : Kd.C PJsonKids.k36 w A l.length l) : Kd.C PPut.k36 w A (l.map cv).length (l.map cv) := by
  have e : (l.map cv).length = l.length := List.length_map _
  refine ⟨rfl, by rw [e]; exact h.2.1, fun hn => ?_⟩
  obtain ⟨ad, ea, hc⟩ := h.2.2 (by omega)
  refine ⟨ad, ea, fun j p hj => ?_⟩
  rw [List.getElem?_map] at hj
  cases hx : l[j]? with
  | none => rw [hx] at hj; cases hj
  | some x =>
    rw [hx] at hj
    simp only [Option.map_some, Option.some.injEq] at hj
    subst hj
    obtain ⟨c, h1, h2, h3⟩ := hc j x hx
    have hcs := PJsonKids.k36_open h2
    exact ⟨c, h1, by rw [hcs]; exact PPut.k36_mk w (cv x), h3⟩
theorem wt_bulk (l : List PJsonKids.S36) : wt (l.map toV) = 6 * (l.map bulk).sum + 20 * l.length := by
  induction l with
  | nil => rfl
  | cons a l ih =>
    have e : wt ((a :: l).map toV) = 6 * a.f2.data.toList.length + 6 * a.f3.data.toList.length + 20 + wt (l.map toV) := by simp [wt, toV]
    have e2 : a.f2.data.toList.length = a.f2.size := by rw [← str_size, str_of]
    have e3 : a.f3.data.toList.length = a.f3.size := by rw [← str_size, str_of]
    rw [e, ih, e2, e3]
    simp only [List.map_cons, List.sum_cons, List.length_cons, bulk]
    omega
theorem bulk_le {l : List PJsonKids.S36} {x : PJsonKids.S36} (h : x ∈ l) : bulk x ≤ (l.map bulk).sum := by
  induction l with
  | nil => cases h
  | cons a l ih =>
    simp only [List.map_cons, List.sum_cons]
    rcases List.mem_cons.1 h with rfl | h
    · omega
    · have := ih h; omega
/-- The document's Put of what is light. -/
theorem put_light {l : List PJsonKids.S36} (hok : ∀ x ∈ l, okV x) (hl : l.length ≤ 600) (hb : (l.map bulk).sum ≤ 4000) : ∃ k, PPut.watchfireref24_Put.f k (l.map cv) = some (str (putM (l.map toV)).1, ((putM (l.map toV)).2 : Int)) := by
  have h := put_f (l.map cv) (fun x hx => by
    obtain ⟨y, hy, rfl⟩ := List.mem_map.1 hx
    exact (okV_kind (hok y hy)).1) 100000 (fun x hx => by
    obtain ⟨y, hy, rfl⟩ := List.mem_map.1 hx
    have h1 := bulk_le hy
    have h2 : bulk y = y.f2.size + y.f3.size := rfl
    have h3 : (cv y).f2 = y.f2 := rfl
    have h4 : (cv y).f3 = y.f3 := rfl
    rw [h3, h4]; omega) (by omega) (by omega) (by rw [cv_V, wt_bulk]; omega)
  rw [cv_V] at h
  exact h
end Go.Proofs.YtbjidmijbphhgaaDoor

/- JsonPuts, walked. -/
namespace Go.Proofs.YtbjidmijbphhgaaDoor
open Go.RowKit Go.Proofs.YtbjidmijbphhgaaDoorW.PrintWords PJsonKids
set_option linter.unusedVariables false
set_option linter.unusedSimpArgs false

set_option maxRecDepth 100000 in
set_option maxHeartbeats 2000000 in
theorem puts_bad {W : World} (hT : Tabs W) (A : Option Addr) (c : Nat) (l : List S36)
    (hC : Kd.C k36 W A l.length l) (hc : l.length ≤ c) (k : Nat) (hk : watchfireref24_Light.f k l 4000 = some false) :
    Calls Tryd.prog 3 #[.slice A l.length c] W fun e w' => e = .returned (.bool true) ∧ Below W.heap.size W w' := by
  have HT := Lib.hid hT
  have HC := Lib.hid (And.intro hC hc)
  have HK := Lib.hid hk
  clear hT hC hc hk
  go_enter Tryd.func3, Tryd.ntmps3
  go_wp2_with fail
  refine (watchfireref24_Light.calls k A c l 4000 false W HC.out.1 HC.out.2 HK.out).mono ?_
  rintro e W2 ⟨rfl, hb2⟩
  have HB2 := Lib.hid hb2
  clear hb2
  go_wp2_with fail
  refine (awake_any (tabs_below HT.out HB2.out)).mono ?_
  rintro e W3 ⟨rfl, hb3⟩
  have HB3 : Hid (Below W.heap.size W W3) := Lib.hid (HB2.out.trans (hb3.mono HB2.out.size))
  clear hb3
  go_wp2
  go_ret
  exact ⟨rfl, HB3.out⟩
theorem same_self (l : List S36) (hl : l.length ≤ 600) : ∀ (n i : Nat), i + n = l.length → watchfireref24_Same.l0 (n + 1) l l (i : Int) = some true
  | 0, i, h => by rw [watchfireref24_Same.l0, if_neg (by omega)]
  | n + 1, i, h => by
    have w1 : wrap64 ((i : Int) + 1) = ((i + 1 : Nat) : Int) := wrap_small ((i : Int) + 1) (by omega) (by omega)
    have ih := same_self l hl n (i + 1) (by omega)
    rw [watchfireref24_Same.l0, if_pos (by omega), if_pos (by omega), if_pos (by omega), w1, ih]
    simp
theorem same_self_f (l : List S36) (hl : l.length ≤ 600) : ∃ k, watchfireref24_Same.f k l l = some true := by
  refine ⟨l.length + 1, ?_⟩
  unfold watchfireref24_Same.f
  rw [if_pos (by omega)]
  exact same_self l hl l.length 0 (by omega)
theorem info36 : (Tryd.prog.info? 36).map (fun i => (i.zero, i.size, i.bytes)) = some (some (.agg #[.int .i64 0, .int .u8 0, .string ⟨#[]⟩, .string ⟨#[]⟩]), 4, 48) := by kernel_rfl
theorem putM_snd (l : List Val) : (putM l).2 = checkM l := by
  unfold putM; split
  · rename_i h; exact h.symm
  · rfl
theorem okV_val {x : S36} (h : okV x) : (toV x).ok := by
  have h2 := okV_kind h
  refine ⟨⟨?_, ?_, ?_⟩, h.1⟩
  · have : (toV x).name.length = x.f2.size := by show x.f2.data.toList.length = _; rw [← str_size, str_of]
    rw [this]; exact h.2.2.1
  · have : (toV x).text.length = x.f3.size := by show x.f3.data.toList.length = _; rw [← str_size, str_of]
    rw [this]; exact h.2.2.2
  · show x.f1.toNat < 256; omega
theorem empty_row (W : World) : Kd.R k36 36 (W.alloc (.cells #[] 36)) W.heap.size (fun _ => True) (.slice (some ⟨W.heap.size, 0, none⟩) 0 0) ([] : List S36) :=
  ⟨fun _ _ => trivial, [], World.ownsRow_made W #[] 0 (Nat.le_refl _) (by unfold maxLen; omega) (by simp), Reps.none _ _⟩
set_option maxRecDepth 100000 in
set_option maxHeartbeats 2000000 in
theorem puts_main {W : World} (hT : Tabs W) (A : Option Addr) (c : Nat) (l : List S36)
    (hC : Kd.C k36 W A l.length l) (hc : l.length ≤ c) (hok : ∀ x ∈ l, okV x) (hl : l.length ≤ 600) (hbk : (l.map bulk).sum ≤ 4000) (k : Nat) (hk : watchfireref24_Light.f k l 4000 = some true) :
    Calls Tryd.prog 3 #[.slice A l.length c] W fun e w' => e = .returned (.bool true) ∧ Below W.heap.size W w' := by
  have HT := Lib.hid hT
  have HC := Lib.hid (And.intro hC hc)
  have HK := Lib.hid hk
  have HO := Lib.hid (And.intro hok (And.intro hl hbk))
  clear hT hC hc hk hok hl hbk
  go_enter Tryd.func3, Tryd.ntmps3
  go_wp2_with fail
  refine (watchfireref24_Light.calls k A c l 4000 true W HC.out.1 HC.out.2 HK.out).mono ?_
  rintro e W2 ⟨rfl, hb2⟩
  have HB2 := Lib.hid hb2
  clear hb2
  have hls : ∀ w : World, (Instr.buildSlice 22 0 #[]).run Tryd.prog w = .ok (.slice (some ⟨w.heap.size, 0, none⟩) 0 0) (w.alloc (.cells #[] 36)) := fun w => by first | (go_simp; done) | (go_simp; rfl)
  go_wp2_with (first | ((with_reducible refine gate_builtin (b := .append) (xs := #[.tmp 12, .tmp 13]) rfl ?_); at_builtin; refine Kd.R_append_rows k36 (Rr := k36.K (W2.alloc (.cells #[] 36))) (w0 := W2) W2.heap.size rfl (.tmp 12) (.tmp 13) 22 36 _ 48 rfl Tryd.underlying22 info36 rfl (by decide) (by omega) _ [] l A l.length c (fun _ => True) (fun _ => False) rfl rfl (empty_row W2) (Kd.C_below HC.out.1 (HB2.out.trans (((Below.refl W2.heap.size W2).alloc (Nat.le_refl _) _).mono HB2.out.size))) ?aK (fun _ hk => hk.elim) (fun _ _ => trivial) ((Below.refl W2.heap.size W2).alloc (Nat.le_refl _) _) (by simp) ?aL ?_))
  case aL => have := HO.out.2.1; show (0 + l.length) * 48 ≤ _; omega
  case aK => exact fun x cs h => h
  intro v1 W3 hR hb3 _ _
  obtain ⟨A1, c1, rfl, hc1, hC1⟩ := Kd.R_reads hR
  have HB3 := Lib.hid (HB2.out.trans (hb3.mono HB2.out.size))
  have HC1 := Lib.hid (And.intro hC1 hc1)
  clear hR hb3 hC1 hc1 hls
  obtain ⟨pm, hpm⟩ : ∃ pm, putM (l.map toV) = pm := ⟨_, rfl⟩
  have HP := Lib.hid hpm
  clear hpm
  have hroom : Hid (wt (l.map toV) ≤ 140737488350000) := by
    have := wt_bulk l; have h2 := HO.out.2.1; have h3 := HO.out.2.2
    exact Lib.hid (by omega)
  have HV : Hid (∀ v ∈ l.map toV, v.ok) := Lib.hid (fun v hv => by
    obtain ⟨x, hx, rfl⟩ := List.mem_map.1 hv
    exact okV_val (HO.out.1 x hx))
  have HM : Hid ((l.map toV).length ≤ maxLen) := Lib.hid (by rw [List.length_map]; have := HO.out.2.1; unfold maxLen; omega)
  go_wp2_with fail
  refine (put_any (tabs_below HT.out HB3.out) (lst_of HC1.out.1 HO.out.1 c1) HM.out HV.out hroom.out).mono ?_
  rw [HP.out]
  rintro e W4 ⟨rfl, hb4⟩
  have HB4 := Lib.hid (HB3.out.trans (hb4.mono HB3.out.size))
  have HC4 := Lib.hid (Kd.C_below HC1.out.1 hb4)
  clear hb4
  obtain ⟨k2, hk2⟩ := put_light HO.out.1 HO.out.2.1 HO.out.2.2
  rw [HP.out] at hk2
  have HK2 := Lib.hid hk2
  clear hk2
  have ecv : (l.map cv).length = l.length := List.length_map _
  have HE := Lib.hid ecv
  clear ecv
  go_wp2_with fail
  have hput := PPut.watchfireref24_Put.calls k2 A c (l.map cv) (str pm.1) (pm.2 : Int) W4 (kd_cv (Kd.C_below HC.out.1 HB4.out)) (by rw [HE.out]; exact HC.out.2) HK2.out
  rw [HE.out] at hput
  refine hput.mono ?_
  rintro e W5 ⟨rfl, hb5⟩
  have HB5 := Lib.hid (HB4.out.trans (hb5.mono HB4.out.size))
  have HC5 := Lib.hid (Kd.C_below HC4.out hb5)
  clear hb5 hput
  have hyy : ((pm.2 : Int) == (pm.2 : Int)) = true := by simp
  go_wp2_with fail
  have hcheck := check_calls (tabs_below HT.out HB5.out) (lst_of (Kd.C_below HC.out.1 HB5.out) HO.out.1 c) HM.out HV.out
  have hcm : (checkM (l.map toV) : Nat) = pm.2 := by rw [← putM_snd, HP.out]
  rw [hcm] at hcheck
  clear hcm
  refine hcheck.mono ?_
  rintro e W6 ⟨rfl, hb6⟩
  have HB6 := Lib.hid (HB5.out.trans (hb6.mono HB5.out.size))
  have HC6 := Lib.hid (Kd.C_below HC5.out hb6)
  clear hb6 hcheck
  obtain ⟨kS, hS⟩ := same_self_f l HO.out.2.1
  have HS := Lib.hid hS
  clear hS
  go_wp2_with fail
  refine (watchfireref24_Same.calls kS A1 c1 l A c l true W6 HC6.out HC1.out.2 (Kd.C_below HC.out.1 HB6.out) HC.out.2 HS.out).mono ?_
  rintro e W7 ⟨rfl, hb7⟩
  have HB7 := Lib.hid (HB6.out.trans (hb7.below.mono HB6.out.size))
  clear hb7
  go_wp2_with fail
  refine (awake_any (tabs_below HT.out HB7.out)).mono ?_
  rintro e W8 ⟨rfl, hb8⟩
  have HB8 := Lib.hid (HB7.out.trans (hb8.mono HB7.out.size))
  clear hb8
  go_wp2
  go_ret
  exact ⟨by first | rfl | (simp; done), HB8.out⟩
theorem jsonPuts_holds0 {W : World} (hT : Tabs W) (A : Option Addr) (c : Nat) (l : List S36) (hC : Kd.C k36 W A l.length l) (hc : l.length ≤ c) (hok : ∀ x ∈ l, okV x) :
    Calls Tryd.prog 3 #[.slice A l.length c] W fun e w' => e = .returned (.bool true) ∧ Below W.heap.size W w' := by
  obtain ⟨k, r, hk, hr⟩ := light_f l
  cases r with
  | false => exact puts_bad hT A c l hC hc k hk
  | true => exact puts_main hT A c l hC hc hok (hr rfl).1 (hr rfl).2 k hk
end Go.Proofs.YtbjidmijbphhgaaDoor
