/- request: Parse of alerts that were put. -/
import Derived.Test.YtcdeikhfmllkdaaGreatDoorRpH
import Derived.Test.YtcdeikhfmllkdaaGreatDoorRpK
import Derived.Test.YtcdeikhfmllkdaaGreatDoorRwE
import Derived.Deep.RegionWith
namespace Go.Proofs.YtcdeikhfmllkdaaGreatDoor
open Go.RowKit
set_option linter.unusedVariables false
set_option linter.unusedSimpArgs false
theorem Own.below {w w' : World} {B : Nat} {V : Value} {l : List Val} (h : Own w B V l) (b : Below w.heap.size w w') : Own w' B V l := h.kept (fun k hk => b.block _ (h.lt hk).2)
/-- The reader's alert answers, of places of alerts. -/
def AlertOk (w : World) (l : List AlM) : Prop := ∀ (w1 : World) (r p : Nat) (V : Value), Below w.heap.size w w1 → Rdr w1 r V (alertsM l) → p ∈ places 1 l → Calls Tryz.prog 46 #[.pointer (some ⟨r, 0, none⟩), .int .i64 p] w1 fun e w' => (∃ pL n cL s t, e = .returned (.agg #[.slice pL n cL, .int .i64 s, .int .i64 t])) ∧ Below w1.heap.size w1 w'
set_option maxHeartbeats 8000000 in
set_option maxRecDepth 100000 in
theorem Parse_post {w : World} (hT : Tabs w) {l : List AlM} (HA : AlertOk w l) (s : Bytes) (hs : s.length + 13 ≤ 65536) (hr : readM s = .ok (alertsM l)) (h30 : l.length ≤ 30) (h481 : (alertsM l).length ≤ 481) :
    Calls Tryz.prog 12 #[.string (str (postB ++ 10 :: s))] w fun e w' => (∃ p cap, e = .returned (.tuple #[.agg #[.int .u8 1, .slice p l.length cap, .string ⟨#[]⟩, .slice none 0 0, .int .i64 0, .int .i64 0, .string ⟨#[]⟩, .slice none 0 0], .int .i64 0])) ∧ Below w.heap.size w w' := by
  obtain ⟨i0, hi0, iz0, iz1, iz2⟩ := info_parts Tryz.info65
  obtain ⟨S, hS⟩ : ∃ S, str (postB ++ 10 :: s) = S := ⟨_, rfl⟩
  have hsz : S.size = s.length + 13 := by rw [← hS, str_size]; simp [postB]
  have hd : decide ((65536 : Int) < (S.size : Int)) = false := decide_eq_false (by omega)
  have HCt : Hid (∀ w1, Below w.heap.size w w1 → Calls Tryz.prog 42 #[.string S, .string ⟨#[10]⟩] w1 fun e w' => e = .returned (.tuple #[.string (str postB), .string (str s), .bool true]) ∧ Below w1.heap.size w1 w') := by
    refine Lib.hid (fun w1 hb => ?_)
    obtain ⟨mx, hmx⟩ := (tabs_bel hT hb).2
    have h := Any.strings_Cut Tryz.laysCut S ⟨#[10]⟩ mx w1 (by omega) hmx
    rw [show (⟨#[10]⟩ : ByteArray).data.toList = [10] from rfl, ← hS, str_toList, cut_post] at h
    rw [← hS]
    exact h.mono fun e w' ⟨he, n, hn⟩ => ⟨he, by rw [hn]; exact below_drewN (Below.refl _ _) n⟩
  have HRd : Hid (∀ w1, Below w.heap.size w w1 → Calls Tryz.prog 28 #[.string (str s)] w1 fun e w' => (∃ p cap, e = .returned (.tuple #[.slice p (alertsM l).length cap, .int .i64 0]) ∧ Own w' w1.heap.size (.slice p (alertsM l).length cap) (alertsM l)) ∧ Below w1.heap.size w1 w') := by
    refine Lib.hid (fun w1 hb => ?_)
    have h := read_any (tabs_bel hT hb) (s := s) (by unfold maxLen; omega)
    rw [hr] at h
    refine h.mono fun e w' ⟨hb', V, he, ho, _⟩ => ⟨?_, hb'⟩
    obtain ⟨p, cap, rfl⟩ := ho.form
    exact ⟨p, cap, he, ho⟩
  have HL := Lib.hid line_post
  have HAl := Lib.hid HA
  obtain ⟨P, hP⟩ : ∃ P, str postB = P := ⟨_, rfl⟩
  obtain ⟨T, hTt⟩ : ∃ T, str s = T := ⟨_, rfl⟩
  rw [hS]
  rw [hP] at HCt HL
  rw [hTt] at HCt HRd
  have h0 := alertsM_zero l
  have hl0 := (List.getElem?_eq_some_iff.1 h0).1
  have H00 := Lib.hid h0
  clear hS hsz hT HA hr hP hTt hs h0
  go_enter Tryz.func12, Tryz.ntmps12
  go_upto_region 3 with fail
  generalize hW1 : w.alloc _ = w1
  have H1 : Hid (w1.heap[w.heap.size]? = some (.cells rq0 29) ∧ Below w.heap.size w w1) := by subst hW1; exact Lib.hid ⟨heap_alloc_new _ _, (Below.refl _ _).alloc (Nat.le_refl _) _⟩
  clear hW1
  go_upto_region 7 with (first
    | (go_at_call 42; refine (HCt.out _ H1.out.2).mono ?_; rintro e w2 ⟨rfl, hb2⟩; have H2 : Hid (w2.heap[w.heap.size]? = some (.cells rq0 29) ∧ Below w.heap.size w w2) := Lib.hid ⟨(hb2.block _ (Array.getElem?_eq_some_iff.1 H1.out.1).1).trans H1.out.1, H1.out.2.trans (hb2.mono H1.out.2.size)⟩; clear hb2)
    | (go_at_call 43; refine (HL.out _).mono ?_; rintro e w3 ⟨rfl, hb3⟩; have H3 : Hid (w3.heap[w.heap.size]? = some (.cells rq0 29) ∧ Below w.heap.size w w3) := Lib.hid ⟨(hb3.block _ (Array.getElem?_eq_some_iff.1 H2.out.1).1).trans H2.out.1, H2.out.2.trans (hb3.mono H2.out.2.size)⟩; clear hb3))
  have H4 : Hid ((w3.alloc (.cells #[.int .u8 1, .slice none 0 0, .string ⟨#[]⟩, .slice none 0 0, .int .i64 0, .int .i64 0, .string ⟨#[]⟩, .slice none 0 0] 29)).heap[w.heap.size]? = some (.cells rq0 29) ∧ (w3.alloc (.cells #[.int .u8 1, .slice none 0 0, .string ⟨#[]⟩, .slice none 0 0, .int .i64 0, .int .i64 0, .string ⟨#[]⟩, .slice none 0 0] 29)).heap[w3.heap.size]? = some (.cells rqPost 29) ∧ Below w.heap.size w (w3.alloc (.cells #[.int .u8 1, .slice none 0 0, .string ⟨#[]⟩, .slice none 0 0, .int .i64 0, .int .i64 0, .string ⟨#[]⟩, .slice none 0 0] 29)) ∧ w.heap.size < w3.heap.size) := by
    have hl3 := (Array.getElem?_eq_some_iff.1 H3.out.1).1
    exact Lib.hid ⟨(heap_alloc_old _ _ hl3).trans H3.out.1, heap_alloc_new _ _, H3.out.2.alloc (Nat.le_of_lt hl3) _, hl3⟩
  clear H1 H2 H3 HCt HL
  generalize w3.heap.size = b at H4 ⊢
  generalize w3.alloc _ = w4 at H4 ⊢
  have c0 : w4.cell? ⟨b, 0, none⟩ = some (.int .u8 1) := (cells_of H4.out.2.1 0).1
  have HR4 := Lib.hid (HRd.out w4 H4.out.2.2.1)
  go_upto_region 14 with (first
    | (go_at_call 28; refine HR4.out.mono ?_; rintro e w5 ⟨⟨p, cap, rfl, ho⟩, hb5⟩; have H5 := Lib.hid (And.intro ho hb5); clear ho hb5))
  have hb5 := H5.out.2
  have hb4 := H4.out.2.2.1
  have hlb4 := (Array.getElem?_eq_some_iff.1 H4.out.2.1).1
  have hlw4 := (Array.getElem?_eq_some_iff.1 H4.out.1).1
  have H6 : Hid ((w5.alloc (.cells #[.slice p (alertsM l).length cap, .bool false] 83)).heap[w.heap.size]? = some (.cells rq0 29) ∧ (w5.alloc (.cells #[.slice p (alertsM l).length cap, .bool false] 83)).heap[b]? = some (.cells rqPost 29) ∧ Below w.heap.size w (w5.alloc (.cells #[.slice p (alertsM l).length cap, .bool false] 83)) ∧ w.heap.size < b ∧ b < w4.heap.size ∧ Own (w5.alloc (.cells #[.slice p (alertsM l).length cap, .bool false] 83)) w4.heap.size (.slice p (alertsM l).length cap) (alertsM l) ∧ (w5.alloc (.cells #[.slice p (alertsM l).length cap, .bool false] 83)).heap[w5.heap.size]? = some (.cells #[.slice p (alertsM l).length cap, .bool false] 83) ∧ b < w5.heap.size) := by
    have ha : Below w5.heap.size w5 (w5.alloc (.cells #[.slice p (alertsM l).length cap, .bool false] 83)) := (Below.refl _ _).alloc (Nat.le_refl _) _
    have hbb := hb5.trans (ha.mono hb5.size)
    exact Lib.hid ⟨(hbb.block _ hlw4).trans H4.out.1, (hbb.block _ hlb4).trans H4.out.2.1, hb4.trans (hbb.mono hb4.size), H4.out.2.2.2, hlb4, H5.out.1.below ha, heap_alloc_new _ _, Nat.lt_of_lt_of_le hlb4 hb5.size⟩
  clear hb5 hb4 hlb4 hlw4 HR4 HRd c0
  go_upto_region 17 with fail
  clear H4 H5
  generalize w5.heap.size = r at H6 ⊢
  generalize w4.heap.size = B4 at H6
  generalize w5.alloc _ = w6 at H6 ⊢
  have c0 : w6.cell? ⟨b, 0, none⟩ = some (.int .u8 1) := (cells_of H6.out.2.1 0).1
  have hLst : Lst w6 (.slice p (alertsM l).length cap) (alertsM l) := H6.out.2.2.2.2.2.1.lst
  obtain ⟨a, cap', e, k0, k1, k2, k3⟩ := hLst.at H00.out
  simp only [Value.slice.injEq] at e
  obtain ⟨rfl, -, rfl⟩ := e
  have k1' : w6.cell? ⟨a.block, a.off + 1, none⟩ = some (.int .u8 5) := by
    have ea : a.add (0 * 4) = a := rfl
    rw [ea] at k1
    exact k1
  clear k0 k1 k2 k3
  have HN6 := Lib.hid (rneed_yes (⟨H6.out.2.2.2.2.2.2.1, hLst⟩ : Rdr w6 r _ (alertsM l)))
  have HL6 := Lib.hid hLst
  have hlen : (alertsM l).length ≤ 100000 := by omega
  have HK6 : Hid (Calls Tryz.prog 26 #[.slice (some a) (alertsM l).length cap, .int .i64 0] w6 fun e w' => (∃ pO cO, e = .returned (.slice pO l.length cO) ∧ Ints w' w6.heap.size (.slice pO l.length cO) (places 1 l)) ∧ Below w6.heap.size w6 w') := Lib.hid (by
    have h := Kids_any hLst hlen 0
    rw [kids_root] at h
    refine h.mono fun e w' ⟨⟨O, he, hO⟩, hb⟩ => ⟨?_, hb⟩
    obtain ⟨pO, cO, e', -, -⟩ := hO.form
    rw [places_len] at e'
    subst e'
    exact ⟨pO, cO, he, hO⟩)
  clear hLst
  go_upto_region 20 with (first
    | (go_at_call 45; refine HN6.out.mono ?_; rintro e w7 ⟨rfl, hw⟩; rw [hw]; clear hw))
  go_upto_region 21 with (first
    | (go_at_call 26; refine HK6.out.mono ?_; rintro e w7 ⟨⟨pO, cO, rfl, hO⟩, hb7⟩; have H7 := Lib.hid (And.intro hO hb7); clear hO hb7))
  have hb7 := H7.out.2
  have H8 : Hid (w7.heap[w.heap.size]? = some (.cells rq0 29) ∧ Below w.heap.size w w7 ∧ w.heap.size < b ∧ b < B4 ∧ Own w7 B4 (.slice (some a) (alertsM l).length cap) (alertsM l) ∧ w7.heap[r]? = some (.cells #[.slice (some a) (alertsM l).length cap, .bool false] 83) ∧ b < r ∧ b < w6.heap.size ∧ r < w7.heap.size) := by
    have h := H6.out
    have hr := (Array.getElem?_eq_some_iff.1 h.2.2.2.2.2.2.1).1
    exact Lib.hid ⟨(hb7.block _ (Array.getElem?_eq_some_iff.1 h.1).1).trans h.1, h.2.2.1.trans (hb7.mono h.2.2.1.size), h.2.2.2.1, h.2.2.2.2.1, h.2.2.2.2.2.1.below hb7, (hb7.block _ hr).trans h.2.2.2.2.2.2.1, h.2.2.2.2.2.2.2, (Array.getElem?_eq_some_iff.1 h.2.1).1, Nat.lt_of_lt_of_le hr hb7.size⟩
  have HS : Hid (ApR w7 w7 b 1 rqPost 29 65 3 0) := Lib.hid (ApR.start (by
    have h := (hb7.block _ (Array.getElem?_eq_some_iff.1 H6.out.2.1).1).trans H6.out.2.1
    exact h))
  have hbw7 : b < w7.heap.size := Nat.lt_of_lt_of_le H8.out.2.2.2.2.2.2.2.1 hb7.size
  clear hb7 H6 HN6 HL6 HK6 c0 k1'
  go_loopw [75] (fun v wr => ∃ n : Nat, v = .int .i64 n ∧ n ≤ l.length ∧ ApR w7 wr b 1 rqPost 29 65 3 n) (fun v _ => l.length - (intOf v).toNat)
  case atStart => exact ⟨0, rfl, by omega, HS.out⟩
  case round =>
    obtain ⟨n, rfl, hn, ⟨⟨pL, cL, cs, hrow, hown⟩, hturn⟩⟩ := hrel
    have HO := Lib.hid (And.intro hrow (And.intro hown hturn))
    have hOw : Own wr B4 (.slice (some a) (alertsM l).length cap) (alertsM l) := H8.out.2.2.2.2.1.kept (fun k hk => hturn.block k (H8.out.2.2.2.2.1.lt hk).2 (by have := (H8.out.2.2.2.2.1.lt hk).1; have := H8.out.2.2.2.1; omega))
    have hRr : wr.heap[r]? = some (.cells #[.slice (some a) (alertsM l).length cap, .bool false] 83) := (hturn.block r H8.out.2.2.2.2.2.2.2.2 (by have := H8.out.2.2.2.2.2.2.1; omega)).trans H8.out.2.2.2.2.2.1
    have HRw : Hid (Rdr wr r (.slice (some a) (alertsM l).length cap) (alertsM l)) := Lib.hid ⟨hRr, hOw.lst⟩
    have HB : Hid (Below w.heap.size w wr) := Lib.hid (H8.out.2.1.trans (hturn.to_below H8.out.2.1.size (fun k hk => by have := H8.out.2.2.1; omega)))
    have hO' := H7.out.1.kept (w' := wr) (fun k hk => hturn.block k (World.ownsRow.lt H7.out.1 k hk).2 (by have := (World.ownsRow.lt H7.out.1 k hk).1; have := H8.out.2.2.2.2.2.2.2.1; omega))
    by_cases hlt : n < l.length
    · obtain ⟨m, hm⟩ : ∃ m, (places 1 l)[n]? = some m := ⟨_, List.getElem?_eq_getElem (by rw [places_len]; exact hlt)⟩
      obtain ⟨gO, cO2, e, hgO⟩ := hO'.ne (by intro e; have h0 : (places 1 l).length = 0 := (by rw [e]; rfl); rw [places_len] at h0; omega)
      simp only [Value.slice.injEq] at e
      obtain ⟨rfl, -, rfl⟩ := e
      have kO := hgO n m hm
      have c1 : wr.cell? ⟨b, 1, none⟩ = some (.slice pL n cL) := (cells_of hrow 1).1
      have bl := World.block_lt_of_cell? wr _ c1
      have HC : Hid (Calls Tryz.prog 46 #[.pointer (some ⟨r, 0, none⟩), .int .i64 m] wr.drew fun e w' => (∃ pL n cL s t, e = .returned (.agg #[.slice pL n cL, .int .i64 s, .int .i64 t])) ∧ Below wr.heap.size wr w') := Lib.hid ((HAl.out wr.drew r m _ (Below.drew HB.out) (HRw.out.below (Below.drew (Below.refl _ _))) (List.mem_of_getElem? hm)).mono fun e w' ⟨he, hb⟩ => ⟨he, (Below.drew (Below.refl wr.heap.size wr)).trans hb⟩)
      clear hgO hrow hown hturn hOw hRr hO' hm
      go_upto_region 23 with fail
      go_region_law (first
        | (go_simp; go_at_call 46; refine HC.out.mono ?_; rintro e w8 ⟨⟨pA, nA, cA, sA, tA, rfl⟩, hb8⟩; have HB8 := Lib.hid hb8; have c1' : w8.cell? ⟨b, 1, none⟩ = some (.slice pL n cL) := (hb8.cell bl).trans c1; have bn : b ≠ w8.heap.size := Nat.ne_of_lt (Nat.lt_of_lt_of_le bl hb8.size); have bm : w8.heap.size ≠ b := fun e => bn e.symm; have c1'' : (w8.alloc (.cells #[.slice pA nA cA, .int .i64 sA, .int .i64 tA] 65)).cell? ⟨b, 1, none⟩ = some (.slice pL n cL) := (((Below.refl w8.heap.size w8).alloc (Nat.le_refl _) (.cells #[.slice pA nA cA, .int .i64 sA, .int .i64 tA] 65)).cell (World.block_lt_of_cell? w8 _ c1')).trans c1'; clear hb8)
        | (refine step_append_lies _ (by rfl) _ _ _ (by rfl) w7.heap.size 65 i0 _ 3 40 Tryz.underlying24 hi0 iz0 iz1 iz2 rfl (by omega) (.slice pL n cL) n cs (by rfl) (ownsRow_below HO.out.2.1 (HB8.out.alloc HB8.out.size _)) ⟨w8.heap.size, 0, none⟩ 1 1 [.slice pA nA cA, .int .i64 sA, .int .i64 tA] (by rfl) (by rfl) (World.news_of_block (cs := #[.slice pA nA cA, .int .i64 sA, .int .i64 tA]) (t := 65) (fr := (0, 0)) (heap_alloc_new w8 _)) (by simp [Value.oneCell']) (by omega) (by unfold maxLen; omega) (by omega) (by have := HO.out.2.2.size; have := HB8.out.size; simp; omega) (w8.heap.size + 1) (by simp) ?_; intro g6 cap6 w9 hown9 hgrow9 hat9 hlt9; have H9 := Lib.hid (ApR.step HO.out.2.2 hbw7 HO.out.1 HO.out.2.1 (HB8.out.alloc HB8.out.size _) hgrow9 hown9); obtain ⟨f0, f1⟩ := ApR.mid hbw7 HO.out.1 HO.out.2.1 (HB8.out.alloc HB8.out.size _) hgrow9 1; have f0' : w9.cell? ⟨b, 1, none⟩ = some (.slice pL n cL) := f0; clear f0; clear hown9 hgrow9 hat9 hlt9))
      all_goals
        go_wp2_with fail
        go_roundw
        case measure => simp [intOf]; omega
        case rel => exact ⟨n + 1, by go_num, by omega, H9.out⟩
    · obtain rfl : n = l.length := by omega
      have r1 := HRw.out.c1
      have q0 : wr.cell? ⟨b, 0, none⟩ = some (.int .u8 1) := (cells_of hrow 0).1
      have q1 : wr.cell? ⟨b, 1, none⟩ = some (.slice pL l.length cL) := (cells_of hrow 1).1
      have q2 : wr.cell? ⟨b, 2, none⟩ = some (.string ⟨#[]⟩) := (cells_of hrow 2).1
      have q3 : wr.cell? ⟨b, 3, none⟩ = some (.slice none 0 0) := (cells_of hrow 3).1
      have q4 : wr.cell? ⟨b, 4, none⟩ = some (.int .i64 0) := (cells_of hrow 4).1
      have q5 : wr.cell? ⟨b, 5, none⟩ = some (.int .i64 0) := (cells_of hrow 5).1
      have q6 : wr.cell? ⟨b, 6, none⟩ = some (.string ⟨#[]⟩) := (cells_of hrow 6).1
      have q7 : wr.cell? ⟨b, 7, none⟩ = some (.slice none 0 0) := (cells_of hrow 7).1
      have hres : wr.heap[w.heap.size]? = some (.cells rq0 29) := (hturn.block _ (by have := H8.out.2.2.1; omega) (by have := H8.out.2.2.1; omega)).trans H8.out.1
      have HRes := Lib.hid hres
      clear hrow hown hturn hO' hres hOw hRr
      go_wp2_with (refine wpList_store_row rfl 29 (.tmp 2) (.tmp 93) rfl w.heap.size #[.int .u8 1, .slice pL l.length cL, .string ⟨#[]⟩, .slice none 0 0, .int .i64 0, .int .i64 0, .string ⟨#[]⟩, .slice none 0 0] ?hx ?hy 29 rq0 HRes.out ?hi ?hold ?h1 ?h)
      case hx => rfl
      case hy => rfl
      case hi => exact Tryz.size29
      case hold => rfl
      case h1 => simp [Value.oneCell']
      refine bodyPost_ret (results_rq rfl _ _ w.heap.size _ rfl rfl (setRow_heap _ _ _ _ _ _ HRes.out)) rfl ⟨⟨_, _, rfl⟩, below_setRow HB.out (Nat.le_refl _) _⟩
end Go.Proofs.YtcdeikhfmllkdaaGreatDoor
