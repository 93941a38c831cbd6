/- request: the reader's alert, where all is as said. -/
import Derived.Test.YtcdeikhfmllkdaaGreatDoorRpK
import Derived.Test.YtcdeikhfmllkdaaGreatDoorRwA
import Derived.Deep.RegionWith
namespace Go.Proofs.YtcdeikhfmllkdaaGreatDoor
open Go.RowKit
set_option linter.unusedVariables false
set_option linter.unusedSimpArgs false
def nms : List Bytes := [nLabels, nStart, nEnd]
theorem AlAt.mems {l : List Val} {p : Nat} {a : AlM} (h : AlAt l p a) : Mems l (p : Int) [p + 1, p + 2 + a.labels.length, p + 2 + a.labels.length + 1] nms := by
  refine ⟨h.kp, rfl, ?_⟩
  intro j k x hj hx
  match j, hj, hx with
  | 0, hj, hx =>
    obtain rfl := Option.some.inj hj
    obtain rfl := Option.some.inj hx
    exact ⟨_, h.v1, rfl⟩
  | 1, hj, hx =>
    obtain rfl := Option.some.inj hj
    obtain rfl := Option.some.inj hx
    exact ⟨_, h.vs, rfl⟩
  | 2, hj, hx =>
    obtain rfl := Option.some.inj hj
    obtain rfl := Option.some.inj hx
    exact ⟨_, h.ve, rfl⟩
  | j + 3, hj, _ => simp at hj
/-- The same by three places. -/
structure AlPl (l : List Val) (p k1 k2 k3 : Nat) (a : AlM) : Prop where
  v0 : l[p]? = some objV
  v1 : l[k1]? = some (lobV p)
  vs : l[k2]? = some (numV p nStart a.start)
  ve : l[k3]? = some (numV p nEnd a.stop)
  mems : Mems l (p : Int) [k1, k2, k3] nms
  kl : kidsM l (k1 : Int) = List.range' (p + 2) a.labels.length
  lab : ∀ j x, a.labels[j]? = some x → l[p + 2 + j]? = some (labV (p + 1) x)
theorem AlAt.pl {l : List Val} {p : Nat} {a : AlM} (h : AlAt l p a) : ∃ k1 k2 k3, AlPl l p k1 k2 k3 a := ⟨_, _, _, h.v0, h.v1, h.vs, h.ve, h.mems, h.kl, h.lab⟩
/-- The alert that is read, in a box of its own. -/
structure AlBox (w3 : World) (s t : Int) (v : Value) (wx : World) : Prop where
  box : ∃ b, v = .pointer (some ⟨b, 0, none⟩) ∧ wx.heap[b]? = some (.cells #[.slice none 0 0, .int .i64 s, .int .i64 t] 65) ∧ w3.heap.size ≤ b
  bel : Below w3.heap.size w3 wx
theorem AlBox.new {w3 w5 : World} (h : Below w3.heap.size w3 w5) (s t : Int) : AlBox w3 s t (.pointer (some ⟨w5.heap.size, 0, none⟩)) (w5.alloc (.cells #[.slice none 0 0, .int .i64 s, .int .i64 t] 65)) :=
  ⟨⟨_, rfl, heap_alloc_new _ _, h.size⟩, h.alloc h.size _⟩
theorem AlBox.set {w3 w5 : World} {b : Nat} {s0 t0 : Int} {L0 : Value} (h : Below w3.heap.size w3 w5) (hr : w5.heap[b]? = some (.cells #[L0, .int .i64 s0, .int .i64 t0] 65)) (hb : w3.heap.size ≤ b) (s t : Int) :
    AlBox w3 s t (.pointer (some ⟨b, 0, none⟩)) (((w5.setCell ⟨b, 0, none⟩ (.slice none 0 0)).setCell ⟨b, 1, none⟩ (.int .i64 s)).setCell ⟨b, 2, none⟩ (.int .i64 t)) := by
  refine ⟨⟨b, rfl, ?_, hb⟩, ?_⟩
  · exact blk_set (blk_set (blk_set hr 0 _) 1 _) 2 _
  · exact ((h.setCell (p := ⟨b, 0, none⟩) hb _).setCell (p := ⟨b, 1, none⟩) hb _).setCell (p := ⟨b, 2, none⟩) hb _
set_option maxRecDepth 100000 in
set_option maxHeartbeats 4000000 in
theorem ralert_pl {w : World} {q : Nat} {V : Value} {l : List Val} (R : Rdr w q V l) (hl : l.length ≤ 100000) (HA : ∀ w1, Below w.heap.size w w1 → AtoiOk w1) {p k1 k2 k3 : Nat} {a : AlM} (A : AlPl l p k1 k2 k3 a) (h0 : (Lit.int .i64 a.start).wf = true) (h1 : (Lit.int .i64 a.stop).wf = true) :
    Calls Tryz.prog 46 #[.pointer (some ⟨q, 0, none⟩), .int .i64 p] w fun e w' => (∃ pL n cL, e = .returned (.agg #[.slice pL n cL, .int .i64 a.start, .int .i64 a.stop])) ∧ Below w.heap.size w w' := by
  obtain ⟨i0, hi0, iz0, iz1, iz2⟩ := info_parts Tryz.info134
  obtain ⟨ad, cap, rfl, -⟩ := R.lst.at A.v0
  have HR := Lib.hid R
  have HAt := Lib.hid A
  have HNu := Lib.hid HA
  have hl1 := (List.getElem?_eq_some_iff.1 A.v1).1
  have hl2 := (List.getElem?_eq_some_iff.1 A.vs).1
  have hl3 := (List.getElem?_eq_some_iff.1 A.ve).1
  clear R A HA
  go_enter Tryz.func46, Tryz.ntmps46
  go_upto_region 1 with fail
  generalize hW1 : w.alloc _ = w1
  have H1 : Hid (w1.heap[w.heap.size]? = some (.cells #[.slice none 0 0, .int .i64 0, .int .i64 0] 65) ∧ Below w.heap.size w w1) := by subst hW1; exact Lib.hid ⟨heap_alloc_new _ _, (Below.refl _ _).alloc (Nat.le_refl _) _⟩
  clear hW1
  have HK : Hid (Calls Tryz.prog 94 #[.pointer (some ⟨q, 0, none⟩), .int .i64 p, .slice (some ⟨w1.heap.size, 0, none⟩) 3 3] (w1.alloc (.cells #[.string ⟨#[108, 97, 98, 101, 108, 115]⟩, .string ⟨#[115, 116, 97, 114, 116]⟩, .string ⟨#[101, 110, 100]⟩] 9)) fun e w' => (∃ g cO, e = .returned (.slice (some ⟨g, 0, none⟩) 3 cO) ∧ ∀ w2, Below w'.heap.size w' w2 → w2.cell? ⟨g, 0, none⟩ = some (.int .i64 (k1 : Int)) ∧ w2.cell? ⟨g, 1, none⟩ = some (.int .i64 (k2 : Int)) ∧ w2.cell? ⟨g, 2, none⟩ = some (.int .i64 (k3 : Int))) ∧ Below w1.heap.size w1 w') := by
    have hb : Below w1.heap.size w1 (w1.alloc (.cells #[.string ⟨#[108, 97, 98, 101, 108, 115]⟩, .string ⟨#[115, 116, 97, 114, 116]⟩, .string ⟨#[101, 110, 100]⟩] 9)) := (Below.refl _ _).alloc (Nat.le_refl _) _
    have hr : (w1.alloc (.cells #[.string ⟨#[108, 97, 98, 101, 108, 115]⟩, .string ⟨#[115, 116, 97, 114, 116]⟩, .string ⟨#[101, 110, 100]⟩] 9)).heap[w1.heap.size]? = some (.cells #[.string ⟨#[108, 97, 98, 101, 108, 115]⟩, .string ⟨#[115, 116, 97, 114, 116]⟩, .string ⟨#[101, 110, 100]⟩] 9) := heap_alloc_new _ _
    have h := rkids_any ((HR.out.below H1.out.2).below hb) hl (N := w1.heap.size) HAt.out.v0 rfl HAt.out.mems (by simp [nms]) (by
      intro j x hx
      rw [(cells_of hr j).1]
      match j, hx with
      | 0, hx => obtain rfl := Option.some.inj hx; rfl
      | 1, hx => obtain rfl := Option.some.inj hx; rfl
      | 2, hx => obtain rfl := Option.some.inj hx; rfl
      | j + 3, hx => simp [nms] at hx)
    refine Lib.hid (h.mono ?_)
    rintro e w' ⟨⟨O, rfl, hO⟩, hb'⟩
    obtain ⟨g, cO, rfl, -⟩ := hO.ne (by simp)
    refine ⟨⟨g, cO, rfl, fun w2 hb2 => ?_⟩, hb.trans (hb'.mono hb.size)⟩
    obtain ⟨g', cO', e, hg⟩ := (hO.below hb2).ne (by simp)
    simp only [Value.slice.injEq, Option.some.injEq, Addr.mk.injEq] at e
    obtain ⟨⟨rfl, -, -⟩, -, -⟩ := e
    exact ⟨hg 0 _ rfl, hg 1 _ rfl, hg 2 _ rfl⟩
  go_upto_region 2 with (first | (go_at_call 94; refine HK.out.mono ?_; rintro e w2 ⟨⟨g, cO, rfl, hg⟩, hb2⟩; have H2 := Lib.hid (And.intro hg hb2); clear hg hb2))
  have hb02 : Below w.heap.size w w2 := H1.out.2.trans (H2.out.2.mono H1.out.2.size)
  have HB2 := Lib.hid hb02
  have HR2 := Lib.hid (HR.out.below hb02)
  have d0 := HR2.out.c0
  obtain ⟨g0, g1, g2⟩ := H2.out.1 w2 (Below.refl _ _)
  obtain ⟨a', cap', e, j0, j1, j2, j3⟩ := HR2.out.lst.at HAt.out.v1
  simp only [Value.slice.injEq, Option.some.injEq] at e
  obtain ⟨rfl, -, -⟩ := e
  have HN2 : Hid (∀ m, Calls Tryz.prog 45 #[.pointer (some ⟨q, 0, none⟩), .bool true] (w2.drewN m) fun e w' => e = .returned (.bool true) ∧ w' = w2.drewN m) := Lib.hid (fun m => rneed_yes (HR2.out.below (below_drewN (Below.refl _ _) m)))
  clear hb02 HK
  go_quiet ((go_at_call 45; exact Calls.quiet_of_same (HN2.out _)))
  have hb3 : Below w2.heap.size w2 (w2.drewN nq) := below_drewN (Below.refl _ _) nq
  have HX : Hid (∀ wx, Below (w2.drewN nq).heap.size (w2.drewN nq) wx → Below w.heap.size w wx ∧ Rdr wx q (.slice (some ad) l.length cap) l ∧ wx.cell? ⟨q, 0, none⟩ = some (.slice (some ad) l.length cap) ∧ wx.cell? ⟨g, 0, none⟩ = some (.int .i64 (k1 : Int)) ∧ wx.cell? ⟨g, 1, none⟩ = some (.int .i64 (k2 : Int)) ∧ wx.cell? ⟨g, 2, none⟩ = some (.int .i64 (k3 : Int)) ∧ wx.heap[w.heap.size]? = some (.cells #[.slice none 0 0, .int .i64 0, .int .i64 0] 65)) := Lib.hid (fun wx hx => by
    have h2x : Below w2.heap.size w2 wx := hb3.trans (hx.mono hb3.size)
    have hwx := HB2.out.trans (h2x.mono HB2.out.size)
    have hr := HR.out.below hwx
    have ho := H2.out.1 wx h2x
    have hlt := (Array.getElem?_eq_some_iff.1 H1.out.1).1
    exact ⟨hwx, hr, hr.c0, ho.1, ho.2.1, ho.2.2, (h2x.block _ (Nat.lt_of_lt_of_le hlt H2.out.2.size)).trans ((H2.out.2.block _ hlt).trans H1.out.1)⟩)
  have HZ : Hid (w.heap.size < (w2.drewN nq).heap.size) := Lib.hid (Nat.lt_of_lt_of_le (Array.getElem?_eq_some_iff.1 H1.out.1).1 (Nat.le_trans H2.out.2.size hb3.size))
  clear hb3 d0 g0 g1 g2 j0 j1 j2 j3 HN2 HR2 H2
  generalize w2.drewN nq = w3 at HX HZ ⊢
  have HA1 : Hid (∀ wx, Below w3.heap.size w3 wx → Calls Tryz.prog 96 #[.pointer (some ⟨q, 0, none⟩), .int .i64 (k2 : Int)] wx fun e w' => e = .returned (.int .i64 a.start) ∧ Below wx.heap.size wx w') := Lib.hid (fun wx hx => rnumber_any (HX.out wx hx).2.1 (HNu.out wx (HX.out wx hx).1) HAt.out.vs rfl rfl h0)
  have HA2 : Hid (∀ wx, Below w3.heap.size w3 wx → Calls Tryz.prog 96 #[.pointer (some ⟨q, 0, none⟩), .int .i64 (k3 : Int)] wx fun e w' => e = .returned (.int .i64 a.stop) ∧ Below wx.heap.size wx w') := Lib.hid (fun wx hx => rnumber_any (HX.out wx hx).2.1 (HNu.out wx (HX.out wx hx).1) HAt.out.ve rfl rfl h1)
  have HE : Hid (Below w3.heap.size w3 w3.drew) := Lib.hid (Below.drew (Below.refl _ _))
  have HEa : Hid (Below w3.heap.size w3 (w3.alloc (.cells #[.slice none 0 0, .int .i64 0, .int .i64 0] 65)).drew ∧ (w3.alloc (.cells #[.slice none 0 0, .int .i64 0, .int .i64 0] 65)).drew.heap[w3.heap.size]? = some (.cells #[.slice none 0 0, .int .i64 0, .int .i64 0] 65)) := Lib.hid ⟨Below.drew ((Below.refl _ _).alloc (Nat.le_refl _) _), heap_alloc_new w3 _⟩
  obtain ⟨-, -, d0, g0, g1, g2, -⟩ := HX.out w3 (Below.refl _ _)
  have gl3 := World.block_lt_of_cell? w3 _ g1
  have gn3 : g ≠ w3.heap.size := Nat.ne_of_lt gl3
  have gm3 : w3.heap.size ≠ g := fun e => gn3 e.symm
  go_upto_region 4 with fail
  go_cut [6] from 28 to 38 (fun v6 wx => AlBox w3 a.start a.stop v6 wx)
  case first =>
   go_region_with (first
    | (go_at_call 96; (first | with_reducible refine (HA1.out _ HE.out).mono ?_ | with_reducible refine (HA2.out _ HE.out).mono ?_); rintro e w4 ⟨rfl, hb4⟩; have HB4 := Lib.hid (HE.out.trans (hb4.mono HE.out.size)); obtain ⟨-, -, d0', g0', g1', g2', -⟩ := HX.out w4 HB4.out; have HB4a := Lib.hid (And.intro (HB4.out.alloc HB4.out.size (.cells #[.slice none 0 0, .int .i64 0, .int .i64 0] 65)) (heap_alloc_new w4 (.cells #[.slice none 0 0, .int .i64 0, .int .i64 0] 65))); have gl4 := World.block_lt_of_cell? w4 _ g1'; have gn4 : g ≠ w4.heap.size := Nat.ne_of_lt gl4; have gm4 : w4.heap.size ≠ g := fun e => gn4 e.symm; clear hb4)
    | (go_at_call 96; (first | with_reducible refine (HA1.out _ HEa.out.1).mono ?_ | with_reducible refine (HA2.out _ HEa.out.1).mono ?_); rintro e w4 ⟨rfl, hb4⟩; have HB4 := Lib.hid (HEa.out.1.trans (hb4.mono HEa.out.1.size)); have HR4 := Lib.hid ((hb4.block _ (Array.getElem?_eq_some_iff.1 HEa.out.2).1).trans HEa.out.2); obtain ⟨-, -, d0', g0', g1', g2', -⟩ := HX.out w4 HB4.out; clear hb4)
    | (go_at_call 96; (first | with_reducible refine (HA1.out _ HB4.out).mono ?_ | with_reducible refine (HA2.out _ HB4.out).mono ?_); rintro e w5 ⟨rfl, hb5⟩; have HB5 := Lib.hid (HB4.out.trans (hb5.mono HB4.out.size)); have HR5 := Lib.hid ((hb5.block _ (Array.getElem?_eq_some_iff.1 HR4.out).1).trans HR4.out); have c0 := (cells_of HR5.out 0).1; have c1 := (cells_of HR5.out 1).1; have c2 := (cells_of HR5.out 2).1; have f0 := (cells_of HR5.out 0).2; have f1 := (cells_of HR5.out 1).2; have f2 := (cells_of HR5.out 2).2; clear hb5)
    | (go_at_call 96; (first | with_reducible refine (HA1.out _ HB4.out).mono ?_ | with_reducible refine (HA2.out _ HB4.out).mono ?_); rintro e w5 ⟨rfl, hb5⟩; have HB5 := Lib.hid (HB4.out.trans (hb5.mono HB4.out.size)); clear hb5)
    | (go_at_call 96; (first | with_reducible refine (HA1.out _ HB4a.out.1).mono ?_ | with_reducible refine (HA2.out _ HB4a.out.1).mono ?_); rintro e w5 ⟨rfl, hb5⟩; have HB5 := Lib.hid (HB4a.out.1.trans (hb5.mono HB4a.out.1.size)); have HR5 := Lib.hid ((hb5.block _ (Array.getElem?_eq_some_iff.1 HB4a.out.2).1).trans HB4a.out.2); have c0 := (cells_of HR5.out 0).1; have c1 := (cells_of HR5.out 1).1; have c2 := (cells_of HR5.out 2).1; have f0 := (cells_of HR5.out 0).2; have f1 := (cells_of HR5.out 1).2; have f2 := (cells_of HR5.out 2).2; clear hb5))
   all_goals
     go_wp2_with fail
     go_meet
     case rel => first
       | exact AlBox.new HB5.out _ _
       | exact AlBox.set HB5.out HR5.out HB4.out.size _ _
       | exact AlBox.set HB5.out HR5.out (Nat.le_refl _) _ _
  case rest =>
    rename World => wa
    obtain ⟨⟨b, rfl, hrow, hbw⟩, hbel⟩ := hcut
    have hbc := (Array.getElem?_eq_some_iff.1 hrow).1
    have HC := Lib.hid (And.intro hrow hbel)
    have HK2 : Hid (∀ wx, Below w3.heap.size w3 wx → Calls Tryz.prog 26 #[.slice (some ad) l.length cap, .int .i64 (k1 : Int)] wx fun e w' => (∃ pO cO, e = .returned (.slice pO a.labels.length cO) ∧ Ints w' wx.heap.size (.slice pO a.labels.length cO) (List.range' (p + 2) a.labels.length)) ∧ Below wx.heap.size wx w') := Lib.hid (fun wx hx => by
      have h := Kids_any (HX.out wx hx).2.1.lst hl (k1 : Int)
      rw [HAt.out.kl] at h
      refine h.mono fun e w' ⟨⟨O, he, hO⟩, hb⟩ => ⟨?_, hb⟩
      obtain ⟨pO, cO, e', -, -⟩ := hO.form
      rw [List.length_range'] at e'
      subst e'
      exact ⟨pO, cO, he, hO⟩)
    obtain ⟨-, -, d5, g5, -, -, -⟩ := HX.out wa hbel
    clear hrow hbel HA1 HA2 HE HEa d0 g0 g1 g2 gl3 gn3 gm3
    go_step
    go_upto_region 5 with fail
    go_cut [46, 47, 48] from 39 to 48 (fun v46 v47 v48 wx => v47 = .int .i64 a.labels.length ∧ v48 = .int .i64 0 ∧ (∃ pO cO, v46 = .slice pO a.labels.length cO ∧ Ints wx wa.heap.size (.slice pO a.labels.length cO) (List.range' (p + 2) a.labels.length)) ∧ Below wa.heap.size wa wx)
    case first =>
      have HK3 := Lib.hid (HK2.out wa.drew (Below.drew HC.out.2))
      go_region_with (first | (go_at_call 26; refine HK3.out.mono ?_; rintro e w5 ⟨⟨pO, cO', rfl, hO⟩, hb5⟩; have H5 := Lib.hid (And.intro hO ((Below.drew (Below.refl wa.heap.size wa)).trans hb5)); clear hO hb5))
      all_goals
        go_wp2_with fail
        go_meet
        case rel => exact ⟨rfl, rfl, ⟨_, _, rfl, H5.out.1⟩, H5.out.2⟩
    case rest =>
      rename World => wx
      obtain ⟨rfl, rfl, ⟨pO, cO', rfl, hO⟩, hb6⟩ := hcut
      have hrowx : wx.heap[b]? = some (.cells #[.slice none 0 0, .int .i64 a.start, .int .i64 a.stop] 65) := (hb6.block b hbc).trans HC.out.1
      have hbx : b < wx.heap.size := Nat.lt_of_lt_of_le hbc hb6.size
      have hbel3 : Below w3.heap.size w3 wx := HC.out.2.trans (hb6.mono HC.out.2.size)
      have hX := HX.out wx hbel3
      have hwb : w.heap.size < b := Nat.lt_of_lt_of_le HZ.out hbw
      have HS : Hid (ApR wx wx b 0 #[.slice none 0 0, .int .i64 a.start, .int .i64 a.stop] 65 134 2 0) := Lib.hid (ApR.start hrowx)
      have H6 := Lib.hid (And.intro hO (And.intro hX.1 hX.2.2.2.2.2.2))
      have hL : a.labels.length ≤ 100000 := by
        have h := kidsR_len (k1 : Int) l 0
        have e : (kidsR (k1 : Int) 0 l).length = a.labels.length := by
          have := congrArg List.length HAt.out.kl
          rw [List.length_range'] at this
          exact this
        omega
      clear hrowx hX hO hb6 hbel3 HK2 d5 g5 HX
      go_step
      go_wp2_with fail
      go_loopw [48] (fun v wr => ∃ n : Nat, v = .int .i64 n ∧ n ≤ a.labels.length ∧ ApR wx wr b 0 #[.slice none 0 0, .int .i64 a.start, .int .i64 a.stop] 65 134 2 n) (fun v _ => a.labels.length - (intOf v).toNat)
      case atStart => exact ⟨0, rfl, by omega, HS.out⟩
      case round =>
        obtain ⟨n, rfl, hn, ⟨⟨pL, cL, cs, hrow', hown⟩, hturn⟩⟩ := hrel
        have HB : Hid (Below w.heap.size w wr) := Lib.hid (H6.out.2.1.trans (hturn.to_below H6.out.2.1.size (fun k hk => by omega)))
        have HRw := Lib.hid (HR.out.below HB.out)
        have hO' := H6.out.1.kept (w' := wr) (fun k hk => hturn.block k (World.ownsRow.lt H6.out.1 k hk).2 (by have := (World.ownsRow.lt H6.out.1 k hk).1; omega))
        have HO := Lib.hid (And.intro hrow' (And.intro hown hturn))
        have c0 : wr.cell? ⟨b, 0, none⟩ = some (.slice pL n cL) := (cells_of hrow' 0).1
        by_cases hlt : n < a.labels.length
        · obtain ⟨x, hx⟩ : ∃ x, a.labels[n]? = some x := ⟨_, List.getElem?_eq_getElem hlt⟩
          have hv := HAt.out.lab n x hx
          obtain ⟨gO, cO2, e, hgO⟩ := hO'.ne (by intro e; have h0 : (List.range' (p + 2) a.labels.length).length = 0 := (by rw [e]; rfl); rw [List.length_range'] at h0; omega)
          simp only [Value.slice.injEq] at e
          obtain ⟨rfl, -, rfl⟩ := e
          have kO := hgO n (p + 2 + n) (by rw [List.getElem?_range' hlt]; simp)
          obtain ⟨m, hm⟩ : ∃ m, p + 2 + n = m := ⟨_, rfl⟩
          rw [hm] at hv kO
          have hml := (List.getElem?_eq_some_iff.1 hv).1
          obtain ⟨a2, cap2, e, j0, j1, j2', j3⟩ := HRw.out.lst.at hv
          simp only [Value.slice.injEq, Option.some.injEq] at e
          obtain ⟨rfl, -, -⟩ := e
          have j2 : wr.cell? ⟨(ad.add (m * 4)).block, (ad.add (m * 4)).off + 2, none⟩ = some (.string (str x.1)) := j2'
          clear j2'
          have bl := World.block_lt_of_cell? wr _ c0
          have bn : b ≠ wr.heap.size := Nat.ne_of_lt bl
          have bm : wr.heap.size ≠ b := fun e => bn e.symm
          have d5 := HRw.out.c0
          have HT : Hid (Calls Tryz.prog 95 #[.pointer (some ⟨q, 0, none⟩), .int .i64 m] wr.drew fun e w' => e = .returned (.string (str x.2)) ∧ w' = wr.drew) := Lib.hid (text_any (HRw.out.below (Below.drew (Below.refl _ _))) hv rfl)
          clear hx hv hgO j0 j1 j3 hm hrow' hown hturn hO'
          go_upto_region 8 with fail
          go_region_law (first | (go_simp; go_at_call 95; refine HT.out.mono ?_; rintro e wt ⟨rfl, hw⟩; rw [hw]; clear hw) | (refine step_append_lies _ (by rfl) _ _ _ (by rfl) wx.heap.size 134 i0 _ 2 32 Tryz.underlying63 hi0 iz0 iz1 iz2 rfl (by omega) (.slice pL n cL) n cs (by rfl) (ownsRow_below HO.out.2.1 (Below.drew ((Below.refl _ _).alloc (Nat.le_refl _) _))) ⟨wr.heap.size, 0, none⟩ 1 1 [.string (str x.1), .string (str x.2)] (by rfl) (by rfl) (World.news_of_block (cs := #[.string (str x.1), .string (str x.2)]) (t := 134) (fr := (0, 0)) (heap_alloc_new wr _)) (by simp [Value.oneCell']) (by omega) (by unfold maxLen; omega) (by omega) (by have := HO.out.2.2.size; simp; omega) (wr.heap.size + 1) (by simp) ?_; intro g6 cap6 w7 hown7 hgrow7 hat7 hlt7; have H7 := Lib.hid (ApR.step HO.out.2.2 hbx HO.out.1 HO.out.2.1 (Below.drew ((Below.refl _ _).alloc (Nat.le_refl _) (.cells #[.string (str x.1), .string (str x.2)] 134))) hgrow7 hown7); obtain ⟨f0, f1⟩ := ApR.mid hbx HO.out.1 HO.out.2.1 (Below.drew ((Below.refl _ _).alloc (Nat.le_refl _) (.cells #[.string (str x.1), .string (str x.2)] 134))) hgrow7 0; clear hown7 hgrow7 hat7 hlt7))
          all_goals
            go_wp2_with fail
            go_roundw
            case measure => simp [intOf]; omega
            case rel => exact ⟨n + 1, by go_num, by omega, H7.out⟩
        · obtain rfl : n = a.labels.length := by omega
          have c1 : wr.cell? ⟨b, 1, none⟩ = some (.int .i64 a.start) := (cells_of hrow' 1).1
          have c2 : wr.cell? ⟨b, 2, none⟩ = some (.int .i64 a.stop) := (cells_of hrow' 2).1
          have hres : wr.heap[w.heap.size]? = some (.cells #[.slice none 0 0, .int .i64 0, .int .i64 0] 65) := (hturn.block _ (by omega) (by omega)).trans H6.out.2.2
          have HRes := Lib.hid hres
          clear hrow' hown hturn hO' hres
          go_wp2_with (refine wpList_store_row rfl 65 (.tmp 4) (.tmp 70) rfl w.heap.size #[.slice pL a.labels.length cL, .int .i64 a.start, .int .i64 a.stop] ?hx ?hy 65 #[.slice none 0 0, .int .i64 0, .int .i64 0] HRes.out ?hi ?hold ?h1 ?h)
          case hx => rfl
          case hy => rfl
          case hi => exact Tryz.size65
          case hold => rfl
          case h1 => simp [Value.oneCell']
          refine bodyPost_ret (results_al rfl _ _ w.heap.size _ rfl rfl (setRow_heap _ _ _ _ _ _ HRes.out)) rfl ⟨⟨_, _, _, rfl⟩, below_setRow HB.out (Nat.le_refl _) _⟩
theorem ralert_any {w : World} {q : Nat} {V : Value} {l : List Val} (R : Rdr w q V l) (hl : l.length ≤ 100000) (HA : ∀ w1, Below w.heap.size w w1 → AtoiOk w1) {p : Nat} {a : AlM} (A : AlAt l p a) (h0 : (Lit.int .i64 a.start).wf = true) (h1 : (Lit.int .i64 a.stop).wf = true) :
    Calls Tryz.prog 46 #[.pointer (some ⟨q, 0, none⟩), .int .i64 p] w fun e w' => (∃ pL n cL, e = .returned (.agg #[.slice pL n cL, .int .i64 a.start, .int .i64 a.stop])) ∧ Below w.heap.size w w' := by
  obtain ⟨k1, k2, k3, P⟩ := A.pl
  exact ralert_pl R hl HA P h0 h1
end Go.Proofs.YtcdeikhfmllkdaaGreatDoor
