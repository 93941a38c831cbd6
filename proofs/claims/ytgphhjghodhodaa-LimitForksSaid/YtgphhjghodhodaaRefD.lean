/- The walks of the reference's Left and Allow. -/
import Derived.Test.YtgphhjghodhodaaRefC
namespace Go.Proofs.Ytgphhjghodhodaa
open Go.RowKit Go.Maps Go.WideMaps Go.Proofs.YtgphhjghodhodaaMp Go.Proofs.YtgphhjghodhodaaW.PrintWords Go.Proofs.Ytgphhjghodhodaa.PNext
set_option linter.unusedVariables false

theorem R_fresh {w' : World} {n : Nat} {v : Value} {ys : List S71} (h : Kd.R k71 71 w' n (fun _ => True) v ys) {ok : Nat → Prop} {base : Nat} (hok : ∀ k, n ≤ k → ok k) (hb : base ≤ n) : Kd.R k71 71 w' base ok v ys :=
  Kd.R_lower (Kd.R_mono (Kd.R_bound h) (fun k hk => hok k hk.2.1)) hb

theorem rbucket_any {r b : Int} {xs : List S71} (hI : RInv r b xs) (d t : Int) (ht : t ≤ 1099511627776) (key : ByteArray) (x : Bk) (is : Bool) (hx : bkOf r b (toB xs) key.data.toList t = (x, is)) (A : Option Addr) (cap : Nat) (w : World) (hC : Kd.C k71 w A xs.length xs) (hcap : xs.length ≤ cap) :
    Calls Try.prog 32 #[.agg #[.int .i64 r, .int .i64 b, .slice A xs.length cap, .int .i64 d], .string key, .int .i64 t] w fun e w' => e = .returned (.tuple #[.agg #[.string key, .int .i64 x.1, .int .i64 x.2], .bool is]) ∧ Below w.heap.size w w' :=
  watchfireref30_Limiter_bucket.calls (xs.length + 1) r b A cap xs d key t key x.1 x.2 is w hC hcap (bucket_f hI d t ht key x is hx)

theorem rleft_yes {r b : Int} {xs : List S71} (hI : RInv r b xs) (d t : Int) (ht0 : 0 ≤ t) (ht : t ≤ 1099511627776) (key : ByteArray) (x : Bk) (is : Bool) (hx : bkOf r b (toB xs) key.data.toList t = (x, is)) (hx0 : 0 ≤ x.1) (hx1 : x.1 ≤ 1000000000) (A : Option Addr) (cap : Nat) (w : World) (hC : Kd.C k71 w A xs.length xs) (hcap : xs.length ≤ cap) :
    Calls Try.prog 27 #[.agg #[.int .i64 r, .int .i64 b, .slice A xs.length cap, .int .i64 d], .string key, .int .i64 t] w fun e w' => e = .returned (.int .i64 (x.1 / 1000)) ∧ Below w.heap.size w w' := by
  have HC := Lib.hid hC
  have HI := Lib.hid hI
  have HX := Lib.hid hx
  clear hC hI hx
  go_enter Try.func27, Try.ntmps27
  go_wp2_with (first | (go_at_call 30; refine (time_yes t _ ht0 ht).mono ?_; rintro e w' ⟨rfl, rfl⟩) | fail)
  refine (rbucket_any HI.out d t ht key x is HX.out A cap _ (Kd.C_below HC.out ((Below.refl _ _).alloc (Nat.le_refl _) _)) hcap).mono ?_
  rintro e w1 ⟨rfl, hb1⟩
  have HB := Lib.hid (((Below.refl w.heap.size w).alloc (Nat.le_refl _) _).trans (hb1.mono (by simp)))
  clear hb1
  go_wp2
  go_ret
  exact ⟨rfl, HB.out.alloc HB.out.size _⟩

theorem rleft_no (r b d t : Int) (V : Value) (hV : ∃ A n c, V = .slice A n c) (key : ByteArray) (h : ¬ (0 ≤ t ∧ t ≤ 1099511627776)) (w : World) :
    Calls Try.prog 27 #[.agg #[.int .i64 r, .int .i64 b, V, .int .i64 d], .string key, .int .i64 t] w fun e w' => e = .returned (.int .i64 0) ∧ Below w.heap.size w w' := by
  obtain ⟨A, n, c, rfl⟩ := hV
  have HH := Lib.hid h
  clear h
  go_enter Try.func27, Try.ntmps27
  go_wp2_with (first | (go_at_call 30; refine (time_no t _ HH.out).mono ?_; rintro e w' ⟨rfl, rfl⟩) | fail)
  go_ret
  exact ⟨rfl, (Below.refl _ _).alloc (Nat.le_refl _) _⟩

theorem rnext_yes {r b : Int} {xs : List S71} (hI : RInv r b xs) (d t : Int) (ht0 : 0 ≤ t) (ht : t ≤ 1099511627776) (key : ByteArray) (x : Bk) (is : Bool) (hx : bkOf r b (toB xs) key.data.toList t = (x, is)) (hx0 : 0 ≤ x.1) (hx2 : t ≤ x.2 ∧ x.2 ≤ 1099511627776) (A : Option Addr) (cap : Nat) (w : World) (hC : Kd.C k71 w A xs.length xs) (hcap : xs.length ≤ cap) :
    Calls Try.prog 28 #[.agg #[.int .i64 r, .int .i64 b, .slice A xs.length cap, .int .i64 d], .string key, .int .i64 t] w fun e w' => e = .returned (.int .i64 (nextM r x t)) ∧ Below w.heap.size w w' := by
  obtain ⟨k, hk⟩ := next_f hI d t ht0 ht key x is hx hx0 hx2
  exact watchfireref30_Limiter_Next.calls k r b A cap xs d key t _ w hC hcap hk

theorem rnext_no {r b : Int} {xs : List S71} (d t : Int) (key : ByteArray) (h : ¬ (0 ≤ t ∧ t ≤ 1099511627776)) (A : Option Addr) (cap : Nat) (w : World) (hC : Kd.C k71 w A xs.length xs) (hcap : xs.length ≤ cap) :
    Calls Try.prog 28 #[.agg #[.int .i64 r, .int .i64 b, .slice A xs.length cap, .int .i64 d], .string key, .int .i64 t] w fun e w' => e = .returned (.int .i64 0) ∧ Below w.heap.size w w' :=
  watchfireref30_Limiter_Next.calls 0 r b A cap xs d key t 0 w hC hcap (by unfold watchfireref30_Limiter_Next.f; rw [time_f_no h]; rfl)

/-- What the reference's Allow comes to. -/
def RaPost (w : World) (base : Nat) (ok : Nat → Prop) (r b d : Int) (is : Bool) (ys : List S71) (e : Ending) (w' : World) : Prop :=
  ∃ v : Value, e = .returned (.tuple #[.agg #[.int .i64 r, .int .i64 b, v, .int .i64 d], .bool is]) ∧ Kd.R k71 71 w' base ok v ys ∧ Below w.heap.size w w'

theorem rallow_bad (w : World) (V : Value) (base : Nat) (ok : Nat → Prop) (r b d t : Int) (xs : List S71) (hR : Kd.R k71 71 w base ok V xs) (key : ByteArray) (h : ¬ (0 ≤ t ∧ t ≤ 1099511627776)) (hd : 0 ≤ d ∧ d ≤ 1000000000) :
    Calls Try.prog 26 #[.agg #[.int .i64 r, .int .i64 b, V, .int .i64 d], .string key, .int .i64 t] w (RaPost w base ok r b (d + 1) false xs) := by
  obtain ⟨A, c, rfl⟩ := Kd.R_slice hR
  obtain ⟨hd0, hd1⟩ := hd
  have HH := Lib.hid h
  have HR := Lib.hid hR
  clear h hR
  go_enter Try.func26, Try.ntmps26
  go_wp2_with (first | (go_at_call 30; refine (time_no t _ HH.out).mono ?_; rintro e w' ⟨rfl, rfl⟩) | fail)
  refine bodyPost_ret (v := .tuple #[.agg #[.int .i64 r, .int .i64 b, .slice A xs.length c, .int .i64 (d + 1)], .bool false]) ?_ rfl ⟨_, rfl, ?_, ?_⟩
  · simp only [results, Try.results26]
    go_simp
  · exact Kd.R_below HR.out (((Below.refl _ _).alloc (Nat.le_refl _) _).alloc (by simp) _)
  · exact ((Below.refl _ _).alloc (Nat.le_refl _) _).alloc (by simp) _

set_option maxHeartbeats 1000000 in
theorem rallow_hit_no (w : World) (V : Value) (base : Nat) (ok : Nat → Prop) (r b d t : Int) (xs : List S71) (hI : RInv r b xs) (hR : Kd.R k71 71 w base ok V xs) (hbase : base ≤ w.heap.size) (hok : ∀ k, w.heap.size ≤ k → ok k) (key : ByteArray) (ht0 : 0 ≤ t) (ht : t ≤ 1099511627776) (hd : 0 ≤ d ∧ d ≤ 1000000000)
    (x : Bk) (hx : bkOf r b (toB xs) key.data.toList t = (x, true)) (hlow : x.1 < 1000) :
    Calls Try.prog 26 #[.agg #[.int .i64 r, .int .i64 b, V, .int .i64 d], .string key, .int .i64 t] w (RaPost w base ok r b (d + 1) false (withS xs ⟨key, x.1, x.2⟩)) := by
  obtain ⟨A, c, rfl, hcap, hC⟩ := Kd.R_reads hR
  obtain ⟨hd0, hd1⟩ := hd
  have HC := Lib.hid hC
  have HI := Lib.hid hI
  have HX := Lib.hid hx
  have HR := Lib.hid hR
  have hfew := hI.few
  have hlt0 : xs.length = xs.length := rfl
  clear hC hI hx hR hlt0
  go_enter Try.func26, Try.ntmps26
  go_wp2_with (first | (go_at_call 30; refine (time_yes t _ ht0 ht).mono ?_; rintro e w' ⟨rfl, rfl⟩) | fail)
  have hst := fg_start w A c r b d t xs
  have HST := Lib.hid hst
  refine (rbucket_any HI.out d t ht key x true HX.out A c _ (Kd.C_below HC.out hst.bel) hcap).mono ?_
  rintro e w1 ⟨rfl, hb1⟩
  have h1 := HST.out.below hb1
  have hz0 : w.heap.size < w1.heap.size := (Array.getElem?_eq_some_iff.1 h1.b2).1
  have hz1 : w.heap.size + 1 < w1.heap.size := (Array.getElem?_eq_some_iff.1 h1.b4).1
  have k20 := (cells_of h1.b2 0).1
  have k21 := (cells_of h1.b2 1).1
  have k22 := (cells_of h1.b2 2).1
  have k23 := (cells_of h1.b2 3).1
  have f20 := (cells_of h1.b2 0).2
  have f21 := (cells_of h1.b2 1).2
  have f22 := (cells_of h1.b2 2).2
  have f23 := (cells_of h1.b2 3).2
  simp only [List.getElem?_toArray, List.getElem?_cons_succ, List.getElem?_cons_zero] at k20 k21 k22 k23
  have HB1 := Lib.hid h1.bel
  have HG4 := Lib.hid h1.b4
  clear hb1 h1 hst HST
  go_wp2_with fail
  obtain ⟨Wc, hWc⟩ : ∃ W, (w1.setCell ⟨w.heap.size, 3, none⟩ (.int .i64 (d + 1))).alloc (.cells #[.string key, .int .i64 x.1, .int .i64 x.2] 71) = W := ⟨_, rfl⟩
  have hbc : Below w.heap.size w Wc := by rw [← hWc]; exact (HB1.out.setCell (by simp) _).alloc (by simp [World.setCell]; omega) _
  have hgc : Wc.heap[w.heap.size + 1]? = some (.cells #[.int .i64 0, .int .i64 0, .slice none 0 0, .int .i64 0] 44) := by
    rw [← hWc]; rw [Below.heap_alloc _ _ _ (by simp [World.setCell]; omega), Below.heap_setCell _ _ _ _ (by simp)]; exact HG4.out
  rw [hWc]
  have HBC := Lib.hid hbc
  have HGC := Lib.hid hgc
  have hzc : w.heap.size + 1 < Wc.heap.size := (Array.getElem?_eq_some_iff.1 hgc).1
  clear hWc hbc hgc k20 k21 k22 k23 f20 f21 f22 f23
  refine (with_any Wc A c r b (d + 1) xs ⟨key, x.1, x.2⟩ (Kd.C_below HC.out HBC.out) hcap hfew).mono ?_
  rintro e w3 ⟨v3, rfl, hr3, hb3⟩
  obtain ⟨A3, c3, hv3⟩ := Kd.R_slice hr3
  subst hv3
  have hb4 := (hb3.block _ hzc).trans HGC.out
  have j40 := (cells_of hb4 0).1
  have j41 := (cells_of hb4 1).1
  have j42 := (cells_of hb4 2).1
  have j43 := (cells_of hb4 3).1
  have f40 := (cells_of hb4 0).2
  have f41 := (cells_of hb4 1).2
  have f42 := (cells_of hb4 2).2
  have f43 := (cells_of hb4 3).2
  simp only [List.getElem?_toArray, List.getElem?_cons_succ, List.getElem?_cons_zero] at j40 j41 j42 j43
  have HR3 := Lib.hid (Kd.R_mono (Kd.R_bound hr3) (fun k hk => hk.2.1))
  have HB3 := Lib.hid (HBC.out.trans (hb3.mono (by omega)))
  clear hr3 hb3 hb4
  obtain ⟨n3, hn3⟩ : ∃ n, (withS xs ⟨key, x.1, x.2⟩).length = n := ⟨_, rfl⟩
  rw [hn3] at HR3
  rw [hn3]
  clear hn3
  go_wp2
  refine bodyPost_ret (v := .tuple #[.agg #[.int .i64 r, .int .i64 b, .slice A3 n3 c3, .int .i64 (d + 1)], .bool false]) ?_ rfl ⟨_, rfl, ?_, ?_⟩
  · simp only [results, Try.results26]
    go_simp
  · refine Kd.R_lower (base := Wc.heap.size) (Kd.R_mono (ok := fun k => Wc.heap.size ≤ k) ?_ (fun k hk => hok k (by omega))) (by omega)
    repeat (with_reducible first | exact HR3.out | refine Kd.R_far ?_ (fun k hk => by simp only; omega) _)
  · repeat (with_reducible first | exact HB3.out | refine Below.setCell ?_ (by simp only; omega) _)

set_option maxHeartbeats 1000000 in
theorem rallow_hit_yes (w : World) (V : Value) (base : Nat) (ok : Nat → Prop) (r b d t : Int) (xs : List S71) (hI : RInv r b xs) (hR : Kd.R k71 71 w base ok V xs) (hbase : base ≤ w.heap.size) (hok : ∀ k, w.heap.size ≤ k → ok k) (key : ByteArray) (ht0 : 0 ≤ t) (ht : t ≤ 1099511627776) (hd : 0 ≤ d ∧ d ≤ 1000000000)
    (x : Bk) (hx : bkOf r b (toB xs) key.data.toList t = (x, true)) (hhigh : 1000 ≤ x.1) (hx1 : x.1 ≤ 1000000000) :
    Calls Try.prog 26 #[.agg #[.int .i64 r, .int .i64 b, V, .int .i64 d], .string key, .int .i64 t] w (RaPost w base ok r b d true (withS xs ⟨key, x.1 - 1000, x.2⟩)) := by
  obtain ⟨A, c, rfl, hcap, hC⟩ := Kd.R_reads hR
  obtain ⟨hd0, hd1⟩ := hd
  have HC := Lib.hid hC
  have HI := Lib.hid hI
  have HX := Lib.hid hx
  have HR := Lib.hid hR
  have hfew := hI.few
  have hlt0 : xs.length = xs.length := rfl
  clear hC hI hx hR hlt0
  go_enter Try.func26, Try.ntmps26
  go_wp2_with (first | (go_at_call 30; refine (time_yes t _ ht0 ht).mono ?_; rintro e w' ⟨rfl, rfl⟩) | fail)
  have hst := fg_start w A c r b d t xs
  have HST := Lib.hid hst
  refine (rbucket_any HI.out d t ht key x true HX.out A c _ (Kd.C_below HC.out hst.bel) hcap).mono ?_
  rintro e w1 ⟨rfl, hb1⟩
  have h1 := HST.out.below hb1
  have hz0 : w.heap.size < w1.heap.size := (Array.getElem?_eq_some_iff.1 h1.b2).1
  have hz1 : w.heap.size + 1 < w1.heap.size := (Array.getElem?_eq_some_iff.1 h1.b4).1
  have k20 := (cells_of h1.b2 0).1
  have k21 := (cells_of h1.b2 1).1
  have k22 := (cells_of h1.b2 2).1
  have k23 := (cells_of h1.b2 3).1
  have f20 := (cells_of h1.b2 0).2
  have f21 := (cells_of h1.b2 1).2
  have f22 := (cells_of h1.b2 2).2
  have f23 := (cells_of h1.b2 3).2
  simp only [List.getElem?_toArray, List.getElem?_cons_succ, List.getElem?_cons_zero] at k20 k21 k22 k23
  have HB1 := Lib.hid h1.bel
  have HG4 := Lib.hid h1.b4
  clear hb1 h1 hst HST
  go_wp2_with fail
  obtain ⟨Wc, hWc⟩ : ∃ W, w1.alloc (.cells #[.string key, .int .i64 (x.1 - 1000), .int .i64 x.2] 71) = W := ⟨_, rfl⟩
  have hbc : Below w.heap.size w Wc := by rw [← hWc]; exact HB1.out.alloc (by omega) _
  have hgc : Wc.heap[w.heap.size + 1]? = some (.cells #[.int .i64 0, .int .i64 0, .slice none 0 0, .int .i64 0] 44) := by
    rw [← hWc]; rw [Below.heap_alloc _ _ _ (by omega)]; exact HG4.out
  rw [hWc]
  have HBC := Lib.hid hbc
  have HGC := Lib.hid hgc
  have hzc : w.heap.size + 1 < Wc.heap.size := (Array.getElem?_eq_some_iff.1 hgc).1
  clear hWc hbc hgc k20 k21 k22 k23 f20 f21 f22 f23
  refine (with_any Wc A c r b d xs ⟨key, x.1 - 1000, x.2⟩ (Kd.C_below HC.out HBC.out) hcap hfew).mono ?_
  rintro e w3 ⟨v3, rfl, hr3, hb3⟩
  obtain ⟨A3, c3, hv3⟩ := Kd.R_slice hr3
  subst hv3
  have hb4 := (hb3.block _ hzc).trans HGC.out
  have j40 := (cells_of hb4 0).1
  have j41 := (cells_of hb4 1).1
  have j42 := (cells_of hb4 2).1
  have j43 := (cells_of hb4 3).1
  have f40 := (cells_of hb4 0).2
  have f41 := (cells_of hb4 1).2
  have f42 := (cells_of hb4 2).2
  have f43 := (cells_of hb4 3).2
  simp only [List.getElem?_toArray, List.getElem?_cons_succ, List.getElem?_cons_zero] at j40 j41 j42 j43
  have HR3 := Lib.hid (Kd.R_mono (Kd.R_bound hr3) (fun k hk => hk.2.1))
  have HB3 := Lib.hid (HBC.out.trans (hb3.mono (by omega)))
  clear hr3 hb3 hb4
  obtain ⟨n3, hn3⟩ : ∃ n, (withS xs ⟨key, x.1 - 1000, x.2⟩).length = n := ⟨_, rfl⟩
  rw [hn3] at HR3
  rw [hn3]
  clear hn3
  go_wp2
  refine bodyPost_ret (v := .tuple #[.agg #[.int .i64 r, .int .i64 b, .slice A3 n3 c3, .int .i64 d], .bool true]) ?_ rfl ⟨_, rfl, ?_, ?_⟩
  · simp only [results, Try.results26]
    go_simp
  · refine Kd.R_lower (base := Wc.heap.size) (Kd.R_mono (ok := fun k => Wc.heap.size ≤ k) ?_ (fun k hk => hok k (by omega))) (by omega)
    repeat (with_reducible first | exact HR3.out | refine Kd.R_far ?_ (fun k hk => by simp only; omega) _)
  · repeat (with_reducible first | exact HB3.out | refine Below.setCell ?_ (by simp only; omega) _)

set_option maxRecDepth 100000 in
set_option maxHeartbeats 1000000 in
theorem rallow_few (w : World) (V : Value) (base : Nat) (ok : Nat → Prop) (r b d t : Int) (xs : List S71) (hI : RInv r b xs) (hR : Kd.R k71 71 w base ok V xs) (hbase : base ≤ w.heap.size) (hok : ∀ k, w.heap.size ≤ k → ok k) (key : ByteArray) (ht0 : 0 ≤ t) (ht : t ≤ 1099511627776) (hd : 0 ≤ d ∧ d ≤ 1000000000)
    (x : Bk) (hx : bkOf r b (toB xs) key.data.toList t = (x, false)) (hhigh : 1000 ≤ x.1) (hx1 : x.1 ≤ 1000000000) (hlen : xs.length < 256) :
    Calls Try.prog 26 #[.agg #[.int .i64 r, .int .i64 b, V, .int .i64 d], .string key, .int .i64 t] w (RaPost w base ok r b d true (withS xs ⟨key, x.1 - 1000, x.2⟩)) := by
  obtain ⟨A, c, rfl, hcap, hC⟩ := Kd.R_reads hR
  obtain ⟨hd0, hd1⟩ := hd
  have HC := Lib.hid hC
  have HI := Lib.hid hI
  have HX := Lib.hid hx
  have HR := Lib.hid hR
  have hfew := hI.few
  have hlt0 : xs.length = xs.length := rfl
  clear hC hI hx hR hlt0
  go_enter Try.func26, Try.ntmps26
  go_wp2_with (first | (go_at_call 30; refine (time_yes t _ ht0 ht).mono ?_; rintro e w' ⟨rfl, rfl⟩) | fail)
  have hst := fg_start w A c r b d t xs
  have HST := Lib.hid hst
  refine (rbucket_any HI.out d t ht key x false HX.out A c _ (Kd.C_below HC.out hst.bel) hcap).mono ?_
  rintro e w1 ⟨rfl, hb1⟩
  have h1 := HST.out.below hb1
  have hz0 : w.heap.size < w1.heap.size := (Array.getElem?_eq_some_iff.1 h1.b2).1
  have hz1 : w.heap.size + 1 < w1.heap.size := (Array.getElem?_eq_some_iff.1 h1.b4).1
  have k20 := (cells_of h1.b2 0).1
  have k21 := (cells_of h1.b2 1).1
  have k22 := (cells_of h1.b2 2).1
  have k23 := (cells_of h1.b2 3).1
  have f20 := (cells_of h1.b2 0).2
  have f21 := (cells_of h1.b2 1).2
  have f22 := (cells_of h1.b2 2).2
  have f23 := (cells_of h1.b2 3).2
  simp only [List.getElem?_toArray, List.getElem?_cons_succ, List.getElem?_cons_zero] at k20 k21 k22 k23
  have HB1 := Lib.hid h1.bel
  have HG4 := Lib.hid h1.b4
  clear hb1 h1 hst HST
  go_wp2_with fail
  obtain ⟨Wc, hWc⟩ : ∃ W, w1.alloc (.cells #[.string key, .int .i64 (x.1 - 1000), .int .i64 x.2] 71) = W := ⟨_, rfl⟩
  have hbc : Below w.heap.size w Wc := by rw [← hWc]; exact HB1.out.alloc (by omega) _
  have hgc : Wc.heap[w.heap.size + 1]? = some (.cells #[.int .i64 0, .int .i64 0, .slice none 0 0, .int .i64 0] 44) := by
    rw [← hWc]; rw [Below.heap_alloc _ _ _ (by omega)]; exact HG4.out
  rw [hWc]
  have HBC := Lib.hid hbc
  have HGC := Lib.hid hgc
  have hzc : w.heap.size + 1 < Wc.heap.size := (Array.getElem?_eq_some_iff.1 hgc).1
  clear hWc hbc hgc k20 k21 k22 k23 f20 f21 f22 f23
  refine (with_any Wc A c r b d xs ⟨key, x.1 - 1000, x.2⟩ (Kd.C_below HC.out HBC.out) hcap hfew).mono ?_
  rintro e w3 ⟨v3, rfl, hr3, hb3⟩
  obtain ⟨A3, c3, hv3⟩ := Kd.R_slice hr3
  subst hv3
  have hb4 := (hb3.block _ hzc).trans HGC.out
  have j40 := (cells_of hb4 0).1
  have j41 := (cells_of hb4 1).1
  have j42 := (cells_of hb4 2).1
  have j43 := (cells_of hb4 3).1
  have f40 := (cells_of hb4 0).2
  have f41 := (cells_of hb4 1).2
  have f42 := (cells_of hb4 2).2
  have f43 := (cells_of hb4 3).2
  simp only [List.getElem?_toArray, List.getElem?_cons_succ, List.getElem?_cons_zero] at j40 j41 j42 j43
  have HR3 := Lib.hid (Kd.R_mono (Kd.R_bound hr3) (fun k hk => hk.2.1))
  have HB3 := Lib.hid (HBC.out.trans (hb3.mono (by omega)))
  clear hr3 hb3 hb4
  obtain ⟨n3, hn3⟩ : ∃ n, (withS xs ⟨key, x.1 - 1000, x.2⟩).length = n := ⟨_, rfl⟩
  rw [hn3] at HR3
  rw [hn3]
  clear hn3
  go_wp2
  refine bodyPost_ret (v := .tuple #[.agg #[.int .i64 r, .int .i64 b, .slice A3 n3 c3, .int .i64 d], .bool true]) ?_ rfl ⟨_, rfl, ?_, ?_⟩
  · simp only [results, Try.results26]
    go_simp
  · refine Kd.R_lower (base := Wc.heap.size) (Kd.R_mono (ok := fun k => Wc.heap.size ≤ k) ?_ (fun k hk => hok k (by omega))) (by omega)
    repeat (with_reducible first | exact HR3.out | refine Kd.R_far ?_ (fun k hk => by simp only; omega) _)
  · repeat (with_reducible first | exact HB3.out | refine Below.setCell ?_ (by simp only; omega) _)

end Go.Proofs.Ytgphhjghodhodaa
