/- The walk of the reference's Forget. -/
import Derived.Test.YtgphhjghodhodaaRefA
namespace Go.Proofs.Ytgphhjghodhodaa
open Go.RowKit Go.Maps Go.WideMaps Go.Proofs.YtgphhjghodhodaaMp Go.Proofs.YtgphhjghodhodaaW.PrintWords Go.Proofs.Ytgphhjghodhodaa.PNext
set_option linter.unusedVariables false

/-- What holds of the reference's buckets. -/
structure RInv (r b : Int) (xs : List S71) : Prop where
  r0 : 1 ≤ r
  r1 : r ≤ 1000000
  b0 : 1 ≤ b
  b1 : b ≤ 1000000
  few : xs.length ≤ 1000000
  inv : ∀ x ∈ xs, 0 ≤ x.f1 ∧ x.f1 ≤ 1000 * b ∧ 0 ≤ x.f2 ∧ x.f2 ≤ 1099511627776

theorem at_f {r b : Int} {xs l : List S71} (h : RInv r b xs) (d : Int) (x : S71) (hx : x ∈ xs) (t : Int) (ht : t ≤ 1099511627776) :
    watchfireref30_Limiter_at.f r b l d x.f0 x.f1 x.f2 t = some (x.f0, (bkAt r b (x.f1, x.f2) t).1, (bkAt r b (x.f1, x.f2) t).2) := by
  obtain ⟨h0, h1, h2, h3⟩ := h.inv x hx
  have r0 := h.r0
  have r1 := h.r1
  have b0 := h.b0
  have b1 := h.b1
  unfold watchfireref30_Limiter_at.f bkAt
  by_cases c : t > x.f2
  · rw [if_pos c, if_neg (by simp only; omega)]
    have hm0 : 0 ≤ r * (t - x.f2) := Int.mul_nonneg (by omega) (by omega)
    have hm1 : r * (t - x.f2) ≤ 1000000 * 1099511627776 := Int.mul_le_mul r1 (by omega) (by omega) (by omega)
    have e1 : wrap64 (t - x.f2) = t - x.f2 := by unfold wrap64; omega
    have e2 : wrap64 (r * (t - x.f2)) = r * (t - x.f2) := by unfold wrap64; omega
    have e3 : wrap64 (x.f1 + r * (t - x.f2)) = x.f1 + r * (t - x.f2) := by unfold wrap64; omega
    have e4 : wrap64 (1000 * b) = 1000 * b := by unfold wrap64; omega
    rw [e1, e2, e3, e4]
    have e5 : mn (1000 * b) (x.f1 + r * (t - x.f2)) = min (1000 * b) (x.f1 + r * (t - x.f2)) := by unfold mn; split <;> omega
    rw [e5]
  · rw [if_neg c, if_pos (by simp only; omega)]

theorem time_yes (t : Int) (w : World) (h0 : 0 ≤ t) (h1 : t ≤ 1099511627776) : Calls Try.prog 30 #[.int .i64 t] w fun e w' => e = .returned (.bool true) ∧ w = w' := by
  go_enter Try.func30, Try.ntmps30
  go_wp2
  go_ret
  exact ⟨by simp [*], rfl⟩
theorem time_no (t : Int) (w : World) (h : ¬ (0 ≤ t ∧ t ≤ 1099511627776)) : Calls Try.prog 30 #[.int .i64 t] w fun e w' => e = .returned (.bool false) ∧ w = w' := by
  by_cases h0 : 0 ≤ t <;> by_cases h1 : t ≤ 1099511627776
  · exact absurd ⟨h0, h1⟩ h
  all_goals
    clear h
    go_enter Try.func30, Try.ntmps30
    go_wp2
    go_ret
    exact ⟨by simp [*], rfl⟩

def keepS (r b t : Int) (x : S71) : Bool := decide ((bkAt r b (x.f1, x.f2) t).1 < 1000 * b)

/-- Where the loop of the reference's Forget stands. -/
structure FgRel (w wr : World) (A : Option Addr) (cap : Nat) (r b d t : Int) (xs : List S71) (i : Nat) (v6 : Value) : Prop where
  row : Kd.R k71 71 wr w.heap.size (fun k => k ≠ w.heap.size ∧ k ≠ w.heap.size + 1) v6 ((xs.take i).filter (keepS r b t))
  b2 : wr.heap[w.heap.size]? = some (.cells #[.int .i64 r, .int .i64 b, .slice A xs.length cap, .int .i64 d] 44)
  b4 : wr.heap[w.heap.size + 1]? = some (.cells #[.int .i64 0, .int .i64 0, .slice none 0 0, .int .i64 0] 44)
  bel : Below w.heap.size w wr

/-- What it comes to. -/
def FgPost (w : World) (r b d : Int) (ys : List S71) (n : Int) (e : Ending) (w' : World) : Prop :=
  ∃ v : Value, e = .returned (.tuple #[.agg #[.int .i64 r, .int .i64 b, v, .int .i64 d], .int .i64 n]) ∧ Kd.R k71 71 w' w.heap.size (fun k => True) v ys ∧ Below w.heap.size w w'

theorem fg_start (w : World) (A : Option Addr) (cap : Nat) (r b d t : Int) (xs : List S71) :
    FgRel w ((w.alloc (.cells #[.int .i64 r, .int .i64 b, .slice A xs.length cap, .int .i64 d] 44)).alloc (.cells #[.int .i64 0, .int .i64 0, .slice none 0 0, .int .i64 0] 44)) A cap r b d t xs 0 (.slice none 0 0) := by
  have h1 := heap_alloc_new w (.cells #[.int .i64 r, .int .i64 b, .slice A xs.length cap, .int .i64 d] 44)
  have h3 := heap_alloc_new (w.alloc (.cells #[.int .i64 r, .int .i64 b, .slice A xs.length cap, .int .i64 d] 44)) (.cells #[.int .i64 0, .int .i64 0, .slice none 0 0, .int .i64 0] 44)
  rw [show (w.alloc (.cells #[.int .i64 r, .int .i64 b, .slice A xs.length cap, .int .i64 d] 44)).heap.size = w.heap.size + 1 by simp] at h3
  refine ⟨Kd.R_nil _ _ _ _ _, ?_, h3, ((Below.refl _ _).alloc (Nat.le_refl _) _).alloc (by simp) _⟩
  rw [Below.heap_alloc _ _ _ (by simp)]; exact h1

theorem FgRel.below {w wr W : World} {A : Option Addr} {cap : Nat} {r b d t : Int} {xs : List S71} {i : Nat} {v6 : Value} (h : FgRel w wr A cap r b d t xs i v6) (hb : Below wr.heap.size wr W) : FgRel w W A cap r b d t xs i v6 :=
  ⟨Kd.R_below h.row hb, (hb.block _ (Array.getElem?_eq_some_iff.1 h.b2).1).trans h.b2, (hb.block _ (Array.getElem?_eq_some_iff.1 h.b4).1).trans h.b4, h.bel.trans (hb.mono h.bel.size)⟩

theorem FgRel.same {w wr : World} {A : Option Addr} {cap : Nat} {r b d t : Int} {xs : List S71} {i : Nat} {v6 : Value} (h : FgRel w wr A cap r b d t xs i v6) (hi : i < xs.length) (hk : keepS r b t (rd_T71 xs i) = false) : FgRel w wr A cap r b d t xs (i + 1) v6 := by
  refine ⟨?_, h.b2, h.b4, h.bel⟩
  rw [take_succ_S xs i hi, List.filter_append]
  simpa [hk] using h.row

theorem FgRel.more {w wr w1 : World} {A : Option Addr} {cap : Nat} {r b d t : Int} {xs : List S71} {i : Nat} {v6 v1 : Value} (h : FgRel w wr A cap r b d t xs i v6) (hi : i < xs.length) (hk : keepS r b t (rd_T71 xs i) = true)
    (hR : Kd.R k71 71 w1 w.heap.size (fun k => k ≠ w.heap.size ∧ k ≠ w.heap.size + 1) v1 ((xs.take i).filter (keepS r b t) ++ [rd_T71 xs i])) (hB : Below w.heap.size w w1) (hg : wr.grownBy w1 v6.ownBlock) : FgRel w w1 A cap r b d t xs (i + 1) v1 := by
  have keep : ∀ k o, wr.heap[k]? = some o → (k = w.heap.size ∨ k = w.heap.size + 1) → w1.heap[k]? = some o := fun k o hk he => by
    have hlt : k < wr.heap.size := (Array.getElem?_eq_some_iff.1 hk).1
    rw [hg.block k hlt (fun e => by have := h.row.1 k e.symm; omega), hk]
  refine ⟨?_, keep _ _ h.b2 (by omega), keep _ _ h.b4 (by omega), hB⟩
  rw [take_succ_S xs i hi, List.filter_append]
  simpa [hk] using hR

theorem rd_mem71 (xs : List S71) (i : Nat) (h : i < xs.length) : rd_T71 xs i ∈ xs := by
  unfold rd_T71
  rw [Int.toNat_natCast, List.getD_eq_getElem?_getD, List.getElem?_eq_getElem h]
  exact List.getElem_mem h

set_option maxHeartbeats 1000000 in
theorem rforget_yes (w : World) (A : Option Addr) (cap : Nat) (r b d t : Int) (xs : List S71) (hI : RInv r b xs) (ht0 : 0 ≤ t) (ht : t ≤ 1099511627776) (hC : Kd.C k71 w A xs.length xs) (hcap : xs.length ≤ cap) :
    Calls Try.prog 25 #[.agg #[.int .i64 r, .int .i64 b, .slice A xs.length cap, .int .i64 d], .int .i64 t] w (FgPost w r b d (xs.filter (keepS r b t)) ((xs.length : Int) - ((xs.filter (keepS r b t)).length : Int))) := by
  have HC := Lib.hid hC
  have HI := Lib.hid hI
  have hb0 := hI.b0
  have hb1 := hI.b1
  have hfew := hI.few
  clear hC hI
  go_enter Try.func25, Try.ntmps25
  go_wp2_with (first | (go_at_call 30; refine (time_yes t _ ht0 ht).mono ?_; rintro e w' ⟨rfl, rfl⟩) | fail)
  go_loopw [6, 7] (fun v6 v7 wr => ∃ i : Nat, i ≤ xs.length ∧ v7 = .int .i64 i ∧ FgRel w wr A cap r b d t xs i v6) (fun _ v7 _ => xs.length - (intOf v7).toNat)
  case atStart => exact ⟨0, by omega, rfl, fg_start w A cap r b d t xs⟩
  case round =>
    obtain ⟨i, hi, rfl, hR⟩ := hrel
    have k20 := (cells_of hR.b2 0).1
    have k21 := (cells_of hR.b2 1).1
    have k22 := (cells_of hR.b2 2).1
    have k23 := (cells_of hR.b2 3).1
    simp only [List.getElem?_toArray, List.getElem?_cons_succ, List.getElem?_cons_zero] at k20 k21 k22 k23
    have hsz : w.heap.size + 1 < wr.heap.size := (Array.getElem?_eq_some_iff.1 hR.b4).1
    have hs0 : w.heap.size < wr.heap.size := by omega
    have HR := Lib.hid hR
    clear hR
    by_cases hlt : i < xs.length
    · obtain ⟨ad, rfl, q0, q1, q2⟩ := at_S (Kd.C_below HC.out HR.out.bel) i hlt
      have hblk : (ad.add (i * 3)).block < wr.heap.size := World.block_lt_of_cell? wr _ q0
      have hmem := rd_mem71 xs i hlt
      obtain ⟨x, hx⟩ : ∃ x, rd_T71 xs i = x := ⟨_, rfl⟩
      rw [hx] at q0 q1 q2 hmem
      have HX := Lib.hid hx
      have hat := at_f (l := xs) HI.out d x hmem t ht
      obtain ⟨x1, x2, hxx⟩ : ∃ x1 x2, bkAt r b (x.f1, x.f2) t = (x1, x2) := ⟨_, _, rfl⟩
      rw [hxx] at hat
      have HA := Lib.hid hat
      have HXX := Lib.hid hxx
      have hfd : ∀ w : World, (Instr.field 71 (.agg #[.string x.f0, .int .i64 x1, .int .i64 x2]) 1).run Try.prog w = .ok (.int .i64 x1) w := fun _ => by kernel_rfl
      have e1 : IntKind.i64.wrap (1000 * b) = 1000 * b := IntWalk.i64_in _ (by omega)
      clear hx hmem hat hxx
      go_wp2_with fail
      go_region_held3 (fun w' => w'.cell? ⟨w.heap.size, 0, none⟩ = some (.int .i64 r) ∧ w'.cell? ⟨w.heap.size, 1, none⟩ = some (.int .i64 b) ∧ w'.cell? ⟨w.heap.size, 2, none⟩ = some (.slice (some ad) xs.length cap) ∧ w'.cell? ⟨w.heap.size, 3, none⟩ = some (.int .i64 d) ∧
          w'.cell? (ad.add (i * 3)) = some (.string x.f0) ∧ w'.cell? ⟨(ad.add (i * 3)).block, (ad.add (i * 3)).off + 1, none⟩ = some (.int .i64 x.f1) ∧ w'.cell? ⟨(ad.add (i * 3)).block, (ad.add (i * 3)).off + 2, none⟩ = some (.int .i64 x.f2))
        (first | go_keep | (exact ⟨by assumption, by assumption, by assumption, by assumption, by assumption, by assumption, by assumption⟩))
        (first | (go_at_call 31; refine (watchfireref30_Limiter_at.calls r b (some ad) cap xs d x.f0 x.f1 x.f2 t x.f0 x1 x2 _ (Kd.C_below HC.out (HR.out.bel.drew)) hcap HA.out).mono ?_; rintro e w7 ⟨rfl, hb70⟩; have hb7 : Below wr.heap.size wr w7 := ((Below.refl wr.heap.size wr).drew).trans hb70; have HR7 := Lib.hid (HR.out.below hb7); have n0 := ((bcell hb7).1 _ 0 hs0).trans k20; have n1 := ((bcell hb7).1 _ 1 hs0).trans k21; have n2 := ((bcell hb7).1 _ 2 hs0).trans k22; have n3 := ((bcell hb7).1 _ 3 hs0).trans k23; have m0 := (Below.cell hb7 hblk).trans q0; have m1 := ((bcell hb7).1 _ _ hblk).trans q1; have m2 := ((bcell hb7).1 _ _ hblk).trans q2; clear hb7 hb70))
      have hlen : (((xs.take i).filter (keepS r b t)).length + 1) * 32 ≤ 140737488355328 := by
        have h1 := List.length_filter_le (keepS r b t) (xs.take i)
        have h2 := List.length_take_le i xs
        omega
      have HLEN := Lib.hid hlen
      have hz7 : w.heap.size ≤ w7.heap.size := HR7.out.bel.size
      have hz8 : w.heap.size + 1 < w7.heap.size := (Array.getElem?_eq_some_iff.1 HR7.out.b4).1
      clear hlen q0 q1 q2 k20 k21 k22 k23
      by_cases hk : x1 < 1000 * b
      · have hks : keepS r b t (rd_T71 xs i) = true := by unfold keepS; rw [HX.out, HXX.out]; simpa using hk
        have HKS := Lib.hid hks
        clear hks
        go_wp2_with (first
          | (at_builtin; go_loud (refine append_at k71 (w0 := w) w.heap.size _ rfl _ _ 42 71 _ 32 rfl Try.underlying42 rinfo71 rfl (by decide) (by decide) u6 ((xs.take i).filter (keepS r b t)) x [.string x.f0, .int .i64 x.f1, .int .i64 x.f2] (fun k => k ≠ w.heap.size ∧ k ≠ w.heap.size + 1) (fun _ => False) rfl rfl (by simp) (k71_mkM _ _ _ x) (fun k h => h.elim) (fun k h => by omega) (by exact HR7.out.row) (by exact HR7.out.bel) hz7 HLEN.out ?_); intro v1 w1 hr1 hb1 hg1 hat1)
          | fail)
        have hm := HR7.out.more hlt HKS.out (by rw [HX.out]; exact hr1) hb1 hg1
        go_roundw
        case rel => exact ⟨i + 1, by omega, by go_num, hm⟩
        case measure => simp [intOf]; omega
      · have hks : keepS r b t (rd_T71 xs i) = false := by unfold keepS; rw [HX.out, HXX.out]; simpa using hk
        have HKS := Lib.hid hks
        clear hks
        go_wp2_with fail
        have hm := HR7.out.same hlt HKS.out
        go_roundw
        case rel => exact ⟨i + 1, by omega, by go_num, hm⟩
        case measure => simp [intOf]; omega
    · have hii : i = xs.length := by omega
      have htk : xs.take i = xs := by rw [hii]; exact List.take_length
      have hrow := HR.out.row
      rw [htk] at hrow
      have hb2 := HR.out.b2
      have f22 := (cells_of hb2 2).2
      have hb4 := HR.out.b4
      have k40 := (cells_of hb4 0).1
      have k41 := (cells_of hb4 1).1
      have k42 := (cells_of hb4 2).1
      have k43 := (cells_of hb4 3).1
      have f40 := (cells_of hb4 0).2
      have f41 := (cells_of hb4 1).2
      have f42 := (cells_of hb4 2).2
      have f43 := (cells_of hb4 3).2
      simp only [List.getElem?_toArray, List.getElem?_cons_succ, List.getElem?_cons_zero] at k40 k41 k42 k43
      have hbel := HR.out.bel
      clear htk hb4 hb2 HR
      obtain ⟨A5, c5, hv5⟩ := Kd.R_slice hrow
      subst hv5
      have HROW := Lib.hid hrow
      have HBEL := Lib.hid hbel
      clear hrow hbel
      have hle := List.length_filter_le (keepS r b t) xs
      obtain ⟨n5, hn5⟩ : ∃ n, (xs.filter (keepS r b t)).length = n := ⟨_, rfl⟩
      rw [hn5] at HROW hle
      rw [hn5]
      have HN5 := Lib.hid hn5
      clear hn5
      go_wp2
      refine bodyPost_ret (v := .tuple #[.agg #[.int .i64 r, .int .i64 b, .slice A5 n5 c5, .int .i64 d], .int .i64 ((xs.length : Int) - (n5 : Int))]) ?_ rfl ⟨_, by rw [HN5.out], ?_, ?_⟩
      · simp only [results, Try.results25]
        go_simp
      · refine Kd.R_mono (ok := fun k => k ≠ w.heap.size ∧ k ≠ w.heap.size + 1) ?_ (fun _ _ => trivial)
        repeat (with_reducible first | exact HROW.out | refine Kd.R_far ?_ (fun k hk => by simp only; omega) _)
      · repeat (with_reducible first | exact HBEL.out | refine Below.setCell ?_ (by simp only; omega) _)

theorem rforget_no (w : World) (V : Value) (r b d t : Int) (h : ¬ (0 ≤ t ∧ t ≤ 1099511627776)) (hV : ∃ A n c, V = .slice A n c) :
    Calls Try.prog 25 #[.agg #[.int .i64 r, .int .i64 b, V, .int .i64 d], .int .i64 t] w fun e w' => e = .returned (.tuple #[.agg #[.int .i64 r, .int .i64 b, V, .int .i64 d], .int .i64 0]) ∧ Below w.heap.size w w' := by
  obtain ⟨A, n, c, rfl⟩ := hV
  have HH := Lib.hid h
  clear h
  go_enter Try.func25, Try.ntmps25
  go_wp2_with (first | (go_at_call 30; refine (time_no t _ HH.out).mono ?_; rintro e w' ⟨rfl, rfl⟩) | fail)
  refine bodyPost_ret (v := .tuple #[.agg #[.int .i64 r, .int .i64 b, .slice A n c, .int .i64 d], .int .i64 0]) ?_ rfl ⟨rfl, ?_⟩
  · simp only [results, Try.results25]
    go_simp
  · exact ((Below.refl _ _).alloc (Nat.le_refl _) _).alloc (by simp) _

end Go.Proofs.Ytgphhjghodhodaa
