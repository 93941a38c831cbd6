/- The walk of the reference's 'with'. -/
import Derived.Test.YtgphhjghodhodaaPNextx
import Derived.Test.YtgphhjghodhodaaLimH
namespace Go.Proofs.Ytgphhjghodhodaa
open Go.RowKit Go.Maps Go.WideMaps Go.Proofs.YtgphhjghodhodaaMp Go.Proofs.YtgphhjghodhodaaW.PrintWords Go.Proofs.Ytgphhjghodhodaa.PNext
set_option linter.unusedVariables false

theorem rinfo71 : (Try.prog.info? 71).map (fun i => (i.zero, i.size, i.bytes)) = some (some (.agg #[(.string ⟨#[]⟩), (.int .i64 0), (.int .i64 0)]), 3, 32) := by kernel_rfl

def sameKeyS (b x : S71) : Bool := x.f0.toList == b.f0.toList
def repS (b x : S71) : S71 := if sameKeyS b x then b else x
def withS (xs : List S71) (b : S71) : List S71 := if xs.any (sameKeyS b) then xs.map (repS b) else xs ++ [b]

theorem at_S {w : World} {A : Option Addr} {xs : List S71} (h : Kd.C k71 w A xs.length xs) (i : Nat) (hi : i < xs.length) : ∃ ad, A = some ad ∧ w.cell? (ad.add (i * 3)) = some (.string (rd_T71 xs i).f0) ∧ w.cell? ⟨(ad.add (i * 3)).block, (ad.add (i * 3)).off + 1, none⟩ = some (.int .i64 (rd_T71 xs i).f1) ∧
    w.cell? ⟨(ad.add (i * 3)).block, (ad.add (i * 3)).off + 2, none⟩ = some (.int .i64 (rd_T71 xs i).f2) := by
  have := at_T71 h (i : Int) (by omega) (by omega)
  rwa [Int.toNat_natCast] at this

theorem take_succ_S (xs : List S71) (i : Nat) (h : i < xs.length) : xs.take (i + 1) = xs.take i ++ [rd_T71 xs i] := by
  rw [List.take_succ_eq_append_getElem h]
  unfold rd_T71
  rw [Int.toNat_natCast, List.getD_eq_getElem?_getD, List.getElem?_eq_getElem h]
  rfl

/-- Where the loop of 'with' stands. -/
structure WithRel (w wr : World) (A : Option Addr) (cap : Nat) (r b d : Int) (xs : List S71) (y : S71) (i : Nat) (v5 : Value) : Prop where
  row : Kd.R k71 71 wr w.heap.size (fun k => k ≠ w.heap.size ∧ k ≠ w.heap.size + 1 ∧ k ≠ w.heap.size + 1 + 1) v5 ((xs.take i).map (repS y))
  b2 : wr.heap[w.heap.size]? = some (.cells #[.int .i64 r, .int .i64 b, .slice A xs.length cap, .int .i64 d] 44)
  b3 : wr.heap[w.heap.size + 1]? = some (.cells #[.string y.f0, .int .i64 y.f1, .int .i64 y.f2] 71)
  b4 : wr.heap[w.heap.size + 1 + 1]? = some (.cells #[.int .i64 0, .int .i64 0, .slice none 0 0, .int .i64 0] 44)
  bel : Below w.heap.size w wr

theorem cells_of {w : World} {p : Nat} {cs : Array Value} {t : TypeId} (h : w.heap[p]? = some (.cells cs t)) (i : Nat) : w.cell? ⟨p, i, none⟩ = cs[i]? ∧ w.frozen? ⟨p, i, none⟩ = false := by
  constructor
  · simp [World.cell?, h]
  · simp [World.frozen?, h]

section
variable {P : Program} {ops : Array Oper} {rest : List Oper} {o : Oper} {a : Act} {Q : Exit → Act → World → Prop} {α : Type}
/-- An append of one element, the element's block told by a number. -/
theorem append_at (dk : Kd α) {w0 W : World} (base n : Nat) (hgd : o.guard = none) (s x : Operand) (t e : TypeId) (z : Value) (bytes : Nat)
    (ho : o.op = .call { callee := .builtin .append, args := #[s, x], argTypes := #[t, t] })
    (ht : P.underlying t = some (.slice e)) (hinfo : (P.info? e).map (fun i => (i.zero, i.size, i.bytes)) = some (some z, dk.sz, bytes)) (hz : z.cells.size = dk.sz) (hs0 : 0 < dk.sz) (hb0 : 0 < bytes)
    (v : Value) (xs : List α) (p : α) (cs : List Value) (ok okp : Nat → Prop) (hs : a.eval s = v) (hx : a.eval x = .slice (some ⟨n, 0, none⟩) 1 1) (hn : n = W.heap.size) (hp : dk.M W base okp p cs) (hokp : ∀ k, okp k → ok k ∧ some k ≠ v.ownBlock) (hfresh : ∀ k, W.heap.size ≤ k → ok k)
    (HO : dk.R e W base ok v xs) (HB : Below base w0 W) (hbase : base ≤ W.heap.size) (hl : (xs.length + 1) * bytes ≤ 140737488355328)
    (h : ∀ v1 w1, dk.R e w1 base ok v1 (xs ++ [p]) → Below base w0 w1 → W.grownBy w1 v.ownBlock → (v1.ownBlock = v.ownBlock ∨ ∃ b, v1.ownBlock = some b ∧ W.heap.size ≤ b) → wpList P ops Q rest (a.put o.dst v1) w1) :
    wpList P ops Q (o :: rest) a (W.alloc (.cells cs.toArray e)) := by
  subst hn
  exact Kd.R_append dk base hgd s x t e z bytes ho ht hinfo hz hs0 hb0 v xs p cs ok okp hs hx hp hokp hfresh HO HB hbase hl h
end

/-- What 'with' comes to. -/
def WithPost (w : World) (r b d : Int) (ys : List S71) (e : Ending) (w' : World) : Prop :=
  ∃ v : Value, e = .returned (.agg #[.int .i64 r, .int .i64 b, v, .int .i64 d]) ∧ Kd.R k71 71 w' w.heap.size (fun k => True) v ys ∧ Below w.heap.size w w'

theorem with_start (w : World) (A : Option Addr) (cap : Nat) (r b d : Int) (xs : List S71) (y : S71) :
    WithRel w (((w.alloc (.cells #[.int .i64 r, .int .i64 b, .slice A xs.length cap, .int .i64 d] 44)).alloc (.cells #[.string y.f0, .int .i64 y.f1, .int .i64 y.f2] 71)).alloc (.cells #[.int .i64 0, .int .i64 0, .slice none 0 0, .int .i64 0] 44)) A cap r b d xs y 0 (.slice none 0 0) := by
  have h1 := heap_alloc_new w (.cells #[.int .i64 r, .int .i64 b, .slice A xs.length cap, .int .i64 d] 44)
  have h2 := heap_alloc_new (w.alloc (.cells #[.int .i64 r, .int .i64 b, .slice A xs.length cap, .int .i64 d] 44)) (.cells #[.string y.f0, .int .i64 y.f1, .int .i64 y.f2] 71)
  have h3 := heap_alloc_new ((w.alloc (.cells #[.int .i64 r, .int .i64 b, .slice A xs.length cap, .int .i64 d] 44)).alloc (.cells #[.string y.f0, .int .i64 y.f1, .int .i64 y.f2] 71)) (.cells #[.int .i64 0, .int .i64 0, .slice none 0 0, .int .i64 0] 44)
  rw [show (w.alloc (.cells #[.int .i64 r, .int .i64 b, .slice A xs.length cap, .int .i64 d] 44)).heap.size = w.heap.size + 1 by simp] at h2
  rw [show ((w.alloc (.cells #[.int .i64 r, .int .i64 b, .slice A xs.length cap, .int .i64 d] 44)).alloc (.cells #[.string y.f0, .int .i64 y.f1, .int .i64 y.f2] 71)).heap.size = w.heap.size + 1 + 1 by simp] at h3
  refine ⟨Kd.R_nil _ _ _ _ _, ?_, ?_, h3, (((Below.refl _ _).alloc (Nat.le_refl _) _).alloc (by simp) _).alloc (by simp; omega) _⟩
  · rw [Below.heap_alloc _ _ _ (by simp; omega), Below.heap_alloc _ _ _ (by simp)]; exact h1
  · rw [Below.heap_alloc _ _ _ (by simp)]; exact h2

/-- One element more. -/
theorem WithRel.more {w wr w1 : World} {A : Option Addr} {cap : Nat} {r b d : Int} {xs : List S71} {y : S71} {i : Nat} {v5 v1 : Value} (h : WithRel w wr A cap r b d xs y i v5) (hi : i < xs.length) {W : World} (hW : Below wr.heap.size wr W)
    (hR : Kd.R k71 71 w1 w.heap.size (fun k => k ≠ w.heap.size ∧ k ≠ w.heap.size + 1 ∧ k ≠ w.heap.size + 1 + 1) v1 ((xs.take i).map (repS y) ++ [repS y (rd_T71 xs i)])) (hB : Below w.heap.size w w1) (hg : W.grownBy w1 v5.ownBlock) : WithRel w w1 A cap r b d xs y (i + 1) v1 := by
  have hne : ∀ k, k = w.heap.size ∨ k = w.heap.size + 1 ∨ k = w.heap.size + 1 + 1 → some k ≠ v5.ownBlock := fun k hk e => by
    have := h.row.1 k e.symm
    omega
  have keep : ∀ k o, wr.heap[k]? = some o → (k = w.heap.size ∨ k = w.heap.size + 1 ∨ k = w.heap.size + 1 + 1) → w1.heap[k]? = some o := fun k o hk he => by
    have hlt : k < wr.heap.size := (Array.getElem?_eq_some_iff.1 hk).1
    rw [hg.block k (Nat.lt_of_lt_of_le hlt hW.size) (hne k he), hW.block k hlt, hk]
  refine ⟨?_, keep _ _ h.b2 (by omega), keep _ _ h.b3 (by omega), keep _ _ h.b4 (by omega), hB⟩
  rw [take_succ_S xs i hi, List.map_append]
  exact hR

theorem with_kept {w wr w1 : World} {v : Value} {ys : List S71} (h : Kd.R k71 71 wr w.heap.size (fun k => k ≠ w.heap.size ∧ k ≠ w.heap.size + 1 ∧ k ≠ w.heap.size + 1 + 1) v ys) (hg : wr.grownBy w1 v.ownBlock) :
    ∀ k o, wr.heap[k]? = some o → (k = w.heap.size ∨ k = w.heap.size + 1 ∨ k = w.heap.size + 1 + 1) → w1.heap[k]? = some o := fun k o hk he => by
  have hlt : k < wr.heap.size := (Array.getElem?_eq_some_iff.1 hk).1
  rw [hg.block k hlt (fun e => by have := h.1 k e.symm; omega), hk]

set_option maxHeartbeats 1000000 in
theorem with_any (w : World) (A : Option Addr) (cap : Nat) (r b d : Int) (xs : List S71) (y : S71) (hC : Kd.C k71 w A xs.length xs) (hcap : xs.length ≤ cap) (hfew : xs.length ≤ 1000000) :
    Calls Try.prog 33 #[.agg #[.int .i64 r, .int .i64 b, .slice A xs.length cap, .int .i64 d], .agg #[.string y.f0, .int .i64 y.f1, .int .i64 y.f2]] w (WithPost w r b d (withS xs y)) := by
  have HC := Lib.hid hC
  clear hC
  go_enter Try.func33, Try.ntmps33
  go_wp2
  go_loopw [5, 6, 7] (fun v5 v6 v7 wr => ∃ i : Nat, i ≤ xs.length ∧ v7 = .int .i64 i ∧ v6 = .bool ((xs.take i).any (sameKeyS y)) ∧ WithRel w wr A cap r b d xs y i v5) (fun _ _ v7 _ => xs.length - (intOf v7).toNat)
  case atStart => exact ⟨0, by omega, rfl, rfl, with_start w A cap r b d xs y⟩
  case round =>
    obtain ⟨i, hi, rfl, rfl, hR⟩ := hrel
    have k2 := (cells_of hR.b2 1).1
    have k22 := (cells_of hR.b2 2).1
    have k30 := (cells_of hR.b3 0).1
    have k31 := (cells_of hR.b3 1).1
    have k32' := (cells_of hR.b3 2).1
    have k20 := (cells_of hR.b2 0).1
    have k23 := (cells_of hR.b2 3).1
    have f22 := (cells_of hR.b2 2).2
    have hsz : w.heap.size + 1 + 1 < wr.heap.size := (Array.getElem?_eq_some_iff.1 hR.b4).1
    simp only [List.getElem?_toArray, List.getElem?_cons_succ, List.getElem?_cons_zero] at k2 k22 k30 k31 k32' k20 k23
    have hs0 : w.heap.size < wr.heap.size := by omega
    have hs1 : w.heap.size + 1 < wr.heap.size := by omega
    have HR := Lib.hid hR
    clear hR
    by_cases hlt : i < xs.length
    · obtain ⟨ad, rfl, q0, q1, q2⟩ := at_S (Kd.C_below HC.out HR.out.bel) i hlt
      obtain ⟨x, hx⟩ : ∃ x, rd_T71 xs i = x := ⟨_, rfl⟩
      rw [hx] at q0 q1 q2
      have HX := Lib.hid hx
      clear hx
      have hty := take_succ_S xs i hlt
      have HT := Lib.hid hty
      clear hty
      have hlen : (((xs.take i).map (repS y)).length + 1) * 32 ≤ 140737488355328 := by
        rw [List.length_map]
        have := List.length_take_le i xs
        omega
      have HLEN := Lib.hid hlen
      clear hlen
      by_cases hk : (x.f0.toList == y.f0.toList) = true
      · go_wp2_with (first
          | (at_builtin; go_loud (refine append_at k71 (w0 := w) w.heap.size _ rfl _ _ 42 71 _ 32 rfl Try.underlying42 rinfo71 rfl (by decide) (by decide) _ ((xs.take i).map (repS y)) y [.string y.f0, .int .i64 y.f1, .int .i64 y.f2] (fun k => k ≠ w.heap.size ∧ k ≠ w.heap.size + 1 ∧ k ≠ w.heap.size + 1 + 1) (fun _ => False) rfl rfl (by simp) (k71_mkM _ _ _ y) (fun k h => h.elim) (fun k h => by simp at h; omega) (Kd.R_below HR.out.row ((Below.refl _ _).alloc (Nat.le_refl _) _)) (HR.out.bel.alloc (by omega) _) (by simp; omega) HLEN.out ?_); intro v1 w1 hr1 hb1 hg1 hat1)
          | fail)
        have hrep : repS y (rd_T71 xs i) = y := by rw [HX.out]; unfold repS sameKeyS; rw [if_pos hk]
        have hm := HR.out.more hlt ((Below.refl _ _).alloc (Nat.le_refl _) _) (by rw [hrep]; exact hr1) hb1 hg1
        go_roundw
        case rel => exact ⟨i + 1, by omega, by go_num, by rw [HT.out, List.any_append, HX.out]; simp [sameKeyS, hk], hm⟩
        case measure => simp [intOf]; omega
      · have hk' : (x.f0.toList == y.f0.toList) = false := by simpa using hk
        clear hk
        go_wp2_with (first
          | (at_builtin; go_loud (refine append_at k71 (w0 := w) w.heap.size _ rfl _ _ 42 71 _ 32 rfl Try.underlying42 rinfo71 rfl (by decide) (by decide) _ ((xs.take i).map (repS y)) x [.string x.f0, .int .i64 x.f1, .int .i64 x.f2] (fun k => k ≠ w.heap.size ∧ k ≠ w.heap.size + 1 ∧ k ≠ w.heap.size + 1 + 1) (fun _ => False) rfl rfl (by simp) (k71_mkM _ _ _ x) (fun k h => h.elim) (fun k h => by simp at h; omega) (Kd.R_below HR.out.row ((Below.refl _ _).alloc (Nat.le_refl _) _)) (HR.out.bel.alloc (by omega) _) (by simp; omega) HLEN.out ?_); intro v1 w1 hr1 hb1 hg1 hat1)
          | fail)
        have hrep : repS y (rd_T71 xs i) = x := by rw [HX.out]; unfold repS sameKeyS; rw [hk']; rfl
        have hm := HR.out.more hlt ((Below.refl _ _).alloc (Nat.le_refl _) _) (by rw [hrep]; exact hr1) hb1 hg1
        go_roundw
        case rel => exact ⟨i + 1, by omega, by go_num, by rw [HT.out, List.any_append, HX.out]; simp [sameKeyS, hk'], hm⟩
        case measure => simp [intOf]; omega
    · have hii : i = xs.length := by omega
      have htk : xs.take i = xs := by rw [hii]; exact List.take_length
      have hrow := HR.out.row
      rw [htk] at hrow
      have hb4 := HR.out.b4
      have k40 := (cells_of hb4 0).1
      have k41 := (cells_of hb4 1).1
      have k42 := (cells_of hb4 2).1
      have k43 := (cells_of hb4 3).1
      have f40 := (cells_of hb4 0).2
      have f41 := (cells_of hb4 1).2
      have f42 := (cells_of hb4 2).2
      have f43 := (cells_of hb4 3).2
      simp only [List.getElem?_toArray, List.getElem?_cons_succ, List.getElem?_cons_zero] at k40 k41 k42 k43
      have hbel := HR.out.bel
      have HG2 := Lib.hid HR.out.b2
      have HG4 := Lib.hid HR.out.b4
      rw [htk]
      clear htk hb4 HR
      obtain ⟨A5, c5, hv5⟩ := Kd.R_slice hrow
      subst hv5
      have HROW := Lib.hid hrow
      have HBEL := Lib.hid hbel
      clear hrow hbel
      obtain ⟨n5, hn5⟩ : ∃ n, (xs.map (repS y)).length = n := ⟨_, rfl⟩
      rw [hn5] at HROW
      rw [hn5]
      cases hany : xs.any (sameKeyS y) with
      | true =>
        have hws : withS xs y = xs.map (repS y) := by unfold withS; rw [if_pos hany]
        have HWS := Lib.hid hws
        clear hws hn5 hany
        go_wp2
        refine bodyPost_ret (v := .agg #[.int .i64 r, .int .i64 b, .slice A5 n5 c5, .int .i64 d]) ?_ rfl ⟨_, rfl, ?_, ?_⟩
        · simp only [results, Try.results33]
          go_simp
        · rw [HWS.out]
          refine Kd.R_mono (ok := fun k => k ≠ w.heap.size ∧ k ≠ w.heap.size + 1 ∧ k ≠ w.heap.size + 1 + 1) ?_ (fun _ _ => trivial)
          repeat (with_reducible first | exact HROW.out | refine Kd.R_far ?_ (fun k hk => by simp only; omega) _)
        · repeat (with_reducible first | exact HBEL.out | refine Below.setCell ?_ (by simp only; omega) _)
      | false =>
        have hws : withS xs y = xs.map (repS y) ++ [y] := by
          unfold withS
          rw [hany]
          have : xs.map (repS y) = xs := by
            conv => rhs; rw [← List.map_id xs]
            apply List.map_congr_left
            intro x hx
            have h1 := List.any_eq_false.1 hany x hx
            unfold repS
            rw [if_neg h1]
            rfl
          rw [this]
          rfl
        have HWS := Lib.hid hws
        have hlen : ((xs.map (repS y)).length + 1) * 32 ≤ 140737488355328 := by rw [List.length_map]; omega
        have HLEN := Lib.hid hlen
        have HN5 := Lib.hid hn5
        clear hws hn5 hany hlen
        go_wp2_with (first
          | (at_builtin; go_loud (refine append_at k71 (w0 := w) w.heap.size _ rfl _ _ 42 71 _ 32 rfl Try.underlying42 rinfo71 rfl (by decide) (by decide) (.slice A5 n5 c5) (xs.map (repS y)) y [.string y.f0, .int .i64 y.f1, .int .i64 y.f2] (fun k => k ≠ w.heap.size ∧ k ≠ w.heap.size + 1 ∧ k ≠ w.heap.size + 1 + 1) (fun _ => False) rfl rfl (by simp) (k71_mkM _ _ _ y) (fun k h => h.elim) (fun k h => by omega) (by exact HROW.out) (by exact HBEL.out) (by omega) HLEN.out ?_); intro v1 w1 hr1 hb1 hg1 hat1; obtain ⟨A6, c6, hv6⟩ := Kd.R_slice hr1; subst hv6; clear hat1; have HR1 := Lib.hid hr1; have HB1 := Lib.hid hb1; have HG1 := Lib.hid hg1; clear hr1 hb1 hg1; have hk1 := with_kept HROW.out HG1.out; have j2 := hk1 _ _ HG2.out (.inl rfl); have j4 := hk1 _ _ HG4.out (.inr (.inr rfl)); have l20 := (cells_of j2 0).1; have l21 := (cells_of j2 1).1; have l22 := (cells_of j2 2).1; have l23 := (cells_of j2 3).1; have e22 := (cells_of j2 2).2; have l40 := (cells_of j4 0).1; have l41 := (cells_of j4 1).1; have l42 := (cells_of j4 2).1; have l43 := (cells_of j4 3).1; have e40 := (cells_of j4 0).2; have e41 := (cells_of j4 1).2; have e42 := (cells_of j4 2).2; have e43 := (cells_of j4 3).2; simp only [List.getElem?_toArray, List.getElem?_cons_succ, List.getElem?_cons_zero] at l20 l21 l22 l23 l40 l41 l42 l43; clear hk1 j2 j4)
          | fail)
        refine bodyPost_ret (v := .agg #[.int .i64 r, .int .i64 b, (.slice A6 (xs.map (repS y) ++ [y]).length c6), .int .i64 d]) ?_ rfl ⟨_, rfl, ?_, ?_⟩
        · simp only [results, Try.results33]
          go_simp
        · rw [HWS.out]
          refine Kd.R_mono (ok := fun k => k ≠ w.heap.size ∧ k ≠ w.heap.size + 1 ∧ k ≠ w.heap.size + 1 + 1) ?_ (fun _ _ => trivial)
          repeat (with_reducible first | exact HR1.out | refine Kd.R_far ?_ (fun k hk => by simp only; omega) _)
        · repeat (with_reducible first | exact HB1.out | refine Below.setCell ?_ (by simp only; omega) _)
end Go.Proofs.Ytgphhjghodhodaa
