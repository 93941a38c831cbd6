/- The walks of limit's small functions (full, may, later, deny, get), and what a limiter is in memory. -/
import Derived.Test.YtgphhjghodhodaaProg
import Derived.Test.YtgphhjghodhodaaMp
import Derived.Maps.OwnSet
import Derived.Maps.RangeWalk
import Derived.WalkKit
import Derived.KernelRfl
import Derived.StillTailTactics
import Derived.ProofKit
import Derived.Lib.Hide
import Derived.IntWalk
namespace Go.Proofs.Ytgphhjghodhodaa
open Go.RowKit Go.Maps Go.WideMaps Go.Proofs.YtgphhjghodhodaaMp
set_option linter.unusedVariables false

theorem still_tail_drew {P : Program} {id : Nat} {Q : Exit → Act → World → Prop} {a : Act} {w : World} {l : List Oper} (n : Nat) (hm : P.follows .mixedOrders = true) (hB : Region.lexTailB .any l.toArray n = true)
    (h : wpStill P l.toArray w.drew (fun a' => wpList P l.toArray Q (l.drop n) a' w.drew) (l.take n) a) : (Code.region id l.toArray true).wp P Q a w :=
  wp_region_still_tail n hm hB h

/-! ### what a map of buckets reads as -/
abbrev Bk := Int × Int
abbrev Key := List UInt8
def bdat : Bk → DataW Unit := fun b => .agg [.lit (.int .i64 b.1), .lit (.int .i64 b.2)]
def klit : Key → Lit := fun s => .string s
theorem kway : KeyWay klit := ⟨fun a b h => by unfold klit at h; injection h, fun a => trivial⟩
def bkElem : Value → Option (DataW Unit × List MemPlace)
  | .agg cs => match cs.toList with
    | [.int .i64 a, .int .i64 b] => some (bdat (a, b), [])
    | _ => none
  | _ => none
theorem bkElem_mk (b : Bk) : bkElem (.agg #[.int .i64 b.1, .int .i64 b.2]) = some (bdat b, []) := rfl
theorem bkElem_inv {v : Value} {z : DataW Unit × List MemPlace} (h : bkElem v = some z) : ∃ b : Bk, v = .agg #[.int .i64 b.1, .int .i64 b.2] ∧ z = (bdat b, []) := by
  unfold bkElem at h
  split at h
  · rename_i cs
    split at h
    · rename_i a b hcs
      injection h with h
      refine ⟨(a, b), ?_, h.symm⟩
      congr 1
      exact Array.ext' (by simpa using hcs)
    · cases h
  · cases h
theorem bdat_inj {a b : Bk} (h : bdat a = bdat b) : a = b := by
  unfold bdat at h
  injection h with h
  simp only [List.cons.injEq, DataW.lit.injEq, Lit.int.injEq] at h
  exact Prod.ext h.1.2 h.2.1.2

theorem law9 : Keyed Try.prog 9 := string_keyed Try.underlying9
theorem zero62 (w : World) : (zeroValue 62).run Try.prog w = .ok (.agg #[.int .i64 0, .int .i64 0]) w := by kernel_rfl

/-! ### a limiter in memory -/
structure Lim (w : World) (p m : Nat) (r b d : Int) (B : List (Key × Bk)) : Prop where
  blk : w.heap[p]? = some (.cells #[.int .i64 r, .int .i64 b, .map (some m), .int .i64 d] 59)
  ne : p ≠ m
  own : ∃ D, w.ownsMap Try.prog 9 bkElem m B.length D ∧ MRep klit bdat D B
  r0 : 1 ≤ r
  r1 : r ≤ 1000000
  b0 : 1 ≤ b
  b1 : b ≤ 1000000
  few : B.length ≤ 1000000
  inv : ∀ x ∈ B, 0 ≤ x.2.1 ∧ x.2.1 ≤ 1000 * b ∧ 0 ≤ x.2.2 ∧ x.2.2 ≤ 1099511627776

theorem Lim.lt {w : World} {p m : Nat} {r b d : Int} {B : List (Key × Bk)} (h : Lim w p m r b d B) : p < w.heap.size := (Array.getElem?_eq_some_iff.1 h.blk).1
theorem Lim.ltm {w : World} {p m : Nat} {r b d : Int} {B : List (Key × Bk)} (h : Lim w p m r b d B) : m < w.heap.size := by
  obtain ⟨D, ho, _⟩ := h.own
  exact ho.lt
theorem Lim.c0 {w : World} {p m : Nat} {r b d : Int} {B : List (Key × Bk)} (h : Lim w p m r b d B) : w.cell? ⟨p, 0, none⟩ = some (.int .i64 r) := by simp [World.cell?, h.blk]
theorem Lim.c1 {w : World} {p m : Nat} {r b d : Int} {B : List (Key × Bk)} (h : Lim w p m r b d B) : w.cell? ⟨p, 1, none⟩ = some (.int .i64 b) := by simp [World.cell?, h.blk]
theorem Lim.c2 {w : World} {p m : Nat} {r b d : Int} {B : List (Key × Bk)} (h : Lim w p m r b d B) : w.cell? ⟨p, 2, none⟩ = some (.map (some m)) := by simp [World.cell?, h.blk]
theorem Lim.c3 {w : World} {p m : Nat} {r b d : Int} {B : List (Key × Bk)} (h : Lim w p m r b d B) : w.cell? ⟨p, 3, none⟩ = some (.int .i64 d) := by simp [World.cell?, h.blk]
theorem Lim.f3 {w : World} {p m : Nat} {r b d : Int} {B : List (Key × Bk)} (h : Lim w p m r b d B) : w.frozen? ⟨p, 3, none⟩ = false := by simp [World.frozen?, h.blk]

/-- What a call may turn that has blocks p and m in hand. -/
structure Turn (S : Nat → Prop) (w w' : World) : Prop where
  os : w'.os = w.os
  tape : w'.tape = w.tape
  output : w'.output = w.output
  size : w.heap.size ≤ w'.heap.size
  block : ∀ k, k < w.heap.size → ¬ S k → w'.heap[k]? = w.heap[k]?

theorem Turn.refl (S : Nat → Prop) (w : World) : Turn S w w := ⟨rfl, rfl, rfl, Nat.le_refl _, fun _ _ _ => rfl⟩
theorem Turn.trans {S : Nat → Prop} {a b c : World} (h : Turn S a b) (k : Turn S b c) : Turn S a c :=
  ⟨k.os.trans h.os, k.tape.trans h.tape, k.output.trans h.output, Nat.le_trans h.size k.size, fun i hi hs => (k.block i (Nat.lt_of_lt_of_le hi h.size) hs).trans (h.block i hi hs)⟩
theorem Turn.mono {S S' : Nat → Prop} {w w' : World} (h : Turn S w w') (hs : ∀ k, k < w.heap.size → S k → S' k) : Turn S' w w' := ⟨h.os, h.tape, h.output, h.size, fun k hk hn => h.block k hk (fun e => hn (hs k hk e))⟩
theorem Turn.of_below {S : Nat → Prop} {w w' : World} (h : Below w.heap.size w w') : Turn S w w' := ⟨h.os, h.tape, h.output, h.size, fun k hk _ => h.block k hk⟩
theorem Turn.to_below {S : Nat → Prop} {w w' : World} (h : Turn S w w') {B : Nat} (hB : B ≤ w.heap.size) (hs : ∀ k, S k → B ≤ k) : Below B w w' :=
  ⟨h.os, h.tape, h.output, h.size, fun k hk => h.block k (by omega) (fun e => by have := hs k e; omega)⟩
theorem Turn.grown {S : Nat → Prop} {w w' : World} {row : Option Nat} (h : w.grownBy w' row) (hs : ∀ k, row = some k → k < w.heap.size → S k) : Turn S w w' :=
  ⟨h.os, h.tape, h.output, h.size, fun k hk hn => h.block k hk (fun e => hn (hs k e.symm hk))⟩

/-- A limiter whose blocks are not turned stays as it is. -/
theorem Lim.kept {S : Nat → Prop} {w w' : World} {p m : Nat} {r b d : Int} {B : List (Key × Bk)} (h : Lim w p m r b d B) (t : Turn S w w') (hp : ¬ S p) (hm : ¬ S m) : Lim w' p m r b d B := by
  refine ⟨(t.block p h.lt hp).trans h.blk, h.ne, ?_, h.r0, h.r1, h.b0, h.b1, h.few, h.inv⟩
  obtain ⟨D, ho, hr⟩ := h.own
  have hl := ho.lt
  obtain ⟨es, clock, hb, rest⟩ := ho
  exact ⟨D, ⟨es, clock, (t.block m hl hm).trans hb, rest⟩, hr⟩
theorem Lim.below {w w' : World} {p m : Nat} {r b d : Int} {B : List (Key × Bk)} (h : Lim w p m r b d B) (hb : Below w.heap.size w w') : Lim w' p m r b d B :=
  h.kept (Turn.of_below (S := fun _ => False) hb) (fun e => e) (fun e => e)

/-! ### the walks -/
theorem full_any (p : Nat) (b : Int) (w : World) (c1 : w.cell? ⟨p, 1, none⟩ = some (.int .i64 b)) (hb0 : 1 ≤ b) (hb1 : b ≤ 1000000) :
    Calls Try.prog 24 #[.pointer (some ⟨p, 0, none⟩)] w fun e w' => e = .returned (.int .i64 (1000 * b)) ∧ w = w' := by
  go_enter Try.func24, Try.ntmps24
  go_wp2
  go_ret
  exact ⟨rfl, rfl⟩

/-- A bucket at a time. -/
def bkAt (r b : Int) (x : Bk) (t : Int) : Bk := if t ≤ x.2 then x else (min (1000 * b) (x.1 + r * (t - x.2)), t)

theorem later_no (p : Nat) (h a t : Int) (w : World) (hta : t ≤ a) :
    Calls Try.prog 23 #[.pointer (some ⟨p, 0, none⟩), .agg #[.int .i64 h, .int .i64 a], .int .i64 t] w fun e w' => e = .returned (.agg #[.int .i64 h, .int .i64 a]) ∧ Below w.heap.size w w' := by
  go_enter Try.func23, Try.ntmps23
  go_wp2
  exact bodyPost_ret (v := .agg #[.int .i64 h, .int .i64 a]) (by simp [results, Try.results23, go_sem]) rfl ⟨rfl, ((Below.refl _ _).alloc (Nat.le_refl _) _).alloc (by simp) _⟩

theorem later_yes (p : Nat) (r b h a t v : Int) (w : World) (hp : p < w.heap.size) (c0 : w.cell? ⟨p, 0, none⟩ = some (.int .i64 r)) (c1 : w.cell? ⟨p, 1, none⟩ = some (.int .i64 b)) (hb0 : 1 ≤ b) (hb1 : b ≤ 1000000) (hr0 : 1 ≤ r) (hr1 : r ≤ 1000000) (hta : a < t) (ha : 0 ≤ a) (ht : t ≤ 1099511627776) (hh : 0 ≤ h) (hh1 : h ≤ 1000000000)
    (hv : v = min (1000 * b) (h + r * (t - a))) :
    Calls Try.prog 23 #[.pointer (some ⟨p, 0, none⟩), .agg #[.int .i64 h, .int .i64 a], .int .i64 t] w fun e w' => e = .returned (.agg #[.int .i64 v, .int .i64 t]) ∧ Below w.heap.size w w' := by
  have hm0 : 0 ≤ r * (t - a) := Int.mul_nonneg (by omega) (by omega)
  have hm1 : r * (t - a) ≤ 1000000 * 1099511627776 := Int.mul_le_mul hr1 (by omega) (by omega) (by omega)
  have w1 : IntKind.i64.wrap (t - a) = t - a := IntWalk.i64_in _ (by omega)
  have w2 : IntKind.i64.wrap (r * (t - a)) = r * (t - a) := IntWalk.i64_in _ (by omega)
  have w3 : IntKind.i64.wrap (h + r * (t - a)) = h + r * (t - a) := IntWalk.i64_in _ (by omega)
  by_cases hc : h + r * (t - a) < 1000 * b
  all_goals
    have hv' : v = (if h + r * (t - a) < 1000 * b then h + r * (t - a) else 1000 * b) := by rw [hv]; simp only [hc, if_true, if_false]; omega
    clear hv
    have HV := Lib.hid hv'
    clear hv'
    go_enter Try.func23, Try.ntmps23
    go_wp2
    refine still_tail_drew 17 (by kernel_rfl) (by kernel_rfl) ?_
    simp only [List.take_succ_cons, List.take_zero, List.drop_succ_cons, List.drop_zero]
    still_step
    refine wpStill_step (fun K hK => ?_)
    go_simp
    refine ⟨_, (full_any p b _ (by first | (simp; done) | (go_simp; done)) hb0 hb1).mono (fun e w' h => ⟨h.1, h.2.symm⟩), hK _ ?_⟩
    clear hK K
    repeat still_step
    refine wpStill_nil ?_
    go_wp2
    refine bodyPost_ret (v := .agg #[.int .i64 v, .int .i64 t]) ?_ rfl ⟨rfl, (((Below.refl _ _).alloc (Nat.le_refl _) _).alloc (by simp) _).drew⟩
    rw [HV.out]
    first | (simp [results, Try.results23, go_sem, hc]; done) | (simp [results, Try.results23, go_sem]; intro hx; omega)

theorem later_any {w : World} {p m : Nat} {r b d : Int} {B : List (Key × Bk)} (L : Lim w p m r b d B) (x : Bk) (t : Int) (hx : 0 ≤ x.1 ∧ x.1 ≤ 1000 * b ∧ 0 ≤ x.2 ∧ x.2 ≤ 1099511627776) (ht : t ≤ 1099511627776) :
    Calls Try.prog 23 #[.pointer (some ⟨p, 0, none⟩), .agg #[.int .i64 x.1, .int .i64 x.2], .int .i64 t] w fun e w' => e = .returned (.agg #[.int .i64 (bkAt r b x t).1, .int .i64 (bkAt r b x t).2]) ∧ Below w.heap.size w w' := by
  have := L.b1
  unfold bkAt
  by_cases h : t ≤ x.2
  · rw [if_pos h]
    exact later_no p x.1 x.2 t w h
  · rw [if_neg h]
    exact later_yes p r b x.1 x.2 t _ w L.lt L.c0 L.c1 L.b0 L.b1 L.r0 L.r1 (by omega) hx.2.2.1 ht hx.1 (by omega) rfl

theorem bkAt_inv {r b : Int} (hb : 1 ≤ b) (hr : 1 ≤ r) {x : Bk} {t : Int} (hx : 0 ≤ x.1 ∧ x.1 ≤ 1000 * b ∧ 0 ≤ x.2 ∧ x.2 ≤ 1099511627776) (ht : t ≤ 1099511627776) :
    0 ≤ (bkAt r b x t).1 ∧ (bkAt r b x t).1 ≤ 1000 * b ∧ 0 ≤ (bkAt r b x t).2 ∧ (bkAt r b x t).2 ≤ 1099511627776 := by
  unfold bkAt
  by_cases h : t ≤ x.2
  · rw [if_pos h]; exact hx
  · rw [if_neg h]
    have hm0 : 0 ≤ r * (t - x.2) := Int.mul_nonneg (by omega) (by omega)
    refine ⟨?_, ?_, ?_, ?_⟩ <;> simp only <;> omega

theorem deny_any {w : World} {p m : Nat} {r b d : Int} {B : List (Key × Bk)} (L : Lim w p m r b d B) (hd : 0 ≤ d) (hd1 : d ≤ 1000000000) :
    Calls Try.prog 21 #[.pointer (some ⟨p, 0, none⟩)] w fun e w' => e = .returned (.bool false) ∧ w' = w.setCell ⟨p, 3, none⟩ (.int .i64 (d + 1)) := by
  have c3 := L.c3
  have f3 := L.f3
  clear L
  go_enter Try.func21, Try.ntmps21
  go_wp2
  go_ret
  exact ⟨rfl, rfl⟩

theorem Lim.denied {w : World} {p m : Nat} {r b d : Int} {B : List (Key × Bk)} (L : Lim w p m r b d B) : Lim (w.setCell ⟨p, 3, none⟩ (.int .i64 (d + 1))) p m r b (d + 1) B := by
  have hblk : (w.setCell ⟨p, 3, none⟩ (.int .i64 (d + 1))).heap[p]? = some (.cells #[.int .i64 r, .int .i64 b, .map (some m), .int .i64 (d + 1)] 59) := by
    have hlt := L.lt
    have h' : w.heap[p] = .cells #[.int .i64 r, .int .i64 b, .map (some m), .int .i64 d] 59 := by simpa [Array.getElem?_eq_getElem hlt] using L.blk
    show (w.heap.modify p _)[p]? = _
    rw [Array.getElem?_eq_getElem (by simpa using hlt), Array.getElem_modify_self, h']
    rfl
  refine ⟨hblk, L.ne, ?_, L.r0, L.r1, L.b0, L.b1, L.few, L.inv⟩
  obtain ⟨D, ho, hr⟩ := L.own
  exact ⟨D, ho.setCell (fun e => L.ne e.symm) _, hr⟩
theorem turn_denied (w : World) (p : Nat) (v : Value) (S : Nat → Prop) (hS : S p) : Turn S w (w.setCell ⟨p, 3, none⟩ v) :=
  ⟨rfl, rfl, rfl, by simp [World.setCell], fun k hk hn => Below.heap_setCell _ _ _ _ (fun e => hn (by subst e; exact hS))⟩

end Go.Proofs.Ytgphhjghodhodaa
