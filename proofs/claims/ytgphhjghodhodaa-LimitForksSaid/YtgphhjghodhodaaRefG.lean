/- The walk of the world's do. -/
import Derived.Test.YtgphhjghodhodaaRefF
import Derived.BigQuiet
namespace Go.Proofs.Ytgphhjghodhodaa
open Go.RowKit Go.Maps Go.WideMaps Go.Proofs.YtgphhjghodhodaaMp Go.Proofs.YtgphhjghodhodaaW.PrintWords Go.Proofs.Ytgphhjghodhodaa.PNext
set_option linter.unusedVariables false

/-- Both limiters, in memory, in step. -/
structure Wld (w : World) (q p m : Nat) (r b d now : Int) (xs : List S71) : Prop where
  row : ∃ A c, w.heap[q]? = some (.cells #[.pointer (some ⟨p, 0, none⟩), .int .i64 r, .int .i64 b, .slice A xs.length c, .int .i64 d, .int .i64 now] 49) ∧ Kd.R k71 71 w 0 (fun k => k ≠ q ∧ k ≠ p ∧ k ≠ m) (.slice A xs.length c) xs
  lim : Lim w p m r b d (toB xs)
  qp : q ≠ p
  qm : q ≠ m

theorem rinv_of {w : World} {p m : Nat} {r b d : Int} {xs : List S71} (h : Lim w p m r b d (toB xs)) : RInv r b xs :=
  ⟨h.r0, h.r1, h.b0, h.b1, by have := h.few; rwa [toB_len] at this, fun x hx => h.inv (x.f0.data.toList, (x.f1, x.f2)) (List.mem_map.2 ⟨x, hx, rfl⟩)⟩

/-- Halfway through. -/
structure DoRel (w W : World) (q p m : Nat) (A : Option Addr) (c : Nat) (r b d d2 now : Int) (xs : List S71) (B : List (Key × Bk)) (k0 : Int) (key : ByteArray) (by2 : Int) (bk : Bool) : Prop where
  row : W.heap[q]? = some (.cells #[.pointer (some ⟨p, 0, none⟩), .int .i64 r, .int .i64 b, .slice A xs.length c, .int .i64 d, .int .i64 now] 49)
  ref : Kd.R k71 71 W 0 (fun k => k ≠ q ∧ k ≠ p ∧ k ≠ m) (.slice A xs.length c) xs
  lim : Lim W p m r b d2 B
  box : W.heap[w.heap.size]? = some (.cells #[.int .u8 k0, .string key, .int .u16 by2, .bool bk] 32)
  turn : Turn (fun k => k = q ∨ k = p ∨ k = m) w W
  qp : q ≠ p
  qm : q ≠ m
  ps : p < w.heap.size
  ms : m < w.heap.size

/-- The same, but for the reference's row. -/
structure DoEnd (w W : World) (q p m : Nat) (A : Option Addr) (c n : Nat) (r b d d2 now : Int) (B : List (Key × Bk)) : Prop where
  row : W.heap[q]? = some (.cells #[.pointer (some ⟨p, 0, none⟩), .int .i64 r, .int .i64 b, .slice A n c, .int .i64 d, .int .i64 now] 49)
  lim : Lim W p m r b d2 B
  turn : Turn (fun k => k = q ∨ k = p ∨ k = m) w W
  qp : q ≠ p
  qm : q ≠ m

theorem DoRel.toEnd {w W : World} {q p m : Nat} {A : Option Addr} {c : Nat} {r b d d2 now : Int} {xs : List S71} {B : List (Key × Bk)} {k0 : Int} {key : ByteArray} {by2 : Int} {bk : Bool} (h : DoRel w W q p m A c r b d d2 now xs B k0 key by2 bk) :
    DoEnd w W q p m A c xs.length r b d d2 now B := ⟨h.row, h.lim, h.turn, h.qp, h.qm⟩

theorem wp_at {P : Program} {c : Code} {Q : Exit → Act → World → Prop} {a : Act} {W : World} (S : World → Prop) (h : S W) (k : ∀ W1, S W1 → c.wp P Q a W1) : c.wp P Q a W := k W h

theorem calls_at {P : Program} {f : Nat} {args : Array Value} {Q : Ending → World → Prop} {W : World} (S : World → Prop) (h : S W) (k : ∀ W1, S W1 → Calls P f args W1 Q) : Calls P f args W Q := k W h

theorem turn_set (w : World) (q i : Nat) (v : Value) (S : Nat → Prop) (hS : S q) : Turn S w (w.setCell ⟨q, i, none⟩ v) :=
  ⟨rfl, rfl, rfl, by simp [World.setCell], fun k hk hn => Below.heap_setCell _ _ _ _ (fun e => hn (by subst e; exact hS))⟩
theorem turn_drewN (w : World) (n : Nat) (S : Nat → Prop) : Turn S w (w.drewN n) := ⟨rfl, rfl, rfl, Nat.le_refl _, fun _ _ _ => rfl⟩

theorem DoRel.step {w W W' : World} {q p m : Nat} {A : Option Addr} {c : Nat} {r b d d2 now : Int} {xs : List S71} {B : List (Key × Bk)} {k0 : Int} {key : ByteArray} {by2 : Int} {bk : Bool} (h : DoRel w W q p m A c r b d d2 now xs B k0 key by2 bk)
    {d3 : Int} {B' : List (Key × Bk)} (L : Lim W' p m r b d3 B') (t : Turn (fun k => k = p ∨ k = m) W W') : DoRel w W' q p m A c r b d d3 now xs B' k0 key by2 bk := by
  have hq : q < W.heap.size := (Array.getElem?_eq_some_iff.1 h.row).1
  have hn : w.heap.size < W.heap.size := (Array.getElem?_eq_some_iff.1 h.box).1
  have hps := h.ps
  have hms := h.ms
  have hqp := h.qp
  have hqm := h.qm
  refine ⟨(t.block q hq (by omega)).trans h.row, Kd.R_step h.ref (fun k ho hk => t.block k hk (by omega)), L, (t.block _ hn (by omega)).trans h.box, h.turn.trans (t.mono (fun k _ e => .inr e)), h.qp, h.qm, h.ps, h.ms⟩

theorem DoRel.drew {w W : World} {q p m : Nat} {A : Option Addr} {c : Nat} {r b d d2 now : Int} {xs : List S71} {B : List (Key × Bk)} {k0 : Int} {key : ByteArray} {by2 : Int} {bk : Bool} (h : DoRel w W q p m A c r b d d2 now xs B k0 key by2 bk) (n : Nat) :
    DoRel w (W.drewN n) q p m A c r b d d2 now xs B k0 key by2 bk := h.step (h.lim.kept (turn_drewN W n (fun _ => False)) (fun e => e) (fun e => e)) (turn_drewN W n _)

theorem DoRel.drew1 {w W : World} {q p m : Nat} {A : Option Addr} {c : Nat} {r b d d2 now : Int} {xs : List S71} {B : List (Key × Bk)} {k0 : Int} {key : ByteArray} {by2 : Int} {bk : Bool} (h : DoRel w W q p m A c r b d d2 now xs B k0 key by2 bk) :
    DoRel w W.drew q p m A c r b d d2 now xs B k0 key by2 bk := h.drew 1

theorem R_keep {w : World} {base : Nat} {ok : Nat → Prop} {v : Value} {ys : List S71} (h : Kd.R k71 71 w base ok v ys) : Kd.R k71 71 w base (fun k => ok k ∧ k < w.heap.size) v ys :=
  Kd.R_mono (Kd.R_bound h) (fun k hk => ⟨hk.1, hk.2.2.1⟩)

theorem dorel_back {w W : World} {q p m : Nat} {A : Option Addr} {c : Nat} {r b d now : Int} {xs : List S71} {k0 : Int} {key : ByteArray} {by2 : Int} {bk : Bool}
    (hq : w.heap[q]? = some (.cells #[.pointer (some ⟨p, 0, none⟩), .int .i64 r, .int .i64 b, .slice A xs.length c, .int .i64 d, .int .i64 now] 49)) (hR : Kd.R k71 71 w 0 (fun k => k ≠ q ∧ k ≠ p ∧ k ≠ m) (.slice A xs.length c) xs) (L : Lim w p m r b d (toB xs)) (hqp : q ≠ p) (hqm : q ≠ m)
    (t : Below w.heap.size w W) (hb : W.heap[w.heap.size]? = some (.cells #[.int .u8 k0, .string key, .int .u16 by2, .bool bk] 32)) : DoRel w W q p m A c r b d d now xs (toB xs) k0 key by2 bk :=
  ⟨(t.block q (Array.getElem?_eq_some_iff.1 hq).1).trans hq, Kd.R_below hR t, L.below t, hb, Turn.of_below t, hqp, hqm, L.lt, L.ltm⟩

theorem dorel_on {w W : World} {q p m : Nat} {A : Option Addr} {c : Nat} {r b d now now2 : Int} {xs : List S71} {k0 : Int} {key : ByteArray} {by2 : Int} {bk : Bool}
    (hq : w.heap[q]? = some (.cells #[.pointer (some ⟨p, 0, none⟩), .int .i64 r, .int .i64 b, .slice A xs.length c, .int .i64 d, .int .i64 now] 49)) (hR : Kd.R k71 71 w 0 (fun k => k ≠ q ∧ k ≠ p ∧ k ≠ m) (.slice A xs.length c) xs) (L : Lim w p m r b d (toB xs)) (hqp : q ≠ p) (hqm : q ≠ m)
    (t : Below w.heap.size w W) (hb : W.heap[w.heap.size]? = some (.cells #[.int .u8 k0, .string key, .int .u16 by2, .bool bk] 32)) : DoRel w (W.setCell ⟨q, 5, none⟩ (.int .i64 now2)) q p m A c r b d d now2 xs (toB xs) k0 key by2 bk := by
  have h0 := dorel_back hq hR L hqp hqm t hb
  have ts := turn_set W q 5 (.int .i64 now2) (fun k => k = q) rfl
  have hql : q < w.heap.size := (Array.getElem?_eq_some_iff.1 hq).1
  have hps := h0.ps
  have hms := h0.ms
  have hn : w.heap.size < W.heap.size := (Array.getElem?_eq_some_iff.1 hb).1
  exact ⟨by simpa using blk_set h0.row 5 (.int .i64 now2), Kd.R_step h0.ref (fun k ho hk => ts.block k hk ho.1), h0.lim.kept ts (by omega) (by omega), (ts.block _ hn (by omega)).trans hb, h0.turn.trans (ts.mono (fun k _ e => .inl e)), hqp, hqm, hps, hms⟩

theorem dorel_end {w W : World} {q p m n : Nat} {A : Option Addr} {c : Nat} {r b d d2 now : Int} {B : List (Key × Bk)} (h : DoEnd w W q p m A c n r b d d2 now B)
    {A' : Option Addr} {c' : Nat} {ys : List S71} (hr : Kd.R k71 71 W 0 (fun k => k ≠ q ∧ k ≠ p ∧ k ≠ m) (.slice A' ys.length c') ys) (hB : toB ys = B) :
    Wld ((((W.setCell ⟨q, 1, none⟩ (.int .i64 r)).setCell ⟨q, 2, none⟩ (.int .i64 b)).setCell ⟨q, 3, none⟩ (.slice A' ys.length c')).setCell ⟨q, 4, none⟩ (.int .i64 d2)) q p m r b d2 now ys ∧
    Turn (fun k => k = q ∨ k = p ∨ k = m) w ((((W.setCell ⟨q, 1, none⟩ (.int .i64 r)).setCell ⟨q, 2, none⟩ (.int .i64 b)).setCell ⟨q, 3, none⟩ (.slice A' ys.length c')).setCell ⟨q, 4, none⟩ (.int .i64 d2)) := by
  have ts : Turn (fun k => k = q) W ((((W.setCell ⟨q, 1, none⟩ (.int .i64 r)).setCell ⟨q, 2, none⟩ (.int .i64 b)).setCell ⟨q, 3, none⟩ (.slice A' ys.length c')).setCell ⟨q, 4, none⟩ (.int .i64 d2)) :=
    (((turn_set _ q 1 _ (fun k => k = q) rfl).trans (turn_set _ q 2 _ (fun k => k = q) rfl)).trans (turn_set _ q 3 _ (fun k => k = q) rfl)).trans (turn_set _ q 4 _ (fun k => k = q) rfl)
  have hqp := h.qp
  have hqm := h.qm
  subst hB
  refine ⟨⟨⟨A', c', ?_, Kd.R_step hr (fun k ho hk => ts.block k hk ho.1)⟩, h.lim.kept ts (by omega) (by omega), hqp, hqm⟩, h.turn.trans (ts.mono (fun k _ e => .inl e))⟩
  have h1 := blk_set h.row 1 (.int .i64 r)
  have h2 := blk_set h1 2 (.int .i64 b)
  have h3 := blk_set h2 3 (.slice A' ys.length c')
  simpa using blk_set h3 4 (.int .i64 d2)

theorem Wld.below {w w' : World} {q p m : Nat} {r b d now : Int} {xs : List S71} (h : Wld w q p m r b d now xs) (t : Below w.heap.size w w') : Wld w' q p m r b d now xs := by
  obtain ⟨⟨A, c, hq, hR⟩, L, hqp, hqm⟩ := h
  exact ⟨⟨A, c, (t.block q (Array.getElem?_eq_some_iff.1 hq).1).trans hq, Kd.R_below hR t⟩, L.below t, hqp, hqm⟩

theorem turn_set4 (W : World) (z : Nat) (a b c d : Value) : Turn (fun k => k = z) W ((((W.setCell ⟨z, 0, none⟩ a).setCell ⟨z, 1, none⟩ b).setCell ⟨z, 2, none⟩ c).setCell ⟨z, 3, none⟩ d) :=
  (((turn_set _ z 0 _ (fun k => k = z) rfl).trans (turn_set _ z 1 _ (fun k => k = z) rfl)).trans (turn_set _ z 2 _ (fun k => k = z) rfl)).trans (turn_set _ z 3 _ (fun k => k = z) rfl)

theorem DoRel.far {w W W' : World} {q p m : Nat} {A : Option Addr} {c : Nat} {r b d d2 now : Int} {xs : List S71} {B : List (Key × Bk)} {k0 : Int} {key : ByteArray} {by2 : Int} {bk : Bool} (h : DoRel w W q p m A c r b d d2 now xs B k0 key by2 bk)
    {z : Nat} (hz : z ≠ q ∧ z ≠ p ∧ z ≠ m) (hn : w.heap.size ≤ z) (t : Turn (fun k => k = z) W W') : DoEnd w W' q p m A c xs.length r b d d2 now B := by
  have hq : q < W.heap.size := (Array.getElem?_eq_some_iff.1 h.row).1
  have hw := h.turn.size
  refine ⟨(t.block q hq (by omega)).trans h.row, h.lim.kept t (by omega) (by omega), ⟨t.os.trans h.turn.os, t.tape.trans h.turn.tape, t.output.trans h.turn.output, Nat.le_trans h.turn.size t.size, fun k hk hs => (t.block k (by omega) (by omega)).trans (h.turn.block k hk hs)⟩, h.qp, h.qm⟩

theorem DoRel.fresh {w W : World} {q p m : Nat} {A : Option Addr} {c : Nat} {r b d d2 now : Int} {xs : List S71} {B : List (Key × Bk)} {k0 : Int} {key : ByteArray} {by2 : Int} {bk : Bool} (h : DoRel w W q p m A c r b d d2 now xs B k0 key by2 bk)
    {k : Nat} (hk : W.heap.size ≤ k) : k ≠ q ∧ k ≠ p ∧ k ≠ m := by
  have hq : q < W.heap.size := (Array.getElem?_eq_some_iff.1 h.row).1
  have hp := h.lim.lt
  have hm := h.lim.ltm
  omega

theorem DoRel.ref2 {w W : World} {q p m : Nat} {A : Option Addr} {c : Nat} {r b d d2 now : Int} {xs : List S71} {B : List (Key × Bk)} {k0 : Int} {key : ByteArray} {by2 : Int} {bk : Bool} (h : DoRel w W q p m A c r b d d2 now xs B k0 key by2 bk) (o : Obj) :
    Kd.R k71 71 (W.alloc o).drew 0 (fun k => (k ≠ q ∧ k ≠ p ∧ k ≠ m) ∧ k ≠ W.heap.size) (.slice A xs.length c) xs :=
  Kd.R_mono (Kd.R_below (R_keep h.ref) (((Below.refl W.heap.size W).alloc (Nat.le_refl _) o).drew)) (fun k hk => ⟨hk.1, Nat.ne_of_lt hk.2⟩)

theorem DoRel.fresh2 {w W : World} {q p m : Nat} {A : Option Addr} {c : Nat} {r b d d2 now : Int} {xs : List S71} {B : List (Key × Bk)} {k0 : Int} {key : ByteArray} {by2 : Int} {bk : Bool} (h : DoRel w W q p m A c r b d d2 now xs B k0 key by2 bk) {o : Obj}
    {k : Nat} (hk : (W.alloc o).drew.heap.size ≤ k) : (k ≠ q ∧ k ≠ p ∧ k ≠ m) ∧ k ≠ W.heap.size := by
  have e : (W.alloc o).drew.heap.size = W.heap.size + 1 := by simp [World.drew]
  rw [e] at hk
  exact ⟨h.fresh (by omega), by omega⟩

theorem allow_d {r b d : Int} {B : List (Key × Bk)} {k : Key} {t : Int} {ok : Bool} {d' : Int} {B' : List (Key × Bk)} (h : allowM r b B d k t = (ok, d', B')) : d ≤ d' ∧ d' ≤ d + 1 := by
  unfold allowM at h
  repeat' split at h
  all_goals
    cases h
    omega

theorem DoRel.below {w W W' : World} {q p m : Nat} {A : Option Addr} {c : Nat} {r b d d2 now : Int} {xs : List S71} {B : List (Key × Bk)} {k0 : Int} {key : ByteArray} {by2 : Int} {bk : Bool} (h : DoRel w W q p m A c r b d d2 now xs B k0 key by2 bk)
    (t : Below W.heap.size W W') : DoRel w W' q p m A c r b d d2 now xs B k0 key by2 bk := h.step (h.lim.below t) (Turn.of_below t)

/-- What the reference's Forget comes to. -/
theorem rforget_any (w : World) (A : Option Addr) (c : Nat) (r b d t : Int) (xs : List S71) (hI : RInv r b xs) (hR : Kd.C k71 w A xs.length xs) (hcap : xs.length ≤ c) (ht0 : 0 ≤ t) (ht : t ≤ 1099511627776) :
    Calls Try.prog 25 #[.agg #[.int .i64 r, .int .i64 b, .slice A xs.length c, .int .i64 d], .int .i64 t] w fun e w' => ∃ ys A' c', toB ys = forgetM r b (toB xs) t ∧ e = .returned (.tuple #[.agg #[.int .i64 r, .int .i64 b, .slice A' ys.length c', .int .i64 d], .int .i64 (((toB xs).length : Int) - ((forgetM r b (toB xs) t).length : Int))]) ∧
      Kd.R k71 71 w' w.heap.size (fun k => w.heap.size ≤ k) (.slice A' ys.length c') ys ∧ Below w.heap.size w w' := by
  refine (rforget_yes w A c r b d t xs hI ht0 ht hR hcap).mono ?_
  rintro e w' ⟨v, rfl, hr, hb⟩
  obtain ⟨A', c', rfl⟩ := Kd.R_slice hr
  refine ⟨_, A', c', toB_filter r b t xs, ?_, Kd.R_mono (Kd.R_bound hr) (fun k hk => hk.2.1), hb⟩
  rw [toB_len, ← toB_filter, toB_len]

set_option maxRecDepth 100000 in
set_option maxHeartbeats 1000000 in
theorem do_on_allow (w : World) (q p m : Nat) (r b d now : Int) (xs : List S71) (X : Wld w q p m r b d now xs) (hd : 0 ≤ d ∧ d ≤ 1000000) (hnow : 0 ≤ now ∧ now ≤ 1000000000) (key : ByteArray) (hkey : key.size ≤ maxLen) (k0 : Int) (by2 : Int) (hk : 0 ≤ k0 ∧ k0 ≤ 255) (hb2 : 0 ≤ by2 ∧ by2 ≤ 65535) (hf : k0 % 4 ≠ 3) :
    Calls Try.prog 14 #[.pointer (some ⟨q, 0, none⟩), .agg #[.int .u8 k0, .string key, .int .u16 by2, .bool false]] w fun e w' => e = .returned (.bool true) ∧ ∃ d' now' ys, Wld w' q p m r b d' now' ys ∧ d ≤ d' ∧ d' ≤ d + 1 ∧ now ≤ now' ∧ now' ≤ now + 65535 ∧ Turn (fun k => k = q ∨ k = p ∨ k = m) w w' := by
  obtain ⟨⟨A, c, hq, hR⟩, L, hqp, hqm⟩ := X
  obtain ⟨hd0, hd1⟩ := hd
  obtain ⟨hn0, hn1⟩ := hnow
  obtain ⟨hk00, hk01⟩ := hk
  obtain ⟨hb0, hb1⟩ := hb2
  have hql : q < w.heap.size := (Array.getElem?_eq_some_iff.1 hq).1
  have hpl := L.lt
  have hml := L.ltm
  have c0 := (cells_of hq 0).1
  have c5 := (cells_of hq 5).1
  have f5 := (cells_of hq 5).2
  simp only [List.getElem?_toArray, List.getElem?_cons_succ, List.getElem?_cons_zero] at c0 c5
  have HR := Lib.hid hR
  have HL := Lib.hid L
  have HQ := Lib.hid hq
  clear hR L hq
  have hw1 : IntKind.i64.wrap (now + by2) = now + by2 := IntWalk.i64_in _ (by omega)
  go_enter Try.func14, Try.ntmps14
  go_wp2_with fail
  go_quiet (fail)
  go_wp2_with fail
  refine wp_at (fun W1 => DoRel w W1 q p m A c r b d d (now + by2) xs (toB xs) k0 key by2 false) ?S ?_
  case S => exact dorel_on HQ.out HR.out HL.out hqp hqm (pw_below_drewN ((Below.refl _ _).alloc (Nat.le_refl _) _) _) (heap_alloc_new w _)
  intro W1 hD
  have HD := Lib.hid hD
  have q0 := (cells_of hD.row 0).1
  have n1 := (cells_of hD.box 1).1
  simp only [List.getElem?_toArray, List.getElem?_cons_succ, List.getElem?_cons_zero] at q0 n1
  obtain ⟨⟨ok, d', B'⟩, hM⟩ : ∃ z, allowM r b (toB xs) d key.data.toList (now + by2) = z := ⟨_, rfl⟩
  have hdd := allow_d hM
  have HM := Lib.hid hM
  clear HR HL HQ c0 c5 f5 hD hM
  go_region_held3 (fun w' => w'.cell? ⟨q, 0, none⟩ = some (.pointer (some ⟨p, 0, none⟩)) ∧ w'.cell? ⟨w.heap.size, 1, none⟩ = some (.string key))
    (first | (with_reducible exact ⟨m0, m1⟩) | (with_reducible exact ⟨q0, n1⟩) | go_keep)
    (first | (go_at_call 10; refine (allow_any (HD.out.drew 1).lim hd0 (by omega) key hkey _ ok d' B' HM.out).mono ?_; rintro e W2 ⟨rfl, L2, t2⟩; have HD2 := Lib.hid ((HD.out.drew 1).step L2 t2); have m0 := (cells_of HD2.out.row 0).1; have m1 := (cells_of HD2.out.box 1).1; simp only [List.getElem?_toArray, List.getElem?_cons_succ, List.getElem?_cons_zero] at m0 m1; clear L2 t2))
  clear q0 n1
  go_wp2
  refine wp_at (fun W1 => DoRel w W1 q p m A c r b d d' (now + by2) xs B' k0 key by2 false) ?S2 ?_
  case S2 => exact HD2.out
  intro W3 hD3
  have HD3 := Lib.hid hD3
  have g0 := (cells_of hD3.row 0).1
  have g1 := (cells_of hD3.row 1).1
  have g2 := (cells_of hD3.row 2).1
  have g3 := (cells_of hD3.row 3).1
  have g4 := (cells_of hD3.row 4).1
  have n1 := (cells_of hD3.box 1).1
  simp only [List.getElem?_toArray, List.getElem?_cons_succ, List.getElem?_cons_zero] at g0 g1 g2 g3 g4 n1
  have hq3 : q < W3.heap.size := (Array.getElem?_eq_some_iff.1 hD3.row).1
  have hn3 : w.heap.size < W3.heap.size := (Array.getElem?_eq_some_iff.1 hD3.box).1
  have hq6 : W3.heap.size ≠ q := by omega
  have hn6 : W3.heap.size ≠ w.heap.size := by omega
  clear HD2 hD3 m0 m1
  go_region_held3 (fun w' => w'.cell? ⟨q, 1, none⟩ = some (.int .i64 r) ∧ w'.cell? ⟨q, 2, none⟩ = some (.int .i64 b) ∧ w'.cell? ⟨q, 3, none⟩ = some (.slice A xs.length c) ∧ w'.cell? ⟨q, 4, none⟩ = some (.int .i64 d) ∧ w'.cell? ⟨w.heap.size, 1, none⟩ = some (.string key))
    (first | (with_reducible exact ⟨m1, m2, m3, m4, mn⟩) | (with_reducible exact ⟨g1, g2, g3, g4, n1⟩) | go_keep)
    (first
      | (go_at_call 26; refine (rallow_any _ _ 0 (fun k => (k ≠ q ∧ k ≠ p ∧ k ≠ m) ∧ k ≠ W3.heap.size) r b d _ xs (rinv_of HD.out.lim) (HD3.out.ref2 (.cells #[.int .i64 0, .int .i64 0, .slice none 0 0, .int .i64 0] 44)) (Nat.zero_le _) (fun k hk => HD3.out.fresh2 hk) key (by omega) ok d' B' HM.out).mono ?_; rintro e W4 ⟨ys, hys, v4, rfl, hr4, hb4⟩; obtain ⟨A4, c4, hv4⟩ := Kd.R_slice hr4; subst hv4; have HD4 := Lib.hid ((HD3.out.below (((Below.refl W3.heap.size W3).alloc (Nat.le_refl _) (.cells #[.int .i64 0, .int .i64 0, .slice none 0 0, .int .i64 0] 44)).drew)).below hb4); have hz4 := (hb4.block W3.heap.size (by simp)).trans (heap_alloc_new W3 _); have z0 := (cells_of hz4 0).1; have z1 := (cells_of hz4 1).1; have z2 := (cells_of hz4 2).1; have z3 := (cells_of hz4 3).1; have zf0 := (cells_of hz4 0).2; have zf1 := (cells_of hz4 1).2; have zf2 := (cells_of hz4 2).2; have zf3 := (cells_of hz4 3).2; simp only [List.getElem?_toArray, List.getElem?_cons_succ, List.getElem?_cons_zero] at z0 z1 z2 z3; have hzs : W3.heap.size < W4.heap.size := Nat.lt_of_lt_of_le (by simp) hb4.size; clear hz4; have HR4 := Lib.hid (R_keep hr4); have HY := Lib.hid hys; have m1 := (cells_of HD4.out.row 1).1; have m2 := (cells_of HD4.out.row 2).1; have m3 := (cells_of HD4.out.row 3).1; have m4 := (cells_of HD4.out.row 4).1; have mf1 := (cells_of HD4.out.row 1).2; have mf2 := (cells_of HD4.out.row 2).2; have mf3 := (cells_of HD4.out.row 3).2; have mf4 := (cells_of HD4.out.row 4).2; have mn := (cells_of HD4.out.box 1).1; simp only [List.getElem?_toArray, List.getElem?_cons_succ, List.getElem?_cons_zero] at m1 m2 m3 m4 mn; have hq4 : q < W4.heap.size := (Array.getElem?_eq_some_iff.1 HD4.out.row).1; have hn4 : w.heap.size < W4.heap.size := (Array.getElem?_eq_some_iff.1 HD4.out.box).1; have hq5 : W4.heap.size ≠ q := (by omega); have hn5 : W4.heap.size ≠ w.heap.size := (by omega); clear hr4 hb4 hys)
      | (go_at_call 26; refine (rallow_any _ _ 0 (fun k => k ≠ q ∧ k ≠ p ∧ k ≠ m) r b d _ xs (rinv_of HD.out.lim) HD3.out.drew1.ref (Nat.zero_le _) (fun k hk => HD3.out.fresh hk) key (by omega) ok d' B' HM.out).mono ?_; rintro e W4 ⟨ys, hys, v4, rfl, hr4, hb4⟩; obtain ⟨A4, c4, hv4⟩ := Kd.R_slice hr4; subst hv4; have HD4 := Lib.hid (HD3.out.drew1.below hb4); have HR4 := Lib.hid (R_keep hr4); have HY := Lib.hid hys; have m1 := (cells_of HD4.out.row 1).1; have m2 := (cells_of HD4.out.row 2).1; have m3 := (cells_of HD4.out.row 3).1; have m4 := (cells_of HD4.out.row 4).1; have mf1 := (cells_of HD4.out.row 1).2; have mf2 := (cells_of HD4.out.row 2).2; have mf3 := (cells_of HD4.out.row 3).2; have mf4 := (cells_of HD4.out.row 4).2; have mn := (cells_of HD4.out.box 1).1; simp only [List.getElem?_toArray, List.getElem?_cons_succ, List.getElem?_cons_zero] at m1 m2 m3 m4 mn; have hq4 : q < W4.heap.size := (Array.getElem?_eq_some_iff.1 HD4.out.row).1; have hn4 : w.heap.size < W4.heap.size := (Array.getElem?_eq_some_iff.1 HD4.out.box).1; have hq5 : W4.heap.size ≠ q := (by omega); have hn5 : W4.heap.size ≠ w.heap.size := (by omega); clear hr4 hb4 hys))
  all_goals
    clear g0 g1 g2 g3 g4 n1
    go_wp2
    go_ret
    first
    | (have hE := dorel_end HD4.out.toEnd (Kd.R_mono HR4.out (fun k hk => hk.1)) HY.out
       exact ⟨rfl, d', now + by2, _, hE.1.below ((Below.refl _ _).alloc (Nat.le_refl _) _), hdd.1, hdd.2, by omega, by omega, hE.2.trans (Turn.of_below ((Below.refl _ _).alloc (Nat.le_refl _) _))⟩)
    | (have hT : Turn (fun k => k = W3.heap.size) W4 ((((W4.setCell ⟨W3.heap.size, 0, none⟩ (.int .i64 r)).setCell ⟨W3.heap.size, 1, none⟩ (.int .i64 b)).setCell ⟨W3.heap.size, 2, none⟩ (.slice A4 ys.length c4)).setCell ⟨W3.heap.size, 3, none⟩ (.int .i64 d')) := turn_set4 _ _ _ _ _ _
       have hE := dorel_end (HD4.out.far (HD3.out.fresh (Nat.le_refl _)) (Nat.le_of_lt hn3) hT) (Kd.R_mono (Kd.R_step HR4.out (fun k hk h2 => hT.block k h2 hk.1.2)) (fun k hk => hk.1.1)) HY.out
       exact ⟨rfl, d', now + by2, _, hE.1, hdd.1, hdd.2, by omega, by omega, hE.2⟩)

set_option maxRecDepth 100000 in
set_option maxHeartbeats 1000000 in
theorem do_on_forget (w : World) (q p m : Nat) (r b d now : Int) (xs : List S71) (X : Wld w q p m r b d now xs) (hd : 0 ≤ d ∧ d ≤ 1000000) (hnow : 0 ≤ now ∧ now ≤ 1000000000) (key : ByteArray) (hkey : key.size ≤ maxLen) (k0 : Int) (by2 : Int) (hk : 0 ≤ k0 ∧ k0 ≤ 255) (hb2 : 0 ≤ by2 ∧ by2 ≤ 65535) (hf : k0 % 4 = 3) :
    Calls Try.prog 14 #[.pointer (some ⟨q, 0, none⟩), .agg #[.int .u8 k0, .string key, .int .u16 by2, .bool false]] w fun e w' => e = .returned (.bool true) ∧ ∃ d' now' ys, Wld w' q p m r b d' now' ys ∧ d ≤ d' ∧ d' ≤ d + 1 ∧ now ≤ now' ∧ now' ≤ now + 65535 ∧ Turn (fun k => k = q ∨ k = p ∨ k = m) w w' := by
  obtain ⟨⟨A, c, hq, hR⟩, L, hqp, hqm⟩ := X
  obtain ⟨hd0, hd1⟩ := hd
  obtain ⟨hn0, hn1⟩ := hnow
  obtain ⟨hk00, hk01⟩ := hk
  obtain ⟨hb0, hb1⟩ := hb2
  have hql : q < w.heap.size := (Array.getElem?_eq_some_iff.1 hq).1
  have hpl := L.lt
  have hml := L.ltm
  have c0 := (cells_of hq 0).1
  have c5 := (cells_of hq 5).1
  have f5 := (cells_of hq 5).2
  simp only [List.getElem?_toArray, List.getElem?_cons_succ, List.getElem?_cons_zero] at c0 c5
  have HR := Lib.hid hR
  have HL := Lib.hid L
  have HQ := Lib.hid hq
  clear hR L hq
  have hw1 : IntKind.i64.wrap (now + by2) = now + by2 := IntWalk.i64_in _ (by omega)
  go_enter Try.func14, Try.ntmps14
  go_wp2_with fail
  go_quiet (fail)
  go_wp2_with fail
  refine calls_at (fun W1 => DoRel w W1 q p m A c r b d d (now + by2) xs (toB xs) k0 key by2 false) ?S ?_
  case S => exact dorel_on HQ.out HR.out HL.out hqp hqm (pw_below_drewN ((Below.refl _ _).alloc (Nat.le_refl _) _) _) (heap_alloc_new w _)
  intro W1 hD
  have HD := Lib.hid hD
  clear HR HL HQ c0 c5 f5 hD
  refine (forget_any HD.out.lim (now + by2) (by omega) (by omega)).mono ?_
  rintro e W2 ⟨rfl, L2, t2⟩
  have hD2 := HD.out.step L2 (t2.mono (fun k _ e => .inr e))
  have HD2 := Lib.hid hD2
  have g0 := (cells_of hD2.row 0).1
  have g1 := (cells_of hD2.row 1).1
  have g2 := (cells_of hD2.row 2).1
  have g3 := (cells_of hD2.row 3).1
  have g4 := (cells_of hD2.row 4).1
  simp only [List.getElem?_toArray, List.getElem?_cons_succ, List.getElem?_cons_zero] at g0 g1 g2 g3 g4
  clear L2 t2 hD2
  go_wp2_with fail
  obtain ⟨A3, c3, he3, hcap, hC⟩ := Kd.R_reads HD2.out.ref
  simp only [Value.slice.injEq] at he3
  obtain ⟨rfl, -, rfl⟩ := he3
  refine (rforget_any W2 A c r b d (now + by2) xs (rinv_of HD.out.lim) hC hcap (by omega) (by omega)).mono ?_
  rintro e W4 ⟨ys, A4, c4, hys, rfl, hr4, hb4⟩
  have HD4 := Lib.hid (HD2.out.below hb4)
  have HR4 := Lib.hid (R_keep (Kd.R_mono (Kd.R_lower hr4 (Nat.zero_le _)) (fun k hk => HD2.out.fresh hk)))
  have HY := Lib.hid hys
  have m1 := (cells_of HD4.out.row 1).1
  have m2 := (cells_of HD4.out.row 2).1
  have m3 := (cells_of HD4.out.row 3).1
  have m4 := (cells_of HD4.out.row 4).1
  have mf1 := (cells_of HD4.out.row 1).2
  have mf2 := (cells_of HD4.out.row 2).2
  have mf3 := (cells_of HD4.out.row 3).2
  have mf4 := (cells_of HD4.out.row 4).2
  simp only [List.getElem?_toArray, List.getElem?_cons_succ, List.getElem?_cons_zero] at m1 m2 m3 m4
  have hq4 : q < W4.heap.size := (Array.getElem?_eq_some_iff.1 HD4.out.row).1
  clear hr4 hb4 hys hC hcap g0 g1 g2 g3 g4
  go_wp2
  go_ret
  have hE := dorel_end HD4.out.toEnd (Kd.R_mono HR4.out (fun k hk => hk.1)) HY.out
  exact ⟨rfl, d, now + by2, _, hE.1.below ((Below.refl _ _).alloc (Nat.le_refl _) _), by omega, by omega, by omega, by omega, hE.2.trans (Turn.of_below ((Below.refl _ _).alloc (Nat.le_refl _) _))⟩

set_option maxRecDepth 100000 in
set_option maxHeartbeats 1000000 in
theorem do_back_allow (w : World) (q p m : Nat) (r b d now : Int) (xs : List S71) (X : Wld w q p m r b d now xs) (hd : 0 ≤ d ∧ d ≤ 1000000) (hnow : 0 ≤ now ∧ now ≤ 1000000000) (key : ByteArray) (hkey : key.size ≤ maxLen) (k0 : Int) (by2 : Int) (hk : 0 ≤ k0 ∧ k0 ≤ 255) (hb2 : 0 ≤ by2 ∧ by2 ≤ 65535) (hf : k0 % 4 ≠ 3) (hc : 0 < now - by2) :
    Calls Try.prog 14 #[.pointer (some ⟨q, 0, none⟩), .agg #[.int .u8 k0, .string key, .int .u16 by2, .bool true]] w fun e w' => e = .returned (.bool true) ∧ ∃ d' now' ys, Wld w' q p m r b d' now' ys ∧ d ≤ d' ∧ d' ≤ d + 1 ∧ now ≤ now' ∧ now' ≤ now + 65535 ∧ Turn (fun k => k = q ∨ k = p ∨ k = m) w w' := by
  obtain ⟨⟨A, c, hq, hR⟩, L, hqp, hqm⟩ := X
  obtain ⟨hd0, hd1⟩ := hd
  obtain ⟨hn0, hn1⟩ := hnow
  obtain ⟨hk00, hk01⟩ := hk
  obtain ⟨hb0, hb1⟩ := hb2
  have hql : q < w.heap.size := (Array.getElem?_eq_some_iff.1 hq).1
  have hpl := L.lt
  have hml := L.ltm
  have c0 := (cells_of hq 0).1
  have c5 := (cells_of hq 5).1
  have f5 := (cells_of hq 5).2
  simp only [List.getElem?_toArray, List.getElem?_cons_succ, List.getElem?_cons_zero] at c0 c5
  have HR := Lib.hid hR
  have HL := Lib.hid L
  have HQ := Lib.hid hq
  clear hR L hq
  have hw1 : IntKind.i64.wrap (now + by2) = now + by2 := IntWalk.i64_in _ (by omega)
  have hw2 : IntKind.i64.wrap (now - by2) = now - by2 := IntWalk.i64_in _ (by omega)
  go_enter Try.func14, Try.ntmps14
  go_wp2_with fail
  go_quiet (fail)
  go_wp2_with fail
  go_quiet (fail)
  go_wp2_with fail
  refine wp_at (fun W1 => DoRel w W1 q p m A c r b d d (now) xs (toB xs) k0 key by2 true) ?S ?_
  case S => exact dorel_back HQ.out HR.out HL.out hqp hqm (pw_below_drewN ((Below.refl _ _).alloc (Nat.le_refl _) _) _) (heap_alloc_new w _)
  intro W1 hD
  have HD := Lib.hid hD
  have q0 := (cells_of hD.row 0).1
  have n1 := (cells_of hD.box 1).1
  simp only [List.getElem?_toArray, List.getElem?_cons_succ, List.getElem?_cons_zero] at q0 n1
  obtain ⟨⟨ok, d', B'⟩, hM⟩ : ∃ z, allowM r b (toB xs) d key.data.toList (now - by2) = z := ⟨_, rfl⟩
  have hdd := allow_d hM
  have HM := Lib.hid hM
  clear HR HL HQ c0 c5 f5 hD hM
  go_region_held3 (fun w' => w'.cell? ⟨q, 0, none⟩ = some (.pointer (some ⟨p, 0, none⟩)) ∧ w'.cell? ⟨w.heap.size, 1, none⟩ = some (.string key))
    (first | (with_reducible exact ⟨m0, m1⟩) | (with_reducible exact ⟨q0, n1⟩) | go_keep)
    (first | (go_at_call 10; refine (allow_any (HD.out.drew 1).lim hd0 (by omega) key hkey _ ok d' B' HM.out).mono ?_; rintro e W2 ⟨rfl, L2, t2⟩; have HD2 := Lib.hid ((HD.out.drew 1).step L2 t2); have m0 := (cells_of HD2.out.row 0).1; have m1 := (cells_of HD2.out.box 1).1; simp only [List.getElem?_toArray, List.getElem?_cons_succ, List.getElem?_cons_zero] at m0 m1; clear L2 t2))
  clear q0 n1
  go_wp2
  refine wp_at (fun W1 => DoRel w W1 q p m A c r b d d' (now) xs B' k0 key by2 true) ?S2 ?_
  case S2 => exact HD2.out
  intro W3 hD3
  have HD3 := Lib.hid hD3
  have g0 := (cells_of hD3.row 0).1
  have g1 := (cells_of hD3.row 1).1
  have g2 := (cells_of hD3.row 2).1
  have g3 := (cells_of hD3.row 3).1
  have g4 := (cells_of hD3.row 4).1
  have n1 := (cells_of hD3.box 1).1
  simp only [List.getElem?_toArray, List.getElem?_cons_succ, List.getElem?_cons_zero] at g0 g1 g2 g3 g4 n1
  have hq3 : q < W3.heap.size := (Array.getElem?_eq_some_iff.1 hD3.row).1
  have hn3 : w.heap.size < W3.heap.size := (Array.getElem?_eq_some_iff.1 hD3.box).1
  have hq6 : W3.heap.size ≠ q := by omega
  have hn6 : W3.heap.size ≠ w.heap.size := by omega
  clear HD2 hD3 m0 m1
  go_region_held3 (fun w' => w'.cell? ⟨q, 1, none⟩ = some (.int .i64 r) ∧ w'.cell? ⟨q, 2, none⟩ = some (.int .i64 b) ∧ w'.cell? ⟨q, 3, none⟩ = some (.slice A xs.length c) ∧ w'.cell? ⟨q, 4, none⟩ = some (.int .i64 d) ∧ w'.cell? ⟨w.heap.size, 1, none⟩ = some (.string key))
    (first | (with_reducible exact ⟨m1, m2, m3, m4, mn⟩) | (with_reducible exact ⟨g1, g2, g3, g4, n1⟩) | go_keep)
    (first
      | (go_at_call 26; refine (rallow_any _ _ 0 (fun k => (k ≠ q ∧ k ≠ p ∧ k ≠ m) ∧ k ≠ W3.heap.size) r b d _ xs (rinv_of HD.out.lim) (HD3.out.ref2 (.cells #[.int .i64 0, .int .i64 0, .slice none 0 0, .int .i64 0] 44)) (Nat.zero_le _) (fun k hk => HD3.out.fresh2 hk) key (by omega) ok d' B' HM.out).mono ?_; rintro e W4 ⟨ys, hys, v4, rfl, hr4, hb4⟩; obtain ⟨A4, c4, hv4⟩ := Kd.R_slice hr4; subst hv4; have HD4 := Lib.hid ((HD3.out.below (((Below.refl W3.heap.size W3).alloc (Nat.le_refl _) (.cells #[.int .i64 0, .int .i64 0, .slice none 0 0, .int .i64 0] 44)).drew)).below hb4); have hz4 := (hb4.block W3.heap.size (by simp)).trans (heap_alloc_new W3 _); have z0 := (cells_of hz4 0).1; have z1 := (cells_of hz4 1).1; have z2 := (cells_of hz4 2).1; have z3 := (cells_of hz4 3).1; have zf0 := (cells_of hz4 0).2; have zf1 := (cells_of hz4 1).2; have zf2 := (cells_of hz4 2).2; have zf3 := (cells_of hz4 3).2; simp only [List.getElem?_toArray, List.getElem?_cons_succ, List.getElem?_cons_zero] at z0 z1 z2 z3; have hzs : W3.heap.size < W4.heap.size := Nat.lt_of_lt_of_le (by simp) hb4.size; clear hz4; have HR4 := Lib.hid (R_keep hr4); have HY := Lib.hid hys; have m1 := (cells_of HD4.out.row 1).1; have m2 := (cells_of HD4.out.row 2).1; have m3 := (cells_of HD4.out.row 3).1; have m4 := (cells_of HD4.out.row 4).1; have mf1 := (cells_of HD4.out.row 1).2; have mf2 := (cells_of HD4.out.row 2).2; have mf3 := (cells_of HD4.out.row 3).2; have mf4 := (cells_of HD4.out.row 4).2; have mn := (cells_of HD4.out.box 1).1; simp only [List.getElem?_toArray, List.getElem?_cons_succ, List.getElem?_cons_zero] at m1 m2 m3 m4 mn; have hq4 : q < W4.heap.size := (Array.getElem?_eq_some_iff.1 HD4.out.row).1; have hn4 : w.heap.size < W4.heap.size := (Array.getElem?_eq_some_iff.1 HD4.out.box).1; have hq5 : W4.heap.size ≠ q := (by omega); have hn5 : W4.heap.size ≠ w.heap.size := (by omega); clear hr4 hb4 hys)
      | (go_at_call 26; refine (rallow_any _ _ 0 (fun k => k ≠ q ∧ k ≠ p ∧ k ≠ m) r b d _ xs (rinv_of HD.out.lim) HD3.out.drew1.ref (Nat.zero_le _) (fun k hk => HD3.out.fresh hk) key (by omega) ok d' B' HM.out).mono ?_; rintro e W4 ⟨ys, hys, v4, rfl, hr4, hb4⟩; obtain ⟨A4, c4, hv4⟩ := Kd.R_slice hr4; subst hv4; have HD4 := Lib.hid (HD3.out.drew1.below hb4); have HR4 := Lib.hid (R_keep hr4); have HY := Lib.hid hys; have m1 := (cells_of HD4.out.row 1).1; have m2 := (cells_of HD4.out.row 2).1; have m3 := (cells_of HD4.out.row 3).1; have m4 := (cells_of HD4.out.row 4).1; have mf1 := (cells_of HD4.out.row 1).2; have mf2 := (cells_of HD4.out.row 2).2; have mf3 := (cells_of HD4.out.row 3).2; have mf4 := (cells_of HD4.out.row 4).2; have mn := (cells_of HD4.out.box 1).1; simp only [List.getElem?_toArray, List.getElem?_cons_succ, List.getElem?_cons_zero] at m1 m2 m3 m4 mn; have hq4 : q < W4.heap.size := (Array.getElem?_eq_some_iff.1 HD4.out.row).1; have hn4 : w.heap.size < W4.heap.size := (Array.getElem?_eq_some_iff.1 HD4.out.box).1; have hq5 : W4.heap.size ≠ q := (by omega); have hn5 : W4.heap.size ≠ w.heap.size := (by omega); clear hr4 hb4 hys))
  all_goals
    clear g0 g1 g2 g3 g4 n1
    go_wp2
    go_ret
    first
    | (have hE := dorel_end HD4.out.toEnd (Kd.R_mono HR4.out (fun k hk => hk.1)) HY.out
       exact ⟨rfl, d', now, _, hE.1.below ((Below.refl _ _).alloc (Nat.le_refl _) _), hdd.1, hdd.2, by omega, by omega, hE.2.trans (Turn.of_below ((Below.refl _ _).alloc (Nat.le_refl _) _))⟩)
    | (have hT : Turn (fun k => k = W3.heap.size) W4 ((((W4.setCell ⟨W3.heap.size, 0, none⟩ (.int .i64 r)).setCell ⟨W3.heap.size, 1, none⟩ (.int .i64 b)).setCell ⟨W3.heap.size, 2, none⟩ (.slice A4 ys.length c4)).setCell ⟨W3.heap.size, 3, none⟩ (.int .i64 d')) := turn_set4 _ _ _ _ _ _
       have hE := dorel_end (HD4.out.far (HD3.out.fresh (Nat.le_refl _)) (Nat.le_of_lt hn3) hT) (Kd.R_mono (Kd.R_step HR4.out (fun k hk h2 => hT.block k h2 hk.1.2)) (fun k hk => hk.1.1)) HY.out
       exact ⟨rfl, d', now, _, hE.1, hdd.1, hdd.2, by omega, by omega, hE.2⟩)

set_option maxRecDepth 100000 in
set_option maxHeartbeats 1000000 in
theorem do_back_forget (w : World) (q p m : Nat) (r b d now : Int) (xs : List S71) (X : Wld w q p m r b d now xs) (hd : 0 ≤ d ∧ d ≤ 1000000) (hnow : 0 ≤ now ∧ now ≤ 1000000000) (key : ByteArray) (hkey : key.size ≤ maxLen) (k0 : Int) (by2 : Int) (hk : 0 ≤ k0 ∧ k0 ≤ 255) (hb2 : 0 ≤ by2 ∧ by2 ≤ 65535) (hf : k0 % 4 = 3) (hc : 0 < now - by2) :
    Calls Try.prog 14 #[.pointer (some ⟨q, 0, none⟩), .agg #[.int .u8 k0, .string key, .int .u16 by2, .bool true]] w fun e w' => e = .returned (.bool true) ∧ ∃ d' now' ys, Wld w' q p m r b d' now' ys ∧ d ≤ d' ∧ d' ≤ d + 1 ∧ now ≤ now' ∧ now' ≤ now + 65535 ∧ Turn (fun k => k = q ∨ k = p ∨ k = m) w w' := by
  obtain ⟨⟨A, c, hq, hR⟩, L, hqp, hqm⟩ := X
  obtain ⟨hd0, hd1⟩ := hd
  obtain ⟨hn0, hn1⟩ := hnow
  obtain ⟨hk00, hk01⟩ := hk
  obtain ⟨hb0, hb1⟩ := hb2
  have hql : q < w.heap.size := (Array.getElem?_eq_some_iff.1 hq).1
  have hpl := L.lt
  have hml := L.ltm
  have c0 := (cells_of hq 0).1
  have c5 := (cells_of hq 5).1
  have f5 := (cells_of hq 5).2
  simp only [List.getElem?_toArray, List.getElem?_cons_succ, List.getElem?_cons_zero] at c0 c5
  have HR := Lib.hid hR
  have HL := Lib.hid L
  have HQ := Lib.hid hq
  clear hR L hq
  have hw1 : IntKind.i64.wrap (now + by2) = now + by2 := IntWalk.i64_in _ (by omega)
  have hw2 : IntKind.i64.wrap (now - by2) = now - by2 := IntWalk.i64_in _ (by omega)
  go_enter Try.func14, Try.ntmps14
  go_wp2_with fail
  go_quiet (fail)
  go_wp2_with fail
  go_quiet (fail)
  go_wp2_with fail
  refine calls_at (fun W1 => DoRel w W1 q p m A c r b d d (now) xs (toB xs) k0 key by2 true) ?S ?_
  case S => exact dorel_back HQ.out HR.out HL.out hqp hqm (pw_below_drewN ((Below.refl _ _).alloc (Nat.le_refl _) _) _) (heap_alloc_new w _)
  intro W1 hD
  have HD := Lib.hid hD
  clear HR HL HQ c0 c5 f5 hD
  refine (forget_any HD.out.lim (now - by2) (by omega) (by omega)).mono ?_
  rintro e W2 ⟨rfl, L2, t2⟩
  have hD2 := HD.out.step L2 (t2.mono (fun k _ e => .inr e))
  have HD2 := Lib.hid hD2
  have g0 := (cells_of hD2.row 0).1
  have g1 := (cells_of hD2.row 1).1
  have g2 := (cells_of hD2.row 2).1
  have g3 := (cells_of hD2.row 3).1
  have g4 := (cells_of hD2.row 4).1
  simp only [List.getElem?_toArray, List.getElem?_cons_succ, List.getElem?_cons_zero] at g0 g1 g2 g3 g4
  clear L2 t2 hD2
  go_wp2_with fail
  obtain ⟨A3, c3, he3, hcap, hC⟩ := Kd.R_reads HD2.out.ref
  simp only [Value.slice.injEq] at he3
  obtain ⟨rfl, -, rfl⟩ := he3
  refine (rforget_any W2 A c r b d (now - by2) xs (rinv_of HD.out.lim) hC hcap (by omega) (by omega)).mono ?_
  rintro e W4 ⟨ys, A4, c4, hys, rfl, hr4, hb4⟩
  have HD4 := Lib.hid (HD2.out.below hb4)
  have HR4 := Lib.hid (R_keep (Kd.R_mono (Kd.R_lower hr4 (Nat.zero_le _)) (fun k hk => HD2.out.fresh hk)))
  have HY := Lib.hid hys
  have m1 := (cells_of HD4.out.row 1).1
  have m2 := (cells_of HD4.out.row 2).1
  have m3 := (cells_of HD4.out.row 3).1
  have m4 := (cells_of HD4.out.row 4).1
  have mf1 := (cells_of HD4.out.row 1).2
  have mf2 := (cells_of HD4.out.row 2).2
  have mf3 := (cells_of HD4.out.row 3).2
  have mf4 := (cells_of HD4.out.row 4).2
  simp only [List.getElem?_toArray, List.getElem?_cons_succ, List.getElem?_cons_zero] at m1 m2 m3 m4
  have hq4 : q < W4.heap.size := (Array.getElem?_eq_some_iff.1 HD4.out.row).1
  clear hr4 hb4 hys hC hcap g0 g1 g2 g3 g4
  go_wp2
  go_ret
  have hE := dorel_end HD4.out.toEnd (Kd.R_mono HR4.out (fun k hk => hk.1)) HY.out
  exact ⟨rfl, d, now, _, hE.1.below ((Below.refl _ _).alloc (Nat.le_refl _) _), by omega, by omega, by omega, by omega, hE.2.trans (Turn.of_below ((Below.refl _ _).alloc (Nat.le_refl _) _))⟩

set_option maxRecDepth 100000 in
set_option maxHeartbeats 1000000 in
theorem do_low_allow (w : World) (q p m : Nat) (r b d now : Int) (xs : List S71) (X : Wld w q p m r b d now xs) (hd : 0 ≤ d ∧ d ≤ 1000000) (hnow : 0 ≤ now ∧ now ≤ 1000000000) (key : ByteArray) (hkey : key.size ≤ maxLen) (k0 : Int) (by2 : Int) (hk : 0 ≤ k0 ∧ k0 ≤ 255) (hb2 : 0 ≤ by2 ∧ by2 ≤ 65535) (hf : k0 % 4 ≠ 3) (hc : now - by2 ≤ 0) :
    Calls Try.prog 14 #[.pointer (some ⟨q, 0, none⟩), .agg #[.int .u8 k0, .string key, .int .u16 by2, .bool true]] w fun e w' => e = .returned (.bool true) ∧ ∃ d' now' ys, Wld w' q p m r b d' now' ys ∧ d ≤ d' ∧ d' ≤ d + 1 ∧ now ≤ now' ∧ now' ≤ now + 65535 ∧ Turn (fun k => k = q ∨ k = p ∨ k = m) w w' := by
  obtain ⟨⟨A, c, hq, hR⟩, L, hqp, hqm⟩ := X
  obtain ⟨hd0, hd1⟩ := hd
  obtain ⟨hn0, hn1⟩ := hnow
  obtain ⟨hk00, hk01⟩ := hk
  obtain ⟨hb0, hb1⟩ := hb2
  have hql : q < w.heap.size := (Array.getElem?_eq_some_iff.1 hq).1
  have hpl := L.lt
  have hml := L.ltm
  have c0 := (cells_of hq 0).1
  have c5 := (cells_of hq 5).1
  have f5 := (cells_of hq 5).2
  simp only [List.getElem?_toArray, List.getElem?_cons_succ, List.getElem?_cons_zero] at c0 c5
  have HR := Lib.hid hR
  have HL := Lib.hid L
  have HQ := Lib.hid hq
  clear hR L hq
  have hw1 : IntKind.i64.wrap (now + by2) = now + by2 := IntWalk.i64_in _ (by omega)
  have hw2 : IntKind.i64.wrap (now - by2) = now - by2 := IntWalk.i64_in _ (by omega)
  go_enter Try.func14, Try.ntmps14
  go_wp2_with fail
  go_quiet (fail)
  go_wp2_with fail
  go_quiet (fail)
  go_wp2_with fail
  refine wp_at (fun W1 => DoRel w W1 q p m A c r b d d (now) xs (toB xs) k0 key by2 true) ?S ?_
  case S => exact dorel_back HQ.out HR.out HL.out hqp hqm (pw_below_drewN ((Below.refl _ _).alloc (Nat.le_refl _) _) _) (heap_alloc_new w _)
  intro W1 hD
  have HD := Lib.hid hD
  have q0 := (cells_of hD.row 0).1
  have n1 := (cells_of hD.box 1).1
  simp only [List.getElem?_toArray, List.getElem?_cons_succ, List.getElem?_cons_zero] at q0 n1
  obtain ⟨⟨ok, d', B'⟩, hM⟩ : ∃ z, allowM r b (toB xs) d key.data.toList (0) = z := ⟨_, rfl⟩
  have hdd := allow_d hM
  have HM := Lib.hid hM
  clear HR HL HQ c0 c5 f5 hD hM
  go_region_held3 (fun w' => w'.cell? ⟨q, 0, none⟩ = some (.pointer (some ⟨p, 0, none⟩)) ∧ w'.cell? ⟨w.heap.size, 1, none⟩ = some (.string key))
    (first | (with_reducible exact ⟨m0, m1⟩) | (with_reducible exact ⟨q0, n1⟩) | go_keep)
    (first | (go_at_call 10; refine (allow_any (HD.out.drew 1).lim hd0 (by omega) key hkey _ ok d' B' HM.out).mono ?_; rintro e W2 ⟨rfl, L2, t2⟩; have HD2 := Lib.hid ((HD.out.drew 1).step L2 t2); have m0 := (cells_of HD2.out.row 0).1; have m1 := (cells_of HD2.out.box 1).1; simp only [List.getElem?_toArray, List.getElem?_cons_succ, List.getElem?_cons_zero] at m0 m1; clear L2 t2))
  clear q0 n1
  go_wp2
  refine wp_at (fun W1 => DoRel w W1 q p m A c r b d d' (now) xs B' k0 key by2 true) ?S2 ?_
  case S2 => exact HD2.out
  intro W3 hD3
  have HD3 := Lib.hid hD3
  have g0 := (cells_of hD3.row 0).1
  have g1 := (cells_of hD3.row 1).1
  have g2 := (cells_of hD3.row 2).1
  have g3 := (cells_of hD3.row 3).1
  have g4 := (cells_of hD3.row 4).1
  have n1 := (cells_of hD3.box 1).1
  simp only [List.getElem?_toArray, List.getElem?_cons_succ, List.getElem?_cons_zero] at g0 g1 g2 g3 g4 n1
  have hq3 : q < W3.heap.size := (Array.getElem?_eq_some_iff.1 hD3.row).1
  have hn3 : w.heap.size < W3.heap.size := (Array.getElem?_eq_some_iff.1 hD3.box).1
  have hq6 : W3.heap.size ≠ q := by omega
  have hn6 : W3.heap.size ≠ w.heap.size := by omega
  clear HD2 hD3 m0 m1
  go_region_held3 (fun w' => w'.cell? ⟨q, 1, none⟩ = some (.int .i64 r) ∧ w'.cell? ⟨q, 2, none⟩ = some (.int .i64 b) ∧ w'.cell? ⟨q, 3, none⟩ = some (.slice A xs.length c) ∧ w'.cell? ⟨q, 4, none⟩ = some (.int .i64 d) ∧ w'.cell? ⟨w.heap.size, 1, none⟩ = some (.string key))
    (first | (with_reducible exact ⟨m1, m2, m3, m4, mn⟩) | (with_reducible exact ⟨g1, g2, g3, g4, n1⟩) | go_keep)
    (first
      | (go_at_call 26; refine (rallow_any _ _ 0 (fun k => (k ≠ q ∧ k ≠ p ∧ k ≠ m) ∧ k ≠ W3.heap.size) r b d _ xs (rinv_of HD.out.lim) (HD3.out.ref2 (.cells #[.int .i64 0, .int .i64 0, .slice none 0 0, .int .i64 0] 44)) (Nat.zero_le _) (fun k hk => HD3.out.fresh2 hk) key (by omega) ok d' B' HM.out).mono ?_; rintro e W4 ⟨ys, hys, v4, rfl, hr4, hb4⟩; obtain ⟨A4, c4, hv4⟩ := Kd.R_slice hr4; subst hv4; have HD4 := Lib.hid ((HD3.out.below (((Below.refl W3.heap.size W3).alloc (Nat.le_refl _) (.cells #[.int .i64 0, .int .i64 0, .slice none 0 0, .int .i64 0] 44)).drew)).below hb4); have hz4 := (hb4.block W3.heap.size (by simp)).trans (heap_alloc_new W3 _); have z0 := (cells_of hz4 0).1; have z1 := (cells_of hz4 1).1; have z2 := (cells_of hz4 2).1; have z3 := (cells_of hz4 3).1; have zf0 := (cells_of hz4 0).2; have zf1 := (cells_of hz4 1).2; have zf2 := (cells_of hz4 2).2; have zf3 := (cells_of hz4 3).2; simp only [List.getElem?_toArray, List.getElem?_cons_succ, List.getElem?_cons_zero] at z0 z1 z2 z3; have hzs : W3.heap.size < W4.heap.size := Nat.lt_of_lt_of_le (by simp) hb4.size; clear hz4; have HR4 := Lib.hid (R_keep hr4); have HY := Lib.hid hys; have m1 := (cells_of HD4.out.row 1).1; have m2 := (cells_of HD4.out.row 2).1; have m3 := (cells_of HD4.out.row 3).1; have m4 := (cells_of HD4.out.row 4).1; have mf1 := (cells_of HD4.out.row 1).2; have mf2 := (cells_of HD4.out.row 2).2; have mf3 := (cells_of HD4.out.row 3).2; have mf4 := (cells_of HD4.out.row 4).2; have mn := (cells_of HD4.out.box 1).1; simp only [List.getElem?_toArray, List.getElem?_cons_succ, List.getElem?_cons_zero] at m1 m2 m3 m4 mn; have hq4 : q < W4.heap.size := (Array.getElem?_eq_some_iff.1 HD4.out.row).1; have hn4 : w.heap.size < W4.heap.size := (Array.getElem?_eq_some_iff.1 HD4.out.box).1; have hq5 : W4.heap.size ≠ q := (by omega); have hn5 : W4.heap.size ≠ w.heap.size := (by omega); clear hr4 hb4 hys)
      | (go_at_call 26; refine (rallow_any _ _ 0 (fun k => k ≠ q ∧ k ≠ p ∧ k ≠ m) r b d _ xs (rinv_of HD.out.lim) HD3.out.drew1.ref (Nat.zero_le _) (fun k hk => HD3.out.fresh hk) key (by omega) ok d' B' HM.out).mono ?_; rintro e W4 ⟨ys, hys, v4, rfl, hr4, hb4⟩; obtain ⟨A4, c4, hv4⟩ := Kd.R_slice hr4; subst hv4; have HD4 := Lib.hid (HD3.out.drew1.below hb4); have HR4 := Lib.hid (R_keep hr4); have HY := Lib.hid hys; have m1 := (cells_of HD4.out.row 1).1; have m2 := (cells_of HD4.out.row 2).1; have m3 := (cells_of HD4.out.row 3).1; have m4 := (cells_of HD4.out.row 4).1; have mf1 := (cells_of HD4.out.row 1).2; have mf2 := (cells_of HD4.out.row 2).2; have mf3 := (cells_of HD4.out.row 3).2; have mf4 := (cells_of HD4.out.row 4).2; have mn := (cells_of HD4.out.box 1).1; simp only [List.getElem?_toArray, List.getElem?_cons_succ, List.getElem?_cons_zero] at m1 m2 m3 m4 mn; have hq4 : q < W4.heap.size := (Array.getElem?_eq_some_iff.1 HD4.out.row).1; have hn4 : w.heap.size < W4.heap.size := (Array.getElem?_eq_some_iff.1 HD4.out.box).1; have hq5 : W4.heap.size ≠ q := (by omega); have hn5 : W4.heap.size ≠ w.heap.size := (by omega); clear hr4 hb4 hys))
  all_goals
    clear g0 g1 g2 g3 g4 n1
    go_wp2
    go_ret
    first
    | (have hE := dorel_end HD4.out.toEnd (Kd.R_mono HR4.out (fun k hk => hk.1)) HY.out
       exact ⟨rfl, d', now, _, hE.1.below ((Below.refl _ _).alloc (Nat.le_refl _) _), hdd.1, hdd.2, by omega, by omega, hE.2.trans (Turn.of_below ((Below.refl _ _).alloc (Nat.le_refl _) _))⟩)
    | (have hT : Turn (fun k => k = W3.heap.size) W4 ((((W4.setCell ⟨W3.heap.size, 0, none⟩ (.int .i64 r)).setCell ⟨W3.heap.size, 1, none⟩ (.int .i64 b)).setCell ⟨W3.heap.size, 2, none⟩ (.slice A4 ys.length c4)).setCell ⟨W3.heap.size, 3, none⟩ (.int .i64 d')) := turn_set4 _ _ _ _ _ _
       have hE := dorel_end (HD4.out.far (HD3.out.fresh (Nat.le_refl _)) (Nat.le_of_lt hn3) hT) (Kd.R_mono (Kd.R_step HR4.out (fun k hk h2 => hT.block k h2 hk.1.2)) (fun k hk => hk.1.1)) HY.out
       exact ⟨rfl, d', now, _, hE.1, hdd.1, hdd.2, by omega, by omega, hE.2⟩)

set_option maxRecDepth 100000 in
set_option maxHeartbeats 1000000 in
theorem do_low_forget (w : World) (q p m : Nat) (r b d now : Int) (xs : List S71) (X : Wld w q p m r b d now xs) (hd : 0 ≤ d ∧ d ≤ 1000000) (hnow : 0 ≤ now ∧ now ≤ 1000000000) (key : ByteArray) (hkey : key.size ≤ maxLen) (k0 : Int) (by2 : Int) (hk : 0 ≤ k0 ∧ k0 ≤ 255) (hb2 : 0 ≤ by2 ∧ by2 ≤ 65535) (hf : k0 % 4 = 3) (hc : now - by2 ≤ 0) :
    Calls Try.prog 14 #[.pointer (some ⟨q, 0, none⟩), .agg #[.int .u8 k0, .string key, .int .u16 by2, .bool true]] w fun e w' => e = .returned (.bool true) ∧ ∃ d' now' ys, Wld w' q p m r b d' now' ys ∧ d ≤ d' ∧ d' ≤ d + 1 ∧ now ≤ now' ∧ now' ≤ now + 65535 ∧ Turn (fun k => k = q ∨ k = p ∨ k = m) w w' := by
  obtain ⟨⟨A, c, hq, hR⟩, L, hqp, hqm⟩ := X
  obtain ⟨hd0, hd1⟩ := hd
  obtain ⟨hn0, hn1⟩ := hnow
  obtain ⟨hk00, hk01⟩ := hk
  obtain ⟨hb0, hb1⟩ := hb2
  have hql : q < w.heap.size := (Array.getElem?_eq_some_iff.1 hq).1
  have hpl := L.lt
  have hml := L.ltm
  have c0 := (cells_of hq 0).1
  have c5 := (cells_of hq 5).1
  have f5 := (cells_of hq 5).2
  simp only [List.getElem?_toArray, List.getElem?_cons_succ, List.getElem?_cons_zero] at c0 c5
  have HR := Lib.hid hR
  have HL := Lib.hid L
  have HQ := Lib.hid hq
  clear hR L hq
  have hw1 : IntKind.i64.wrap (now + by2) = now + by2 := IntWalk.i64_in _ (by omega)
  have hw2 : IntKind.i64.wrap (now - by2) = now - by2 := IntWalk.i64_in _ (by omega)
  go_enter Try.func14, Try.ntmps14
  go_wp2_with fail
  go_quiet (fail)
  go_wp2_with fail
  go_quiet (fail)
  go_wp2_with fail
  refine calls_at (fun W1 => DoRel w W1 q p m A c r b d d (now) xs (toB xs) k0 key by2 true) ?S ?_
  case S => exact dorel_back HQ.out HR.out HL.out hqp hqm (pw_below_drewN ((Below.refl _ _).alloc (Nat.le_refl _) _) _) (heap_alloc_new w _)
  intro W1 hD
  have HD := Lib.hid hD
  clear HR HL HQ c0 c5 f5 hD
  refine (forget_any HD.out.lim (0) (by omega) (by omega)).mono ?_
  rintro e W2 ⟨rfl, L2, t2⟩
  have hD2 := HD.out.step L2 (t2.mono (fun k _ e => .inr e))
  have HD2 := Lib.hid hD2
  have g0 := (cells_of hD2.row 0).1
  have g1 := (cells_of hD2.row 1).1
  have g2 := (cells_of hD2.row 2).1
  have g3 := (cells_of hD2.row 3).1
  have g4 := (cells_of hD2.row 4).1
  simp only [List.getElem?_toArray, List.getElem?_cons_succ, List.getElem?_cons_zero] at g0 g1 g2 g3 g4
  clear L2 t2 hD2
  go_wp2_with fail
  obtain ⟨A3, c3, he3, hcap, hC⟩ := Kd.R_reads HD2.out.ref
  simp only [Value.slice.injEq] at he3
  obtain ⟨rfl, -, rfl⟩ := he3
  refine (rforget_any W2 A c r b d (0) xs (rinv_of HD.out.lim) hC hcap (by omega) (by omega)).mono ?_
  rintro e W4 ⟨ys, A4, c4, hys, rfl, hr4, hb4⟩
  have HD4 := Lib.hid (HD2.out.below hb4)
  have HR4 := Lib.hid (R_keep (Kd.R_mono (Kd.R_lower hr4 (Nat.zero_le _)) (fun k hk => HD2.out.fresh hk)))
  have HY := Lib.hid hys
  have m1 := (cells_of HD4.out.row 1).1
  have m2 := (cells_of HD4.out.row 2).1
  have m3 := (cells_of HD4.out.row 3).1
  have m4 := (cells_of HD4.out.row 4).1
  have mf1 := (cells_of HD4.out.row 1).2
  have mf2 := (cells_of HD4.out.row 2).2
  have mf3 := (cells_of HD4.out.row 3).2
  have mf4 := (cells_of HD4.out.row 4).2
  simp only [List.getElem?_toArray, List.getElem?_cons_succ, List.getElem?_cons_zero] at m1 m2 m3 m4
  have hq4 : q < W4.heap.size := (Array.getElem?_eq_some_iff.1 HD4.out.row).1
  clear hr4 hb4 hys hC hcap g0 g1 g2 g3 g4
  go_wp2
  go_ret
  have hE := dorel_end HD4.out.toEnd (Kd.R_mono HR4.out (fun k hk => hk.1)) HY.out
  exact ⟨rfl, d, now, _, hE.1.below ((Below.refl _ _).alloc (Nat.le_refl _) _), by omega, by omega, by omega, by omega, hE.2.trans (Turn.of_below ((Below.refl _ _).alloc (Nat.le_refl _) _))⟩

/-- An act does the same on both. -/
theorem do_any (w : World) (q p m : Nat) (r b d now : Int) (xs : List S71) (X : Wld w q p m r b d now xs) (hd : 0 ≤ d ∧ d ≤ 1000000) (hnow : 0 ≤ now ∧ now ≤ 1000000000) (x : S32) (hx : okAct x) :
    Calls Try.prog 14 #[.pointer (some ⟨q, 0, none⟩), .agg #[.int .u8 x.f0, .string x.f1, .int .u16 x.f2, .bool x.f3]] w fun e w' => e = .returned (.bool true) ∧ ∃ d' now' ys, Wld w' q p m r b d' now' ys ∧ d ≤ d' ∧ d' ≤ d + 1 ∧ now ≤ now' ∧ now' ≤ now + 65535 ∧ Turn (fun k => k = q ∨ k = p ∨ k = m) w w' := by
  obtain ⟨h0, h1, h2, -⟩ := hx
  have hk : 0 ≤ x.f0 ∧ x.f0 ≤ 255 := by simpa [Lit.wf, IntKind.min, IntKind.max, IntKind.signed, IntKind.bits] using h0
  have hb : 0 ≤ x.f2 ∧ x.f2 ≤ 65535 := by simpa [Lit.wf, IntKind.min, IntKind.max, IntKind.signed, IntKind.bits] using h2
  by_cases hf : x.f0 % 4 = 3
  · cases hback : x.f3 with
    | false => exact do_on_forget w q p m r b d now xs X hd hnow x.f1 h1 x.f0 x.f2 hk hb hf
    | true =>
      by_cases hc : 0 < now - x.f2
      · exact do_back_forget w q p m r b d now xs X hd hnow x.f1 h1 x.f0 x.f2 hk hb hf hc
      · exact do_low_forget w q p m r b d now xs X hd hnow x.f1 h1 x.f0 x.f2 hk hb hf (by omega)
  · cases hback : x.f3 with
    | false => exact do_on_allow w q p m r b d now xs X hd hnow x.f1 h1 x.f0 x.f2 hk hb hf
    | true =>
      by_cases hc : 0 < now - x.f2
      · exact do_back_allow w q p m r b d now xs X hd hnow x.f1 h1 x.f0 x.f2 hk hb hf hc
      · exact do_low_allow w q p m r b d now xs X hd hnow x.f1 h1 x.f0 x.f2 hk hb hf (by omega)

end Go.Proofs.Ytgphhjghodhodaa
