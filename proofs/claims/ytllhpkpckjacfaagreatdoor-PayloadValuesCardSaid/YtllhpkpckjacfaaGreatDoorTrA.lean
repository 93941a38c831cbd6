/- template's rendering: what it says as a plain function; the run in memory; say and list. -/
import Derived.Test.YtllhpkpckjacfaaGreatDoorTmE
import Derived.Lib.BufferKept
namespace Go.Proofs.YtllhpkpckjacfaaGreatDoor
open Go.RowKit Go.Proofs.YtllhpkpckjacfaaGreatDoorW.PrintWords PTemplateFilters
set_option linter.unusedVariables false
set_option linter.unusedSimpArgs false

/-- A message. -/
structure MsgM where
  recv : Bytes
  key : Bytes
  group : List S40
  firing : List (List S40)
  resolved : List (List S40)
def bts (s : ByteArray) : Bytes := s.data.toList
/-- A label's value. -/
def getM : List S40 → Bytes → Bytes
  | [], _ => []
  | p :: l, n => if bts p.f0 = n then bts p.f1 else getM l n
def listsM (m : MsgM) (s : Bytes) : List (List S40) := if s = wFiring then m.firing else m.resolved
/-- What a place stands for, ahead of its filters: of a receiver, a group's label, an alert's label. -/
def valM (m : MsgM) (al : List S40) (a : List Bytes) : Bytes :=
  match a with
  | [x] => if x = wReceiver then m.recv else []
  | [x, y] => if x = wGroup then getM m.group y else if x = wLabel then getM al y else []
  | _ => []
/-- Is a place's value of those? -/
def valB (a : List Bytes) : Bool :=
  match a with
  | [x] => x == wReceiver
  | [x, _] => x == wGroup || x == wLabel
  | _ => false
def filtM (s : Bytes) : List (List Bytes) → Bytes × Nat
  | [] => (s, 0)
  | f :: r => if (filterM s f).2 ≠ 0 then ([], (filterM s f).2) else if 65536 < (filterM s f).1.length then ([], 5) else filtM (filterM s f).1 r
def plM (m : MsgM) (al : List S40) (a : List Bytes) (fl : List (List Bytes)) : Bytes := (filtM (valM m al a) fl).1
/-- What a node says, so deep. -/
def rendM (m : MsgM) : Nat → List S40 → Nd → Bytes
  | 0, _, _ => []
  | d + 1, al, .lit s => s
  | d + 1, al, .place a fl => plM m al a fl
  | d + 1, al, .loop s inn => (listsM m s).flatMap (fun b => inn.flatMap (rendM m d b))
  | d + 1, al, .choice a fl y n => if plM m al a fl = [] then n.flatMap (rendM m d al) else y.flatMap (rendM m d al)
def rendsM (m : MsgM) (d : Nat) (al : List S40) (l : List Nd) : Bytes := l.flatMap (rendM m d al)
/-- Places that may be: their values are of those, and their filters go. -/
def goodP (m : MsgM) (al : List S40) (a : List Bytes) (fl : List (List Bytes)) : Prop := valB a = true ∧ (filtM (valM m al a) fl).2 = 0 ∧ (valM m al a).length ≤ 65536 ∧ (∀ b ∈ a, b.length ≤ 1000000) ∧ (∀ f ∈ fl, ∀ b ∈ f, b.length ≤ 1000000) ∧ fl.length ≤ 1000000
def goodM (m : MsgM) : Nat → List S40 → Nd → Prop
  | 0, _, _ => False
  | d + 1, al, .lit s => True
  | d + 1, al, .place a fl => goodP m al a fl
  | d + 1, al, .loop s inn => al = [] ∧ inn.length ≤ 1000000 ∧ (listsM m s).length ≤ 64 ∧ ∀ b ∈ listsM m s, ∀ x ∈ inn, goodM m d b x
  | d + 1, al, .choice a fl y n => goodP m al a fl ∧ y.length ≤ 1000000 ∧ n.length ≤ 1000000 ∧ (∀ x ∈ y, goodM m d al x) ∧ ∀ x ∈ n, goodM m d al x

/-- Pairs in memory; lists of them. -/
def PairsC (w : World) (V : Value) (l : List S40) : Prop := ∃ A c, V = .slice A l.length c ∧ l.length ≤ c ∧ Kd.C k40 w A l.length l
theorem PairsC.below {w w' : World} {V : Value} {l : List S40} (h : PairsC w V l) (hb : Below w.heap.size w w') : PairsC w' V l := by
  obtain ⟨A, c, e, hc, hC⟩ := h
  exact ⟨A, c, e, hc, Kd.C_below hC hb⟩
theorem PairsC.nil (w : World) : PairsC w (.slice none 0 0) [] := ⟨none, 0, rfl, Nat.le_refl _, Kd.C_nil k40 w⟩
abbrev ListsC (w : World) (V : Value) (L : List (List S40)) : Prop := RowK (fun _ => True) w (fun v l => PairsC w v l) V L
theorem ListsC.below {w w' : World} {V : Value} {L : List (List S40)} (h : ListsC w V L) (hb : Below w.heap.size w w') : ListsC w' V L := (RowK.move h (same_below hb (Nat.le_refl _))).imp (fun v x _ hv => hv.below hb)
/-- The message's five cells. -/
def MsgC (w : World) (m : MsgM) (pre : List Value) : Prop := ∃ Vg Vf Vr, pre = [.string (str m.recv), .string (str m.key), Vg, Vf, Vr] ∧ PairsC w Vg m.group ∧ ListsC w Vf m.firing ∧ ListsC w Vr m.resolved

theorem Wb.below {w w' : World} {b o B T : Nat} {pre rest : List Value} {l : Bytes} (h : Wb w b o B T pre rest l) (hb : Below w.heap.size w w') : Wb w' b o B T pre rest l := by
  obtain ⟨p, v, hp, h⟩ := h
  refine ⟨p, v, hp, h.base, h.at', blk_below h.row hb, ownF_kept h.own (fun k hk => hb.block k ?_), h.ne⟩
  rcases h.own.2 with ⟨e, _⟩ | ⟨g, cap, cur, fz, e, _, hg, _⟩
  · rw [e] at hk; simp [Value.ownBlock] at hk
  · rw [e] at hk
    have e2 : g = k := by simpa [Value.ownBlock] using hk
    subst e2
    exact blk_lt hg
theorem Wf.ofBelow {B b : Nat} {w w' : World} (hB : B ≤ w.heap.size) (hb : Below w.heap.size w w') : Wf B b w w' := ⟨hb.mono hB, Lib.OthersKept.below (Lib.OthersKept.refl _ _ _) hb⟩
theorem len_w {w : World} {b o B T m : Nat} {pre rest : List Value} {l : Bytes} (H : HeadB T o m) (h : Wb w b o B T pre rest l) :
    Calls Tryz.prog 153 #[.pointer (some ⟨b, o, none⟩)] w fun e w' => e = .returned (.int .i64 l.length) ∧ Below w.heap.size w w' := by
  obtain ⟨p, v, hp, U⟩ := h
  have c1 : w.cell? ⟨b, o + 1, none⟩ = some v := (cells_of U.row (o + 1)).1.trans (by rw [← U.at']; exact row_get1)
  obtain ⟨A, c, rfl⟩ : ∃ A c, v = .slice A l.length c := by
    rcases U.own.2 with ⟨e, hz⟩ | ⟨g, cap, cur, fz, e, _⟩
    · exact ⟨none, 0, by rw [e, hz]⟩
    · exact ⟨_, _, e⟩
  clear U hp
  go_enter Tryz.func153, Tryz.ntmps153
  go_wp2
  go_ret
  exact ⟨rfl, by first | exact Below.refl _ _ | exact below_drew (Below.refl _ _)⟩

/-- The run at block b since the world w0: the alert, and what was said. -/
structure RunK (w0 w : World) (b : Nat) (pre : List Value) (al : List S40) (l : Bytes) : Prop where
  wb : ∃ Va idx, PairsC w0 Va al ∧ Wb w b 5 w0.heap.size 115 pre [Va, .int .i64 idx] l
  bel : Below w0.heap.size w0 w
section
variable {w0 w w1 : World} {b : Nat} {pre : List Value} {al : List S40} {l : Bytes}
theorem RunK.below (h : RunK w0 w b pre al l) (hb : Below w.heap.size w w1) : RunK w0 w1 b pre al l := by
  obtain ⟨Va, idx, hA, hW⟩ := h.wb
  exact ⟨⟨Va, idx, hA, hW.below hb⟩, h.bel.trans (hb.mono h.bel.size)⟩
theorem RunK.ge (h : RunK w0 w b pre al l) : w0.heap.size ≤ b := by
  obtain ⟨Va, idx, hA, p, v, hp, hW⟩ := h.wb
  exact hW.base
theorem RunK.lt (h : RunK w0 w b pre al l) : b < w.heap.size := by
  obtain ⟨Va, idx, hA, hW⟩ := h.wb
  exact hW.lt
end
set_option maxRecDepth 100000 in
set_option maxHeartbeats 800000 in
theorem say_any {w0 w : World} {b : Nat} {pre : List Value} {al : List S40} {l : Bytes} (hR : RunK w0 w b pre al l) (hpre : pre.length = 5) (x : Bytes) (hx : (l ++ x).length ≤ 65536) :
    Calls Tryz.prog 131 #[.pointer (some ⟨b, 0, none⟩), .string (str x)] w fun e w' => e = .returned (.int .i64 0) ∧ RunK w0 w' b pre al (l ++ x) ∧ Wf w0.heap.size b w w' := by
  obtain ⟨Va, idx, hA, hW⟩ := hR.wb
  have hx2 := hx
  rw [List.length_append] at hx2
  have hw1 := writeString_w headB115 (by simp [hpre]) hW x (by omega) hR.bel.size
  have HW1 := Lib.hid hw1
  have HR := Lib.hid hR
  have HA := Lib.hid hA
  obtain ⟨y, hy⟩ : ∃ y, l ++ x = y := ⟨_, rfl⟩
  rw [hy] at HW1 hx ⊢
  have hxi : ¬ ((65536 : Int) < (y.length : Int)) := by omega
  clear hw1 hW hR hA hx2 hy
  go_enter Tryz.func131, Tryz.ntmps131
  go_wp2_with (first | (go_at_call 54; (refine HW1.out.mono ?_); rintro e w2 ⟨⟨v, rfl⟩, hW2, hf2⟩; have HW2 := Lib.hid hW2; have HF2 := Lib.hid hf2; clear hW2 hf2) | (go_at_call 153; (refine (len_w headB115 HW2.out).mono ?_); rintro e w3 ⟨rfl, hb3⟩))
  go_ret
  exact ⟨rfl, ⟨⟨Va, idx, HA.out, HW2.out.below hb3⟩, (HR.out.bel.trans HF2.out.below).trans (hb3.mono (HR.out.bel.trans HF2.out.below).size)⟩, HF2.out.trans (Wf.ofBelow (HR.out.bel.trans HF2.out.below).size hb3)⟩
end Go.Proofs.YtllhpkpckjacfaaGreatDoor
