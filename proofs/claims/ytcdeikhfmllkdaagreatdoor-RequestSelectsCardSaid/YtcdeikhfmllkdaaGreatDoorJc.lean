import Derived.Test.YtcdeikhfmllkdaaGreatDoorJb
import Derived.Deep.RegionHeld3
import Derived.Deep.AppendLies
import Derived.Deep.QuietTactic
import Derived.BigQuiet
import Derived.Deep.DrawnRows
import Derived.Deep.RegionLaw
import Derived.Deep.DeepCutAuto
/- json's reading as a plain function: what a text reads as. -/
namespace Go.Proofs.YtcdeikhfmllkdaaGreatDoor
open Go.RowKit
set_option linter.unusedVariables false

/-- A value of a list. -/
structure Val where
  parent : Int
  kind : Nat
  name : Bytes
  text : Bytes
deriving DecidableEq

def getM (l : List Val) (i : Int) (name : Bytes) : Option Nat := l.findIdx? (fun v => v.parent = i ∧ v.name = name)

abbrev Res := Except Nat (Bytes × List Val)

def isNum (c : UInt8) : Bool := c = 45 ∨ (48 ≤ c ∧ c ≤ 57)

mutual
/-- The next value. -/
def valueM : Nat → Bytes → List Val → Nat → Bytes → Int → Res
  | 0, _, _, _, _, _ => .error 4
  | f + 1, s, l, nest, name, parent =>
    match skip s with
    | [] => .error 4
    | c :: t =>
      if 512 ≤ l.length then .error 5
      else if 16 ≤ nest then .error 4
      else if c = 110 then if Lib.hasPrefix (c :: t) [110, 117, 108, 108] then .ok (Lib.trimPrefix (c :: t) [110, 117, 108, 108], l ++ [⟨parent, 0, name, []⟩]) else .error 4
      else if c = 102 then if Lib.hasPrefix (c :: t) [102, 97, 108, 115, 101] then .ok (Lib.trimPrefix (c :: t) [102, 97, 108, 115, 101], l ++ [⟨parent, 1, name, []⟩]) else .error 4
      else if c = 116 then if Lib.hasPrefix (c :: t) [116, 114, 117, 101] then .ok (Lib.trimPrefix (c :: t) [116, 114, 117, 101], l ++ [⟨parent, 2, name, []⟩]) else .error 4
      else if c = 34 then match quotedM (c :: t) with
        | some (x, u) => .ok (u, l ++ [⟨parent, 4, name, x⟩])
        | none => .error 4
      else if isNum c then if intM (numTok (c :: t)) then .ok (numRest (c :: t), l ++ [⟨parent, 3, name, numTok (c :: t)⟩]) else .error 4
      else if c = 91 then manyM f t (l ++ [⟨parent, 5, name, []⟩]) nest l.length 93
      else if c = 123 then manyM f t (l ++ [⟨parent, 6, name, []⟩]) nest l.length 125
      else .error 4
/-- What stands in the value i, and its end. -/
def manyM : Nat → Bytes → List Val → Nat → Nat → UInt8 → Res
  | 0, _, _, _, _, _ => .error 4
  | f + 1, s, l, nest, i, e =>
    match skip s with
    | [] => loopM f [] l nest i e
    | c :: t => if c = e then .ok (t, l) else loopM f (c :: t) l nest i e
/-- One after the other, up to the end. -/
def loopM : Nat → Bytes → List Val → Nat → Nat → UInt8 → Res
  | 0, _, _, _, _, _ => .error 4
  | f + 1, s, l, nest, i, e =>
    let named : Except Nat (Bytes × Bytes) :=
      if e = 125 then match quotedM s with
        | none => .error 4
        | some (x, u) => match skip u with
          | [] => .error 4
          | c :: t => if c = 58 then match getM l i x with
            | none => .ok (x, t)
            | some _ => .error 7
            else .error 4
      else .ok ([], s)
    match named with
    | .error n => .error n
    | .ok (name, u) => match valueM f u l (nest + 1) name i with
      | .error n => .error n
      | .ok (v, m) => match skip v with
        | [] => .error 4
        | c :: t => if c = 44 then loopM f t m nest i e else if c = e then .ok (t, m) else .error 4
end

def rd0 : Bytes := [32, 123, 34, 97, 34, 58, 91, 49, 44, 34, 92, 117, 48, 48, 101, 57, 34, 93, 125]
example : valueM 100 rd0 [] 0 [] (-1) = .ok ([], [⟨-1, 6, [], []⟩, ⟨0, 5, [97], []⟩, ⟨1, 3, [], [49]⟩, ⟨1, 4, [], [195, 169]⟩]) := by kernel_rfl
end Go.Proofs.YtcdeikhfmllkdaaGreatDoor

/- Lists of values in memory; json's reading: the place of the last value. -/
namespace Go.Proofs.YtcdeikhfmllkdaaGreatDoor
open Go.RowKit
set_option linter.unusedVariables false

def Val.cells (v : Val) : List Value := [.int .i64 v.parent, .int .u8 (v.kind : Int), .string (str v.name), .string (str v.text)]
def vcells (l : List Val) : List Value := l.flatMap Val.cells
theorem vcells_len (l : List Val) : (vcells l).length = l.length * 4 := by
  induction l with
  | nil => rfl
  | cons a l ih => simp only [vcells, List.flatMap_cons, List.length_append] at *; rw [ih]; simp [Val.cells]; omega
theorem vcells_append (l m : List Val) : vcells (l ++ m) = vcells l ++ vcells m := by simp [vcells]
theorem vcells_one (v : Val) : vcells [v] = v.cells := by simp [vcells]

/-- A slice of the reader's own, whose block is not its own. -/
def Own (w : World) (B : Nat) (V : Value) (l : List Val) : Prop := w.ownsRow B 78 4 V l.length (vcells l)

theorem Own.kept {w w' : World} {B : Nat} {V : Value} {l : List Val} (h : Own w B V l) (t : ∀ k, V.ownBlock = some k → w'.heap[k]? = w.heap[k]?) : Own w' B V l := by
  refine ⟨h.1, ?_⟩
  rcases h.2 with hn | ⟨g, cap, cur, rfl, hb, hg, rest⟩
  · exact .inl hn
  · exact .inr ⟨g, cap, cur, rfl, hb, (t g rfl).trans hg, rest⟩
theorem Own.lt {w : World} {B : Nat} {V : Value} {l : List Val} (h : Own w B V l) {k : Nat} (hk : V.ownBlock = some k) : B ≤ k ∧ k < w.heap.size := World.ownsRow.lt h k hk

/-- The last value's own cells, where the row has one. -/
theorem Own.snoc {w : World} {B : Nat} {V : Value} {l : List Val} {v : Val} (h : Own w B V (l ++ [v])) : ∃ g cap, V = .slice (some ⟨g, 0, none⟩) (l.length + 1) cap ∧ B ≤ g ∧ g < w.heap.size ∧ l.length + 1 ≤ cap ∧
    (∀ j, j < 4 → w.cell? ⟨g, l.length * 4 + j, none⟩ = v.cells[j]? ∧ w.frozen? ⟨g, l.length * 4 + j, none⟩ = false) ∧
    (∀ j x v', j < 4 → v'.cells = v.cells.set j x → Own (w.setCell ⟨g, l.length * 4 + j, none⟩ x) B V (l ++ [v'])) := by
  obtain ⟨hl, hn | ⟨g, cap, cur, hV, hb, hg, hc, hm, hs, ht⟩⟩ := h
  · simp at hn
  · have hlen : (l ++ [v]).length = l.length + 1 := by simp
    rw [hlen] at hV hc ht
    refine ⟨g, cap, hV, hb, (Array.getElem?_eq_some_iff.1 hg).1, hc, ?_, ?_⟩
    · intro j hj
      have e := cells_of hg (l.length * 4 + j)
      refine ⟨e.1.trans ?_, e.2⟩
      have e2 : cur[l.length * 4 + j]? = (cur.toList.take ((l.length + 1) * 4))[l.length * 4 + j]? := by
        rw [List.getElem?_take, if_pos (by omega)]; simp
      rw [e2, ht, vcells_append, List.getElem?_append_right (by rw [vcells_len]; omega), vcells_len, vcells_one]
      congr 1; omega
    · intro j x v' hj hv'
      refine ⟨vcells_len _, .inr ⟨g, cap, cur.setIfInBounds (l.length * 4 + j) x, by rw [hV]; simp, hb, blk_set hg _ _, by simpa using hc, hm, by simp [hs], ?_⟩⟩
      have hlen' : (l ++ [v']).length = l.length + 1 := by simp
      rw [hlen', Array.toList_setIfInBounds, List.take_set, ht, vcells_append, vcells_append, vcells_one, vcells_one, List.set_append_right _ _ (by rw [vcells_len]; omega), vcells_len, hv']
      congr 2 <;> omega

/-- The reader and its list. -/
structure Rs (w : World) (q B : Nat) (s : Bytes) (V : Value) (l : List Val) (n : Int) : Prop where
  rd : Rd w q s V n
  own : Own w B V l
  hq : q < B
  few : l.length ≤ 512

set_option maxHeartbeats 400000 in
theorem place_any {w : World} {q B r i : Nat} {s : Bytes} {V : Value} {l : List Val} {v : Val} {n : Int} (R : Rs w q B s V (l ++ [v]) n)
    (hr : w.cell? ⟨r, 0, none⟩ = some (.pointer (some ⟨q, 0, none⟩))) (hi : w.cell? ⟨i, 0, none⟩ = some (.int .i64 l.length)) :
    Calls Tryz.prog 120 #[.pointer (some ⟨r, 0, none⟩), .pointer (some ⟨i, 0, none⟩)] w fun e w' => (∃ g, V.ownBlock = some g ∧ e = .returned (.pointer (some ⟨g, l.length * 4, none⟩))) ∧ ∃ k, w' = w.drewN k := by
  obtain ⟨g, cap, hV, hb, hg, hc, h1, h2⟩ := R.own.snoc
  have c1 := R.rd.c1
  have hf := R.few
  simp at hf
  subst hV
  have b0 : (0 : Int) ≤ (l.length : Int) := by omega
  have b1 : (l.length : Int) < ((l.length + 1 : Nat) : Int) := by omega
  clear h1 h2 R
  go_enter Tryz.func120, Tryz.ntmps120
  go_wp2_with fail
  go_quiet (fail)
  go_wp2
  go_ret
  exact ⟨⟨g, rfl, rfl⟩, nq, rfl⟩

/-- What a value's reading comes to. -/
def VPost (w : World) (q B : Nat) (V : Value) (n : Nat) (r : Res) (e : Ending) (w' : World) : Prop :=
  match r with
  | .ok (t, l') => e = .returned (.tuple #[]) ∧ ∃ V', Rs w' q B t V' l' n ∧ (V'.ownBlock = V.ownBlock ∨ ∃ g, V'.ownBlock = some g ∧ w.heap.size ≤ g) ∧ Turn (fun k => k = q ∨ V.ownBlock = some k) w w'
  | .error m => e = faultOf m ∧ Turn (fun k => k = q ∨ V.ownBlock = some k) w w'
theorem vp_err {w w' : World} {q B : Nat} {V : Value} {n : Nat} {r : Res} {m : Nat} (hr : r = .error m) {e : Ending} (he : e = faultOf m) (ht : Turn (fun k => k = q ∨ V.ownBlock = some k) w w') : VPost w q B V n r e w' := by
  subst hr; exact ⟨he, ht⟩
theorem vp_ok {w w' : World} {q B : Nat} {V V' : Value} {n : Nat} {r : Res} {t : Bytes} {l' : List Val} (hr : r = .ok (t, l')) {e : Ending} (he : e = .returned (.tuple #[])) (R : Rs w' q B t V' l' n)
    (hv : V'.ownBlock = V.ownBlock ∨ ∃ g, V'.ownBlock = some g ∧ w.heap.size ≤ g) (ht : Turn (fun k => k = q ∨ V.ownBlock = some k) w w') : VPost w q B V n r e w' := by
  subst hr; exact ⟨he, V', R, hv, ht⟩

theorem turn_drewN (S : Nat → Prop) (w : World) (k : Nat) : Turn S w (w.drewN k) := Turn.of_below (below_drewN (Below.refl _ _) k)

theorem Rs.turn {w w' : World} {q B : Nat} {s : Bytes} {V : Value} {l : List Val} {n : Int} (R : Rs w q B s V l n) {s' : Bytes} (h : Rd w' q s' V n) (t : Turn (fun k => k = q) w w') : Rs w' q B s' V l n :=
  ⟨h, R.own.kept (fun k hk => t.block k (R.own.lt hk).2 (by have := (R.own.lt hk).1; have := R.hq; omega)), R.hq, R.few⟩
theorem Rs.drewN {w : World} {q B : Nat} {s : Bytes} {V : Value} {l : List Val} {n : Int} (R : Rs w q B s V l n) (k : Nat) : Rs (w.drewN k) q B s V l n :=
  ⟨R.rd.below (below_drewN (Below.refl _ _) k), R.own.kept (fun j hj => rfl), R.hq, R.few⟩
theorem Rs.alloc {w : World} {q B : Nat} {s : Bytes} {V : Value} {l : List Val} {n : Int} (R : Rs w q B s V l n) (o : Obj) : Rs (w.alloc o) q B s V l n :=
  ⟨⟨by rw [heap_alloc_old _ _ R.rd.lt]; exact R.rd.row, R.rd.fits⟩, R.own.kept (fun k hk => heap_alloc_old _ _ (R.own.lt hk).2), R.hq, R.few⟩

/-- The list one longer: the reader's field set behind the append. -/
theorem Rs.grown {w w' : World} {q B : Nat} {s : Bytes} {V V' : Value} {l : List Val} {v : Val} {n : Int} (R : Rs w q B s V l n) (hl : l.length < 512) (hg : w.grownBy w' V.ownBlock)
    (h : w'.ownsRow B 78 4 V' (l.length + 1) (vcells l ++ v.cells)) : Rs (w'.setCell ⟨q, 1, none⟩ V') q B s V' (l ++ [v]) n := by
  have hne : ∀ k, V'.ownBlock = some k → k ≠ q := fun k hk => by have := (World.ownsRow.lt h k hk).1; have := R.hq; omega
  refine ⟨⟨?_, R.rd.fits⟩, ?_, R.hq, by simp; omega⟩
  · have e : w'.heap[q]? = some (.cells #[.string (str s), V, .int .i64 n] 129) := by
      rw [hg.block q R.rd.lt (fun e => by have := (R.own.lt e.symm).1; have := R.hq; omega)]; exact R.rd.row
    simpa using blk_set e 1 V'
  · have e : Own w' B V' (l ++ [v]) := by
      unfold Own; rw [vcells_append, vcells_one]; simpa using h
    exact e.kept (fun k hk => Below.heap_setCell _ _ _ _ (fun e => hne k hk e))
end Go.Proofs.YtcdeikhfmllkdaaGreatDoor

/- json's value: where the walk stands behind the append. -/
namespace Go.Proofs.YtcdeikhfmllkdaaGreatDoor
open Go.RowKit
set_option linter.unusedVariables false

theorem Tryz.info78 : (Tryz.prog.info? 78).map (fun i => (i.zero, i.size, i.bytes)) = some (some (.agg #[.int .i64 0, .int .u8 0, .string ⟨#[]⟩, .string ⟨#[]⟩]), 4, 48) := by kernel_rfl

/-- What many comes to, with so much fuel. -/
def ManyHyp (f : Nat) : Prop := ∀ (w : World) (q B : Nat) (s : Bytes) (V : Value) (l : List Val) (n i : Nat) (e : UInt8), (e = 93 ∨ e = 125) → Rs w q B s V l n → Tabs w → B ≤ w.heap.size → s.length ≤ 65536 → 3 * s.length + 2 < f → i < l.length → n < 16 →
  Calls Tryz.prog 124 #[.pointer (some ⟨q, 0, none⟩), .int .i64 i, .int .u8 (e.toNat : Int)] w (VPost w q B V n (manyM f s l n i e))

theorem Own.form {w : World} {B : Nat} {V : Value} {l : List Val} (h : Own w B V l) : ∃ p cap, V = .slice p l.length cap := by
  rcases h.2 with ⟨h1, h2⟩ | ⟨g, cap, cur, h1, _⟩
  · exact ⟨none, 0, by rw [h1, h2]⟩
  · exact ⟨_, cap, h1⟩

/-- Where the walk stands behind the append: the list has got its last value. -/
structure VCut (w : World) (q B H0 I : Nat) (V : Value) (s1 : Bytes) (l : List Val) (v : Val) (n : Int) (wc : World) : Prop where
  rs : ∃ V', Rs wc q B s1 V' (l ++ [v]) n ∧ (V'.ownBlock = V.ownBlock ∨ ∃ g, V'.ownBlock = some g ∧ w.heap.size ≤ g) ∧ V'.ownBlock ≠ some H0 ∧ V'.ownBlock ≠ some I
  b0 : wc.heap[H0]? = some (.cells #[.pointer (some ⟨q, 0, none⟩)] 127)
  b1 : wc.heap[I]? = some (.cells #[.int .i64 l.length] 3)
  turn : Turn (fun k => k = q ∨ V.ownBlock = some k) w wc
  tabs : Tabs wc
  h0 : w.heap.size ≤ H0
  hI : w.heap.size ≤ I
  hV : ∀ k, V.ownBlock = some k → B ≤ k ∧ k < w.heap.size

theorem VCut.mk' {w w2 w3 : World} {q B H0 I : Nat} {p : Option Addr} {cap : Nat} {s1 : Bytes} {l : List Val} {v : Val} {n : Int} {g cap' : Nat}
    (HB : B ≤ w.heap.size) (hown0 : ∀ k, (Value.slice p l.length cap).ownBlock = some k → B ≤ k ∧ k < w.heap.size) (h0 : w.heap.size ≤ H0) (hI : H0 < I) (hs2 : w2.heap.size = I + 1)
    (R2 : Rs w2 q B s1 (.slice p l.length cap) l n) (b02 : w2.heap[H0]? = some (.cells #[.pointer (some ⟨q, 0, none⟩)] 127)) (b12 : w2.heap[I]? = some (.cells #[.int .i64 l.length] 3))
    (T2 : Turn (fun k => k = q ∨ (Value.slice p l.length cap).ownBlock = some k) w w2) (tb2 : Tabs w2) (hl : l.length < 512) (o : Obj)
    (hown : w3.ownsRow B 78 4 (.slice (some ⟨g, 0, none⟩) (l.length + 1) cap') (l.length + 1) (vcells l ++ v.cells)) (hgrow : (w2.alloc o).drew.grownBy w3 (Value.slice p l.length cap).ownBlock)
    (hat : (Value.slice p l.length cap).ownBlock = some g ∨ g = w2.heap.size + 1) :
    VCut w q B H0 I (.slice p l.length cap) s1 l v n (w3.setCell ⟨q, 1, none⟩ (.slice (some ⟨g, 0, none⟩) (l.length + 1) cap')) := by
  have R3 : Rs (w2.alloc o).drew q B s1 (.slice p l.length cap) l n := (R2.alloc o).drewN 1
  have R4 := R3.grown (v := v) hl hgrow hown
  have hq := R2.hq
  have hsz : (w2.alloc o).drew.heap.size = I + 2 := by
    have e : (w2.alloc o).heap.size = w2.heap.size + 1 := by simp
    exact e.trans (by omega)
  have hb : ∀ k, k < I + 1 → k ≠ q → (Value.slice p l.length cap).ownBlock ≠ some k → (w3.setCell ⟨q, 1, none⟩ (.slice (some ⟨g, 0, none⟩) (l.length + 1) cap')).heap[k]? = w2.heap[k]? := by
    intro k hk hkq hkv
    rw [Below.heap_setCell _ _ _ _ (by exact fun e => hkq e), hgrow.block k (by omega) (fun e => hkv e.symm)]
    exact heap_alloc_old w2 o (by omega)
  have tt : Turn (fun k => k = q ∨ (Value.slice p l.length cap).ownBlock = some k) w2 (w3.setCell ⟨q, 1, none⟩ (.slice (some ⟨g, 0, none⟩) (l.length + 1) cap')) :=
    ⟨hgrow.os, hgrow.tape, hgrow.output, by have := hgrow.size; simp [World.setCell]; omega, fun k hk hn => hb k (by omega) (fun e => hn (.inl e)) (fun e => hn (.inr e))⟩
  have ht := tb2.ne R2.rd
  have htl := tb2.lt
  have n0 : (Value.slice p l.length cap).ownBlock ≠ some H0 := fun e => by have := hown0 _ e; omega
  have nI : (Value.slice p l.length cap).ownBlock ≠ some I := fun e => by have := hown0 _ e; omega
  refine ⟨⟨_, R4, ?_, ?_, ?_⟩, ?_, ?_, T2.trans tt, tb2.turn tt ?_ ?_ ?_, h0, by omega, hown0⟩
  · rcases hat with h | h
    · left; simp only [Value.ownBlock] at h ⊢; rw [h]
    · right; exact ⟨g, rfl, by omega⟩
  · rcases hat with h | h
    · intro e; simp only [Value.ownBlock, Option.some.injEq] at e; exact n0 (h.trans (by rw [e]))
    · intro e; simp only [Value.ownBlock, Option.some.injEq] at e; omega
  · rcases hat with h | h
    · intro e; simp only [Value.ownBlock, Option.some.injEq] at e; exact nI (h.trans (by rw [e]))
    · intro e; simp only [Value.ownBlock, Option.some.injEq] at e; omega
  · rw [hb H0 (by omega) (by omega) n0]; exact b02
  · rw [hb I (by omega) (by omega) nI]; exact b12
  · rintro (h | h); omega; have := hown0 _ h; omega
  · rintro (h | h); omega; have := hown0 _ h; omega
  · rintro (h | h); omega; have := hown0 _ h; omega

/-- What is left of a sequence behind so many steps. -/
def tailOf : Nat → Code → Code
  | 0, c => c
  | n + 1, .seq _ b => tailOf n b
  | _, c => c
noncomputable def valueTail : Code := (Tryz.f76.body.map (tailOf 7)).getD .skip

theorem VCut.keep {w wc w4 : World} {q B H0 I : Nat} {V V' : Value} {s1 s4 : Bytes} {l : List Val} {v : Val} {n : Nat} (C : VCut w q B H0 I V s1 l v n wc) (R : Rs wc q B s1 V' (l ++ [v]) n)
    (hv : V'.ownBlock = V.ownBlock ∨ ∃ g, V'.ownBlock = some g ∧ w.heap.size ≤ g) (hn0 : V'.ownBlock ≠ some H0) (hnI : V'.ownBlock ≠ some I) (r4 : Rd w4 q s4 V' n) (t4 : Turn (fun k => k = q) wc w4) :
    Rs w4 q B s4 V' (l ++ [v]) n ∧ (V'.ownBlock = V.ownBlock ∨ ∃ g, V'.ownBlock = some g ∧ w.heap.size ≤ g) ∧ (V'.ownBlock ≠ some H0 ∧ V'.ownBlock ≠ some I) ∧
      w4.cell? ⟨H0, 0, none⟩ = some (.pointer (some ⟨q, 0, none⟩)) ∧ w4.cell? ⟨I, 0, none⟩ = some (.int .i64 l.length) := by
  have l0 := (Array.getElem?_eq_some_iff.1 C.b0).1
  have l1 := (Array.getElem?_eq_some_iff.1 C.b1).1
  have hq0 : H0 ≠ q := by
    rintro rfl
    have e := R.rd.row; rw [C.b0] at e; simp at e
  have hq1 : I ≠ q := by
    rintro rfl
    have e := R.rd.row; rw [C.b1] at e; simp at e
  exact ⟨R.turn r4 t4, hv, ⟨hn0, hnI⟩, (World.cell?_of_block (a := ⟨H0, 0, none⟩) (t4.block H0 l0 hq0)).trans (cells_of C.b0 0).1, (World.cell?_of_block (a := ⟨I, 0, none⟩) (t4.block I l1 hq1)).trans (cells_of C.b1 0).1⟩

theorem Turn.setNew {S : Nat → Prop} {w w4 : World} (ht : Turn S w w4) (G j : Nat) (x : Value) (hG : S G ∨ w.heap.size ≤ G) : Turn S w (w4.setCell ⟨G, j, none⟩ x) :=
  ⟨ht.os, ht.tape, ht.output, by have := ht.size; simpa [World.setCell] using this, fun i hi hn => (Below.heap_setCell _ _ _ _ (by
    show i ≠ G
    rintro rfl
    rcases hG with h | h
    · exact hn h
    · omega)).trans (ht.block i hi hn)⟩

/-- The end of a way that sets one cell of the last value. -/
theorem vp_set {w w4 : World} {q B : Nat} {V : Value} {G len cap : Nat} {s4 : Bytes} {l : List Val} {v v' : Val} {n : Nat} {r : Res} {k j : Nat} {x : Value} (hr : r = .ok (s4, l ++ [v'])) (R : Rs w4 q B s4 (.slice (some ⟨G, 0, none⟩) len cap) (l ++ [v]) n)
    (hs : Own (w4.setCell ⟨G, j, none⟩ x) B (.slice (some ⟨G, 0, none⟩) len cap) (l ++ [v'])) (hB : B ≤ G)
    (hv : (Value.slice (some ⟨G, 0, none⟩) len cap).ownBlock = V.ownBlock ∨ ∃ g, (Value.slice (some ⟨G, 0, none⟩) len cap).ownBlock = some g ∧ w.heap.size ≤ g)
    (ht : Turn (fun k => k = q ∨ V.ownBlock = some k) w w4) : VPost w q B V n r (.returned (.tuple #[])) ((w4.drewN k).setCell ⟨G, j, none⟩ x) := by
  have hq := R.hq
  refine vp_ok hr rfl (V' := .slice (some ⟨G, 0, none⟩) len cap) ⟨⟨?_, R.rd.fits⟩, hs, hq, by have := R.few; simpa using this⟩ hv ?_
  · exact (Below.heap_setCell _ _ _ _ (by show q ≠ G; omega)).trans R.rd.row
  · refine Turn.setNew (w4 := w4.drewN k) (ht.trans (turn_drewN _ _ _)) G j x ?_
    rcases hv with h | ⟨g, h, hg⟩
    · left; right; rw [← h]; rfl
    · right; simp only [Value.ownBlock, Option.some.injEq] at h; omega

theorem Own.set2 {w : World} {B g cap : Nat} {l : List Val} {v v' v'' : Val} {x y : Value} {i j : Nat} (hi : i < 4) (hj : j < 4) (h1 : v'.cells = v.cells.set i x) (h2 : v''.cells = v'.cells.set j y)
    (h : Own w B (.slice (some ⟨g, 0, none⟩) (l.length + 1) cap) (l ++ [v])) : Own ((w.setCell ⟨g, l.length * 4 + i, none⟩ x).setCell ⟨g, l.length * 4 + j, none⟩ y) B (.slice (some ⟨g, 0, none⟩) (l.length + 1) cap) (l ++ [v'']) := by
  obtain ⟨g1, c1, e1, _, _, _, _, s1⟩ := h.snoc
  simp only [Value.slice.injEq, Option.some.injEq, Addr.mk.injEq, and_true, true_and] at e1
  obtain ⟨rfl, rfl⟩ := e1
  obtain ⟨g2, c2, e2, _, _, _, _, s2⟩ := (s1 i x v' hi h1).snoc
  simp only [Value.slice.injEq, Option.some.injEq, Addr.mk.injEq, and_true, true_and] at e2
  obtain ⟨rfl, rfl⟩ := e2
  exact s2 j y v'' hj h2

/-- The end of a way that sets two cells of the last value. -/
theorem vp_set2 {w w4 : World} {q B : Nat} {V : Value} {G len cap : Nat} {s4 : Bytes} {l : List Val} {v v' : Val} {n : Nat} {r : Res} {k j j2 : Nat} {x x2 : Value} (hr : r = .ok (s4, l ++ [v'])) (R : Rs w4 q B s4 (.slice (some ⟨G, 0, none⟩) len cap) (l ++ [v]) n)
    (hs : Own ((w4.setCell ⟨G, j, none⟩ x).setCell ⟨G, j2, none⟩ x2) B (.slice (some ⟨G, 0, none⟩) len cap) (l ++ [v'])) (hB : B ≤ G)
    (hv : (Value.slice (some ⟨G, 0, none⟩) len cap).ownBlock = V.ownBlock ∨ ∃ g, (Value.slice (some ⟨G, 0, none⟩) len cap).ownBlock = some g ∧ w.heap.size ≤ g)
    (ht : Turn (fun k => k = q ∨ V.ownBlock = some k) w w4) : VPost w q B V n r (.returned (.tuple #[])) (((w4.drewN k).setCell ⟨G, j, none⟩ x).setCell ⟨G, j2, none⟩ x2) := by
  have hq := R.hq
  have hG : (G = q ∨ V.ownBlock = some G) ∨ w.heap.size ≤ G := by
    rcases hv with h | ⟨g, h, hg⟩
    · left; right; rw [← h]; rfl
    · right; simp only [Value.ownBlock, Option.some.injEq] at h; omega
  refine vp_ok hr rfl (V' := .slice (some ⟨G, 0, none⟩) len cap) ⟨⟨?_, R.rd.fits⟩, hs, hq, by have := R.few; simpa using this⟩ hv ?_
  · exact (Below.heap_setCell _ _ _ _ (by show q ≠ G; omega)).trans ((Below.heap_setCell _ _ _ _ (by show q ≠ G; omega)).trans R.rd.row)
  · exact Turn.setNew (Turn.setNew (w4 := w4.drewN k) (ht.trans (turn_drewN _ _ _)) G j x hG) G j2 x2 hG

theorem vp_trans {w w6 w' : World} {q B : Nat} {V V' : Value} {n : Nat} {r r' : Res} {e : Ending} (hr : r = r') (ht : Turn (fun k => k = q ∨ V.ownBlock = some k) w w6) (hv : V'.ownBlock = V.ownBlock ∨ ∃ g, V'.ownBlock = some g ∧ w.heap.size ≤ g)
    (h : VPost w6 q B V' n r' e w') : VPost w q B V n r e w' := by
  subst hr
  have tt : ∀ {x : World}, Turn (fun k => k = q ∨ V'.ownBlock = some k) w6 x → Turn (fun k => k = q ∨ V.ownBlock = some k) w x := fun t =>
    ⟨t.os.trans ht.os, t.tape.trans ht.tape, t.output.trans ht.output, Nat.le_trans ht.size t.size, fun k hk hn => (t.block k (Nat.lt_of_lt_of_le hk ht.size) (by
      rintro (e | e)
      · exact hn (.inl e)
      · rcases hv with h | ⟨g, h, hg⟩
        · exact hn (.inr (h ▸ e))
        · rw [h] at e; simp only [Option.some.injEq] at e; omega)).trans (ht.block k hk hn)⟩
  cases r with
  | error m => exact ⟨h.1, tt h.2⟩
  | ok x =>
    obtain ⟨he, V2, R2, hv2, t2⟩ := h
    refine ⟨he, V2, R2, ?_, tt t2⟩
    rcases hv2 with h2 | ⟨g, h2, hg⟩
    · rw [h2]; exact hv
    · exact .inr ⟨g, h2, by have := ht.size; omega⟩
end Go.Proofs.YtcdeikhfmllkdaaGreatDoor
