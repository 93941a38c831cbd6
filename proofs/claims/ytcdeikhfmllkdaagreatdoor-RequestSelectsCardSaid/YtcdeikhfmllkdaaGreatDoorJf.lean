import Derived.Test.YtcdeikhfmllkdaaGreatDoorJe
import Derived.Maps.OwnSet
import Derived.DeepKeys5
import Derived.Test.YtcdeikhfmllkdaaGreatDoorJz
import Derived.Carry
/- json's Check: the names that were seen. -/
namespace Go.Proofs.YtcdeikhfmllkdaaGreatDoor
open Go.RowKit Go.Maps
set_option linter.unusedVariables false

theorem law68 : Keyed Tryz.prog 177 := Keyed.of_law (deep_law_gate (by kernel_rfl) (Nat.le_of_ble_eq_true (by kernel_rfl)) (Nat.le_of_ble_eq_true (n := 178) (by kernel_rfl)) (by kernel_rfl) (by kernel_rfl))

/-- A member: a parent and a name. -/
abbrev Mem := Int × Bytes
def okMem (x : Mem) : Prop := (Lit.int .i64 x.1).wf = true ∧ x.2.length ≤ maxLen
noncomputable def memV (x : Mem) : Value := .agg #[.int .i64 x.1, .string (str x.2)]
noncomputable def memL (x : Mem) : Lit := (keyOf Tryz.prog 177 (memV x)).getD (.bool false)

theorem key68 {x : Mem} (h : okMem x) : keyOf Tryz.prog 177 (memV x) = some (memL x) := by
  have hs : ∃ l, keyOf Tryz.prog 177 (memV x) = some l := by
    obtain ⟨n, hn⟩ : ∃ n, Tryz.prog.types.size = n + 1 := ⟨Tryz.prog.types.size - 1, by kernel_rfl⟩
    have h1 : (Tryz.prog.keyType 177 && (memV x).formed Tryz.prog 177) = true := by kernel_rfl
    have c3 : Tryz.prog.cellsOf 3 = 1 := by kernel_rfl
    have c9 : Tryz.prog.cellsOf 9 = 1 := by kernel_rfl
    have c68 : Tryz.prog.cellsOf 177 = 2 := by kernel_rfl
    have h2 : (str x.2).size ≤ maxLen := by rw [str_size]; exact h.2
    simp only [keyOf, Tryz.underlying177, h1, if_true, hn]
    simp [Program.keyLits, Tryz.underlying177, c68, c3, c9, memV, Value.cells, Tryz.underlying3, Tryz.underlying9, h.1, h2]
  obtain ⟨l, hl⟩ := hs
  rw [hl]; unfold memL; rw [hl]; rfl

theorem memL_inj {x y : Mem} (hx : okMem x) (hy : okMem y) (h : memL x = memL y) : x = y := by
  have a := key68 hx
  have b := key68 hy
  rw [← h] at b
  have e := law68.inj a b
  simp only [memV, Value.agg.injEq, Array.mk.injEq, List.cons.injEq, Value.int.injEq, Value.string.injEq, true_and, and_true] at e
  exact Prod.ext e.1 (str_inj e.2)

/-- The map of what was seen, in block b. -/
def Seen (w : World) (b n : Nat) (ks : List Mem) : Prop := ∃ D : DataW Unit, w.ownsMap Tryz.prog 177 (plainElem Tryz.prog 4) b n D ∧ Tidy D ∧ ∀ x, okMem x → D.atKey (memL x) (.lit (.bool false)) = .lit (.bool (decide (x ∈ ks)))
theorem plainElem_bool (b : Bool) : plainElem (H := Unit) Tryz.prog 4 (.bool b) = some (.lit (.bool b), []) := by simp [plainElem, Tryz.underlying4]
theorem zero4 (w : World) : (zeroValue 4).run Tryz.prog w = .ok (.bool false) w := Tryz.zeroValue4 w

set_option maxRecDepth 100000 in
theorem Seen.look {w : World} {b n : Nat} {ks : List Mem} (h : Seen w b n ks) {x : Mem} (hx : okMem x) : (Instr.lookup 175 (.map (some b)) (memV x) false).run Tryz.prog w = .ok (.bool (decide (x ∈ ks))) w := by
  obtain ⟨D, hown, ht, hat⟩ := h
  obtain ⟨v, ps, hrun, hv⟩ := hown.lookup (zd := .lit (.bool false)) (zp := []) law68 Tryz.underlying175 (zero4 w) (plainElem_bool false) (key68 hx)
  rw [hat x hx] at hv
  have : v = .bool (decide (x ∈ ks)) := by
    unfold plainElem at hv
    rw [Tryz.underlying4] at hv
    cases v <;> simp at hv
    rw [hv.1]
  rw [← this]; exact hrun
set_option maxRecDepth 100000 in
theorem Seen.put {w w' : World} {b n : Nat} {ks : List Mem} {D : DataW Unit} (ht : Tidy D) (hat : ∀ x, okMem x → D.atKey (memL x) (.lit (.bool false)) = .lit (.bool (decide (x ∈ ks)))) {y : Mem} (hy : okMem y)
    (hown : w'.ownsMap Tryz.prog 177 (plainElem Tryz.prog 4) b (n + 1) (D.put (memL y) (.lit (.bool true)))) : Seen w' b (n + 1) (ks ++ [y]) := by
  have hk : WideAt.IsKeyLit (memL y) := law68.key (key68 hy)
  refine ⟨_, hown, ht.put hk _, fun x hx => ?_⟩
  by_cases e : x = y
  · subst e
    rw [atKey_put_same ht.isMap hk]
    simp
  · rw [atKey_put_other (fun h => e (memL_inj hx hy h)), hat x hx]
    simp [e]
theorem Seen.kept {w w' : World} {b n : Nat} {ks : List Mem} (h : Seen w b n ks) (hb : w'.heap[b]? = w.heap[b]?) : Seen w' b n ks := by
  obtain ⟨D, ⟨es, clock, h1, h2⟩, h3⟩ := h
  exact ⟨D, ⟨es, clock, hb.trans h1, h2⟩, h3⟩
end Go.Proofs.YtcdeikhfmllkdaaGreatDoor

/- json's Check. -/
namespace Go.Proofs.YtcdeikhfmllkdaaGreatDoor
open Go.RowKit
set_option linter.unusedVariables false

/-- What a value may be, its parent too. -/
structure Val.ok (v : Val) : Prop where
  fits : v.fits
  par : (Lit.int .i64 v.parent).wf = true

def shapeGo (l : List Val) : Nat → List Nat → List Val → Bool
  | _, _, [] => true
  | i, o, v :: r => match nextM l o i v with
    | none => false
    | some o' => oneM v && shapeGo l (i + 1) o' r
def v0 : Val := ⟨0, 0, [], []⟩
def dupGo (l : List Val) : Nat → List Mem → List Val → Bool
  | _, _, [] => false
  | i, ks, v :: r => if i = 0 ∨ (l.getD v.parent.toNat v0).kind ≠ 6 then dupGo l (i + 1) ks r else if (v.parent, v.name) ∈ ks then true else dupGo l (i + 1) (ks ++ [(v.parent, v.name)]) r
def checkM (l : List Val) : Nat :=
  if 512 < l.length then 5 else if l = [] then 4 else if shapeGo l 0 [] l then (if dupGo l 0 [] l then 7 else 0) else 4

theorem nextM_len {l : List Val} {o o' : List Nat} {i : Nat} {v : Val} (h : nextM l o i v = some o') (h0 : i = 0 → o = []) : o'.length ≤ 16 := by
  unfold nextM at h
  split at h
  · rename_i hi
    split at h
    · simp only [Option.some.injEq] at h
      rw [← h, h0 hi]; unfold stackM; split <;> simp
    · cases h
  · split at h
    · cases h
    · split at h
      · cases h
      · split at h
        · cases h
        · simp only [Option.some.injEq] at h
          rw [← h]; unfold stackM; split <;> simp <;> omega
theorem nextM_in {l : List Val} {o o' : List Nat} {i : Nat} {v : Val} (h : nextM l o i v = some o') (h0 : ∀ m ∈ o, m < i) : ∀ m ∈ o', m < i + 1 := by
  have hs : ∀ (o : List Nat), (∀ m ∈ o, m < i) → ∀ m ∈ stackM v i o, m < i + 1 := by
    intro o ho m hm
    unfold stackM at hm
    split at hm
    · rcases List.mem_append.1 hm with h | h
      · have := ho m h; omega
      · simp at h; omega
    · have := ho m hm; omega
  unfold nextM at h
  split at h
  · split at h
    · simp only [Option.some.injEq] at h
      rw [← h]; exact hs o h0
    · cases h
  · split at h
    · cases h
    · split at h
      · cases h
      · split at h
        · cases h
        · simp only [Option.some.injEq] at h
          rw [← h]; exact hs _ (fun m hm => h0 m (List.mem_of_mem_take hm))

/-- Where the first loop stands. -/
structure Ck1 (w wr : World) (q : Nat) (V : Value) (l : List Val) (n : Nat) (r : Bool) (O : Value) (o : List Nat) : Prop where
  sh : Sh wr q w.heap.size O V o
  tabs : Tabs wr
  lst : Lst wr V l
  below : Below w.heap.size w wr
  few : o.length ≤ 16
  first : n = 0 → o = []
  low : ∀ m ∈ o, m < n
  goes : shapeGo l n o (l.drop n) = r
  le : n ≤ l.length

theorem shapeGo_par {l : List Val} : ∀ (r : List Val) (i : Nat) (o : List Nat), (∀ m ∈ o, m < i) → shapeGo l i o r = true → ∀ (j : Nat) (v : Val), r[j]? = some v → i + j ≠ 0 → ∃ m : Nat, m < i + j ∧ v.parent = (m : Int)
  | [], _, _, _, _, j, v, h, _ => by simp at h
  | a :: r, i, o, ho, hs, j, v, h, hne => by
    simp only [shapeGo] at hs
    cases hn : nextM l o i a with
    | none => rw [hn] at hs; cases hs
    | some o' =>
      rw [hn] at hs
      simp only [Bool.and_eq_true] at hs
      cases j with
      | zero =>
        simp at h; subst h
        unfold nextM at hn
        rw [if_neg (by omega)] at hn
        cases hx : ixM o a.parent with
        | none => rw [hx] at hn; cases hn
        | some k =>
          obtain ⟨hk, hp⟩ := ixM_at hx
          exact ⟨o[k], by have := ho _ (List.getElem_mem hk); omega, hp.symm⟩
      | succ j =>
        simp at h
        obtain ⟨m, h1, h2⟩ := shapeGo_par r (i + 1) o' (nextM_in hn ho) hs.2 j v h (by omega)
        exact ⟨m, by omega, h2⟩

/-- Where the second loop stands. -/
structure Ck2 (w wr : World) (b : Nat) (l : List Val) (n : Nat) (r : Bool) (ks : List Mem) : Prop where
  below : Below w.heap.size w wr
  seen : Seen wr b n ks
  goes : dupGo l n ks (l.drop n) = r
  le : n ≤ l.length
  hb : w.heap.size ≤ b
theorem Seen.lt {w : World} {b n : Nat} {ks : List Mem} (h : Seen w b n ks) : b < w.heap.size := by
  obtain ⟨D, ⟨es, clock, h1, _⟩, _⟩ := h
  exact (Array.getElem?_eq_some_iff.1 h1).1
theorem Seen.mono {w : World} {b n : Nat} {ks : List Mem} (h : Seen w b n ks) : Seen w b (n + 1) ks := by
  obtain ⟨D, h1, h2⟩ := h
  exact ⟨D, h1.mono (by omega), h2⟩

/-- In the round: the value's own variable is there. -/
structure Ck1b (w wb : World) (q H : Nat) (V : Value) (l : List Val) (O : Value) (o : List Nat) (v : Val) : Prop where
  sh : Sh wb q w.heap.size O V o
  tabs : Tabs wb
  lst : Lst wb V l
  below : Below w.heap.size w wb
  hH : w.heap.size ≤ H
  box : wb.heap[H]? = some (.cells #[.int .i64 v.parent, .int .u8 v.kind, .string (str v.name), .string (str v.text)] 78)
  far : H ≠ q ∧ O.ownBlock ≠ some H
theorem Ck1.box {w wr : World} {q n : Nat} {V O : Value} {l : List Val} {r : Bool} {o : List Nat} (C : Ck1 w wr q V l n r O o) (v : Val) :
    Ck1b w (wr.alloc (.cells #[.int .i64 v.parent, .int .u8 v.kind, .string (str v.name), .string (str v.text)] 78)) q wr.heap.size V l O o v := by
  have hb : Below wr.heap.size wr (wr.alloc (.cells #[.int .i64 v.parent, .int .u8 v.kind, .string (str v.name), .string (str v.text)] 78)) := (Below.refl _ _).alloc (Nat.le_refl _) _
  have hq := (Array.getElem?_eq_some_iff.1 C.sh.row).1
  exact ⟨⟨(heap_alloc_old _ _ hq).trans C.sh.row, C.sh.own.kept (fun k hk => heap_alloc_old _ _ (World.ownsRow.lt C.sh.own k hk).2), C.sh.hB⟩, tabs_below C.tabs hb, C.lst.below hb, C.below.trans (hb.mono C.below.size), C.below.size,
    heap_alloc_new _ _, by omega, fun e => by have := (World.ownsRow.lt C.sh.own _ e).2; omega⟩
theorem Ck1b.next {w wb w2 : World} {q H : Nat} {V O : Value} {l : List Val} {o : List Nat} {v : Val} (C : Ck1b w wb q H V l O o v) (t : Turn (fun k => k = q ∨ O.ownBlock = some k) wb w2) :
    Below w.heap.size w w2 ∧ w2.heap[H]? = some (.cells #[.int .i64 v.parent, .int .u8 v.kind, .string (str v.name), .string (str v.text)] 78) ∧ w.heap.size ≤ w2.heap.size := by
  have hH := (Array.getElem?_eq_some_iff.1 C.box).1
  have hq := C.sh.hB
  have hlo : ∀ k, k < w.heap.size → ¬ (k = q ∨ O.ownBlock = some k) := by
    rintro k hk (e | e)
    · omega
    · have := (World.ownsRow.lt C.sh.own _ e).1; omega
  exact ⟨C.below.trans ⟨t.os, t.tape, t.output, t.size, fun k hk => t.block k (by have := C.below.size; omega) (hlo k hk)⟩, (t.block H hH (by rintro (e | e); exact C.far.1 e; exact C.far.2 e)).trans C.box, by have := C.below.size; have := t.size; omega⟩

set_option maxRecDepth 100000 in
set_option maxHeartbeats 4000000 in
theorem check_any {w : World} (hT : Tabs w) {V : Value} {l : List Val} (L : Lst w V l) (hl : l.length ≤ 512) (hne : l ≠ []) (hok : ∀ v ∈ l, v.ok) :
    Calls Tryz.prog 73 #[V] w fun e w' => e = .returned (.int .i64 (checkM l : Nat)) ∧ Below w.heap.size w w' := by
  obtain ⟨p, cap, rfl⟩ := L.form
  have HT := Lib.hid hT
  have HL := Lib.hid L
  have HO := Lib.hid hok
  have g1 : decide ((512 : Int) < (l.length : Int)) = false := by simp; omega
  have g2 : ((l.length : Int) == 0) = false := by
    rw [beq_eq_false_iff_ne]
    have := List.length_pos_iff.2 hne
    omega
  have hmm := @run_makeMap Tryz.prog
  have hN := Lib.hid hne
  clear hT L hok hne
  go_enter Tryz.func73, Tryz.ntmps73
  go_wp2_with fail
  obtain ⟨q, hq⟩ : ∃ q, w.heap.size = q := ⟨_, rfl⟩
  have HQ := Lib.hid hq
  rw [hq]
  clear hq
  obtain ⟨w0, hw0⟩ : ∃ w0, w.alloc (.cells #[.slice none 0 0, .slice p l.length cap] 172) = w0 := ⟨_, rfl⟩
  have hb0 : Below w.heap.size w w0 := by rw [← hw0]; exact (Below.refl _ _).alloc (Nat.le_refl _) _
  have H0 : Hid (Ck1 w w0 q (.slice p l.length cap) l 0 (shapeGo l 0 [] l) (.slice none 0 0) []) := by
    refine ⟨⟨?_, World.ownsRow_nil _ _ _ _, Nat.le_of_eq HQ.out⟩, tabs_below HT.out hb0, HL.out.below hb0, hb0, by simp, fun _ => rfl, by simp, by simp, Nat.zero_le _⟩
    rw [← hw0, ← HQ.out]; exact heap_alloc_new _ _
  rw [hw0]
  clear hw0 hb0
  go_loopw [23] (fun k wr => ∃ n : Nat, k = .int .i64 n ∧ ∃ O o, Ck1 w wr q (.slice p l.length cap) l n (shapeGo l 0 [] l) O o) (fun k _ => l.length - (intOf k).toNat)
  case atStart => exact ⟨0, rfl, _, _, H0.out⟩
  case round =>
    obtain ⟨n, rfl, O, o, hr⟩ := hrel
    have hle := hr.le
    have HR := Lib.hid hr
    clear hr H0
    by_cases hlt : n < l.length
    · obtain ⟨v, hv⟩ : ∃ v, l[n] = v := ⟨_, rfl⟩
      have hv' : l[n]? = some v := by rw [← hv]; exact List.getElem?_eq_getElem hlt
      obtain ⟨a, cap', e, k0, k1, k2, k3⟩ := HR.out.lst.at hv'
      simp only [Value.slice.injEq] at e
      obtain ⟨rfl, -, rfl⟩ := e
      have hvo : v.ok := HO.out v (by rw [← hv]; exact List.getElem_mem hlt)
      have hdrop : l.drop n = v :: l.drop (n + 1) := by rw [List.drop_eq_getElem_cons hlt, hv]
      have hqw : q < wr.heap.size := (Array.getElem?_eq_some_iff.1 HR.out.sh.row).1
      have HV := Lib.hid (And.intro hv' (And.intro hvo hdrop))
      clear hv hv' hvo hdrop
      go_wp2_with fail
      have CB := HR.out.box v
      refine (next_any CB.sh CB.lst (by have := CB.below.size; omega) HV.out.1 (by have := HR.out.few; omega) (fun m hm => by have := HR.out.low m hm; omega)).mono ?_
      have HC := Lib.hid CB
      clear CB
      have hgo := HR.out.goes
      rw [HV.out.2.2, shapeGo] at hgo
      rintro e w2 ⟨t2, hres⟩
      cases hn : nextM l o n v with
      | none =>
        rw [hn] at hres hgo
        simp only at hres hgo
        subst hres
        have HF := Lib.hid (And.intro (HC.out.next t2) hgo)
        clear t2 hgo hn
        go_wp2
        go_ret
        refine ⟨ret_int ?_, HF.out.1.1⟩
        have : checkM l = 4 := by
          unfold checkM
          rw [if_neg (by omega), if_neg hN.out, ← HF.out.2]; rfl
        rw [this]; rfl
      | some o' =>
        rw [hn] at hres hgo
        simp only at hres hgo
        obtain ⟨rfl, O', S'⟩ := hres
        obtain ⟨hb2, hbox2, hz2⟩ := HC.out.next t2
        have tb2 := tabs_below HT.out hb2
        have d0 := (cells_of hbox2 0).1
        have d1 := (cells_of hbox2 1).1
        have d2 := (cells_of hbox2 2).1
        have d3 := (cells_of hbox2 3).1
        simp only [List.getElem?_toArray, List.getElem?_cons_succ, List.getElem?_cons_zero] at d0 d1 d2 d3
        have HF := Lib.hid (And.intro hb2 (And.intro tb2 (And.intro S' (And.intro hgo hn))))
        clear t2 hgo hn hb2 hbox2 tb2 S'
        go_wp2_with fail
        refine (one_any HF.out.2.1 v HV.out.2.1.fits).mono ?_
        rintro e w3 ⟨rfl, hb3⟩
        cases ho : oneM v with
        | false =>
          have HG := Lib.hid (And.intro hb3 ho)
          clear hb3 ho
          go_wp2
          go_ret
          refine ⟨ret_int ?_, HF.out.1.trans (HG.out.1.mono HF.out.1.size)⟩
          have : checkM l = 4 := by
            have h := HF.out.2.2.2.1
            rw [HG.out.2] at h
            unfold checkM
            rw [if_neg (by omega), if_neg hN.out, ← h]; rfl
          rw [this]; rfl
        | true =>
          have HG := Lib.hid (And.intro hb3 ho)
          clear hb3 ho
          go_wp2
          go_roundw
          case measure => simp [intOf]; omega
          case rel =>
            have hb3 := HG.out.1
            have S' := HF.out.2.2.1
            have hq := (Array.getElem?_eq_some_iff.1 S'.row).1
            have hbel := HF.out.1.trans (hb3.mono HF.out.1.size)
            refine ⟨n + 1, by go_num, O', o', ⟨(hb3.block _ hq).trans S'.row, S'.own.kept (fun k hk => hb3.block k (World.ownsRow.lt S'.own k hk).2), S'.hB⟩, tabs_below HT.out hbel, HL.out.below hbel, hbel, nextM_len HF.out.2.2.2.2 HR.out.first, fun h => by omega, nextM_in HF.out.2.2.2.2 HR.out.low, ?_, by omega⟩
            have h := HF.out.2.2.2.1
            rw [HG.out.2] at h
            exact h
    · have hn : n = l.length := by omega
      have hall : shapeGo l 0 [] l = true := by rw [← HR.out.goes, hn, List.drop_length]; rfl
      have HA := Lib.hid hall
      clear hn hall
      have hpar : ∀ (j : Nat) (v : Val), l[j]? = some v → j ≠ 0 → ∃ m : Nat, m < l.length ∧ v.parent = (m : Int) := by
        intro j v hj h0
        obtain ⟨m, h1, h2⟩ := shapeGo_par l 0 [] (by simp) HA.out j v hj (by omega)
        have := (List.getElem?_eq_some_iff.1 hj).1
        exact ⟨m, by omega, h2⟩
      have HP := Lib.hid hpar
      have hbm : Below w.heap.size w (wr.alloc (.map #[] 0)) := HR.out.below.trans ((Below.refl _ _).alloc HR.out.below.size _)
      have H2 : Hid (Ck2 w (wr.alloc (.map #[] 0)) wr.heap.size l 0 (dupGo l 0 [] l) []) :=
        Lib.hid ⟨hbm, ⟨_, World.ownsMap_made _ _ _ _, Maps.tidy_empty, fun x _ => rfl⟩, by simp, Nat.zero_le _, HR.out.below.size⟩
      obtain ⟨b, hb⟩ : ∃ b, wr.heap.size = b := ⟨_, rfl⟩
      have HBB := Lib.hid hb
      clear hpar hbm
      go_wp2_with fail
      rw [hb] at H2
      clear hb
      obtain ⟨m0, hm0⟩ : ∃ m0, wr.alloc (.map #[] 0) = m0 := ⟨_, rfl⟩
      rw [hm0] at H2 ⊢
      clear hm0 HR
      go_loopw [41] (fun k wr => ∃ n : Nat, k = .int .i64 n ∧ ∃ ks, Ck2 w wr b l n (dupGo l 0 [] l) ks) (fun k _ => l.length - (intOf k).toNat)
      case atStart => exact ⟨0, rfl, _, H2.out⟩
      case round =>
        obtain ⟨n2, rfl, ks, hr⟩ := hrel
        have hle2 := hr.le
        have HR := Lib.hid hr
        clear hr H2
        by_cases hlt2 : n2 < l.length
        · obtain ⟨v, hv⟩ : ∃ v, l[n2] = v := ⟨_, rfl⟩
          have hv' : l[n2]? = some v := by rw [← hv]; exact List.getElem?_eq_getElem hlt2
          obtain ⟨a, cap', e, k0, k1, k2, k3⟩ := (HL.out.below HR.out.below).at hv'
          simp only [Value.slice.injEq] at e
          obtain ⟨rfl, -, rfl⟩ := e
          have hvo : v.ok := HO.out v (by rw [← hv]; exact List.getElem_mem hlt2)
          have hdrop : l.drop n2 = v :: l.drop (n2 + 1) := by rw [List.drop_eq_getElem_cons hlt2, hv]
          have HV := Lib.hid (And.intro hv' (And.intro hvo hdrop))
          clear hv hv' hvo hdrop
          have hgo := HR.out.goes
          rw [HV.out.2.2, dupGo] at hgo
          -- behind a value that is no member
          have skip : ∀ x, (n2 = 0 ∨ (l.getD v.parent.toNat v0).kind ≠ 6) → Ck2 w (wr.alloc x) b l (n2 + 1) (dupGo l 0 [] l) ks := by
            intro x hx
            refine ⟨HR.out.below.trans ((Below.refl _ _).alloc HR.out.below.size _), (HR.out.seen.kept (heap_alloc_old _ _ HR.out.seen.lt)).mono, ?_, by omega, HR.out.hb⟩
            rw [if_pos hx] at hgo
            exact hgo
          have HS := Lib.hid skip
          clear skip
          by_cases h0 : n2 = 0
          · have e0 : ((n2 : Int) == 0) = true := by rw [beq_iff_eq]; omega
            have HZ := Lib.hid h0
            clear h0 hgo
            go_wp2_with fail
            go_roundw
            case measure => simp [intOf]; omega
            case rel => exact ⟨n2 + 1, by go_num, _, HS.out _ (.inl HZ.out)⟩
          have e0 : ((n2 : Int) == 0) = false := by rw [beq_eq_false_iff_ne]; omega
          obtain ⟨m, hm, hpm⟩ := HP.out n2 v HV.out.1 h0
          obtain ⟨pv, hpv⟩ : ∃ pv, l[m] = pv := ⟨_, rfl⟩
          have hpv' : l[m]? = some pv := by rw [← hpv]; exact List.getElem?_eq_getElem hm
          obtain ⟨a', cap'', e, p0, p1, -, -⟩ := (HL.out.below HR.out.below).at hpv'
          simp only [Value.slice.injEq, Option.some.injEq] at e
          obtain ⟨rfl, -, -⟩ := e
          have hgd : l.getD v.parent.toNat v0 = pv := by rw [hpm]; simp [List.getD_eq_getElem?_getD, hpv']
          rw [hgd] at hgo HS
          rw [hpm] at k0
          have m0' : (0 : Int) ≤ (m : Int) := by omega
          have m1 : (m : Int) < (l.length : Int) := by omega
          have nlt : (a.add (m * 4)).block < wr.heap.size := World.block_lt_of_cell? wr ⟨(a.add (m * 4)).block, (a.add (m * 4)).off + 1, none⟩ p1
          have nw : wr.heap.size ≠ (a.add (m * 4)).block := by omega
          clear hpv hpv' hgd p0
          by_cases h6 : pv.kind = 6
          · have e6 : ((pv.kind : Int) != 6) = false := by rw [bne_eq_false_iff_eq]; omega
            rw [if_neg (by rintro (h | h); exact h0 h; exact h h6), hpm] at hgo
            have hokm : okMem ((m : Int), v.name) := ⟨by have := HV.out.2.1.par; rw [hpm] at this; exact this, HV.out.2.1.fits.name⟩
            have hb1 : b < wr.heap.size := HR.out.seen.lt
            have hsn : Seen ((wr.alloc (.cells #[.int .i64 m, .int .u8 v.kind, .string (str v.name), .string (str v.text)] 78)).alloc (.cells #[.int .i64 m, .string (str v.name)] 177)) b n2 ks :=
              HR.out.seen.kept ((heap_alloc_old _ _ (by simp; omega)).trans (heap_alloc_old _ _ hb1))
            have hbel : Below w.heap.size w ((wr.alloc (.cells #[.int .i64 m, .int .u8 v.kind, .string (str v.name), .string (str v.text)] 78)).alloc (.cells #[.int .i64 m, .string (str v.name)] 177)) :=
              (HR.out.below.alloc HR.out.below.size _).alloc (by have := HR.out.below.size; simp; omega) _
            have hlook : (Instr.lookup 175 (.map (some b)) (.agg #[.int .i64 m, .string (str v.name)]) false).run Tryz.prog ((wr.alloc (.cells #[.int .i64 m, .int .u8 v.kind, .string (str v.name), .string (str v.text)] 78)).alloc (.cells #[.int .i64 m, .string (str v.name)] 177)) = .ok (.bool (decide (((m : Int), v.name) ∈ ks))) _ := hsn.look hokm
            have HM := Lib.hid (And.intro hokm (And.intro hsn hbel))
            clear hokm hsn hbel hb1 h0 h6 hpm
            by_cases hin : ((m : Int), v.name) ∈ ks
            · rw [decide_eq_true hin] at hlook
              rw [if_pos hin] at hgo
              have HG := Lib.hid hgo
              clear hin hgo
              go_wp2
              go_ret
              refine ⟨ret_int ?_, HM.out.2.2⟩
              have : checkM l = 7 := by
                unfold checkM
                rw [if_neg (by omega), if_neg hN.out, HA.out, ← HG.out]; rfl
              rw [this]; rfl
            · rw [decide_eq_false hin] at hlook
              rw [if_neg hin] at hgo
              have HG := Lib.hid hgo
              clear hin hgo
              obtain ⟨D, hown, htd, hat⟩ := HM.out.2.1
              have HD := Lib.hid (And.intro htd hat)
              clear htd hat
              go_wp2_with (at_mapUpdate; refine wpList_mapUpdate_own _ rfl _ _ _ 175 rfl 177 4 law68 Tryz.underlying175 _ b n2 _ rfl hown (by unfold maxLen; omega) _ _ _ rfl rfl (key68 HM.out.1) _ [] (plainElem_bool true) ?_; intro w1 hown1 hgrow1)
              refine ⟨⟨n2 + 1, by go_num, ks ++ [((m : Int), v.name)], HM.out.2.2.trans ⟨hgrow1.os, hgrow1.tape, hgrow1.output, hgrow1.size, fun k hk => hgrow1.block k (by have := HM.out.2.2.size; omega) (fun e => by simp only [Option.some.injEq] at e; have := HR.out.hb; omega)⟩, Seen.put (w := w1) HD.out.1 HD.out.2 HM.out.1 hown1, HG.out, by omega, HR.out.hb⟩, by simp [intOf]; omega⟩
          · have e6 : ((pv.kind : Int) != 6) = true := by rw [bne_iff_ne]; omega
            have HZ := Lib.hid h6
            clear h0 h6 hgo hpm
            go_wp2_with fail
            go_roundw
            case measure => simp [intOf]; omega
            case rel => exact ⟨n2 + 1, by go_num, _, HS.out _ (.inr HZ.out)⟩
        · have hn2 : n2 = l.length := by omega
          have hd : dupGo l 0 [] l = false := by rw [← HR.out.goes, hn2, List.drop_length]; rfl
          have HD := Lib.hid hd
          clear hn2 hd
          go_wp2
          go_ret
          refine ⟨ret_int ?_, HR.out.below⟩
          have : checkM l = 0 := by
            unfold checkM
            rw [if_neg (by omega), if_neg hN.out, HA.out, HD.out]; rfl
          rw [this]; rfl

set_option maxRecDepth 100000 in
/-- Too many, or none. -/
theorem check_ends {w : World} {V : Value} {l : List Val} {p : Option Addr} {cap : Nat} (hV : V = .slice p l.length cap) (hm : l.length ≤ maxLen) (h : 512 < l.length ∨ l = []) :
    Calls Tryz.prog 73 #[V] w fun e w' => e = .returned (.int .i64 (checkM l : Nat)) ∧ w = w' := by
  subst hV
  unfold maxLen at hm
  by_cases h512 : 512 < l.length
  · have g1 : decide ((512 : Int) < (l.length : Int)) = true := by simp; omega
    have hc : checkM l = 5 := by unfold checkM; rw [if_pos h512]
    rw [hc]
    clear h hc h512
    go_enter Tryz.func73, Tryz.ntmps73
    go_wp2
    go_ret
    exact ⟨rfl, rfl⟩
  · have hl : l = [] := h.resolve_left h512
    subst hl
    have hc : checkM [] = 4 := rfl
    rw [hc]
    clear h hc h512
    go_enter Tryz.func73, Tryz.ntmps73
    go_wp2
    go_ret
    exact ⟨rfl, rfl⟩

theorem check_calls {w : World} (hT : Tabs w) {V : Value} {l : List Val} (L : Lst w V l) (hm : l.length ≤ maxLen) (hok : ∀ v ∈ l, v.ok) :
    Calls Tryz.prog 73 #[V] w fun e w' => e = .returned (.int .i64 (checkM l : Nat)) ∧ Below w.heap.size w w' := by
  by_cases h : 512 < l.length ∨ l = []
  · obtain ⟨p, cap, hV⟩ := L.form
    exact (check_ends hV hm h).mono (fun e w' ⟨h1, h2⟩ => ⟨h1, h2 ▸ Below.refl _ _⟩)
  · exact check_any hT L (by omega) (fun e => h (.inr e)) hok
end Go.Proofs.YtcdeikhfmllkdaaGreatDoor
