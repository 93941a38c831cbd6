import Derived.Test.YtcdeikhfmllkdaaGreatDoorJc
import Derived.Test.YtcdeikhfmllkdaaGreatDoorJm
import Derived.Defers
import Derived.Recover
/- json's Get. -/
namespace Go.Proofs.YtcdeikhfmllkdaaGreatDoor
open Go.RowKit
set_option linter.unusedVariables false

/-- A slice of values that reads as a list. -/
structure Lst (w : World) (V : Value) (l : List Val) : Prop where
  form : ∃ p cap, V = .slice p l.length cap
  cells : l ≠ [] → ∃ a n cap, V = .slice (some a) n cap ∧ ∀ j u, (vcells l)[j]? = some u → w.cell? (a.add j) = some u

theorem str_inj {a b : Bytes} (h : str a = str b) : a = b := by
  have := congrArg (fun s => s.data.toList) h
  simpa [str] using this
theorem ret_bool {a b : Bool} (h : a = b) : Ending.returned (.bool a) = .returned (.bool b) := by rw [h]

theorem vcells_get {l : List Val} {i : Nat} {v : Val} (h : l[i]? = some v) {j : Nat} (hj : j < 4) : (vcells l)[i * 4 + j]? = v.cells[j]? := by
  induction l generalizing i with
  | nil => simp at h
  | cons a l ih =>
    have e : vcells (a :: l) = a.cells ++ vcells l := by simp [vcells]
    cases i with
    | zero =>
      simp at h; subst h
      rw [e, List.getElem?_append_left (by simp [Val.cells]; omega)]
      simp
    | succ i =>
      simp at h
      rw [e, List.getElem?_append_right (by simp [Val.cells]; omega)]
      have : (i + 1) * 4 + j - a.cells.length = i * 4 + j := by simp [Val.cells]; omega
      rw [this]
      exact ih h

theorem add_add4 (a : Addr) (i j : Nat) (hj : 0 < j) : a.add (i * 4 + j) = ⟨(a.add (i * 4)).block, (a.add (i * 4)).off + j, none⟩ := by
  unfold Addr.add
  rw [if_neg (by omega)]
  split
  · next h => simp
  · simp [Nat.add_assoc]

theorem Lst.at {w : World} {V : Value} {l : List Val} (L : Lst w V l) {i : Nat} {v : Val} (h : l[i]? = some v) : ∃ a cap, V = .slice (some a) l.length cap ∧
    w.cell? (a.add (i * 4)) = some (.int .i64 v.parent) ∧ w.cell? ⟨(a.add (i * 4)).block, (a.add (i * 4)).off + 1, none⟩ = some (.int .u8 v.kind) ∧ w.cell? ⟨(a.add (i * 4)).block, (a.add (i * 4)).off + 2, none⟩ = some (.string (str v.name)) ∧ w.cell? ⟨(a.add (i * 4)).block, (a.add (i * 4)).off + 3, none⟩ = some (.string (str v.text)) := by
  obtain ⟨p, cap, rfl⟩ := L.form
  obtain ⟨a, n, cap', e, hc⟩ := L.cells (by rintro rfl; simp at h)
  simp only [Value.slice.injEq] at e
  obtain ⟨rfl, rfl, rfl⟩ := e
  refine ⟨a, cap, rfl, ?_, ?_, ?_, ?_⟩
  · exact hc (i * 4) _ (by have := vcells_get h (j := 0) (by omega); simpa [Val.cells] using this)
  · rw [← add_add4 _ _ 1 (by omega)]; exact hc (i * 4 + 1) _ (by rw [vcells_get h (j := 1) (by omega)]; rfl)
  · rw [← add_add4 _ _ 2 (by omega)]; exact hc (i * 4 + 2) _ (by rw [vcells_get h (j := 2) (by omega)]; rfl)
  · rw [← add_add4 _ _ 3 (by omega)]; exact hc (i * 4 + 3) _ (by rw [vcells_get h (j := 3) (by omega)]; rfl)

theorem Lst.below {w w' : World} {V : Value} {l : List Val} (L : Lst w V l) (b : Below w.heap.size w w') : Lst w' V l :=
  ⟨L.form, fun h => by
    obtain ⟨a, n, cap, e, hc⟩ := L.cells h
    refine ⟨a, n, cap, e, fun j u hu => ?_⟩
    have h1 := hc j u hu
    have := World.block_lt_of_cell? w _ h1
    rw [b.cell (p := a.add j) this]; exact h1⟩

theorem Own.lst {w : World} {B : Nat} {V : Value} {l : List Val} (h : Own w B V l) : Lst w V l := by
  refine ⟨?_, fun hne => ?_⟩
  · rcases h.2 with ⟨h1, h2⟩ | ⟨g, cap, cur, h1, _⟩
    · exact ⟨none, 0, by rw [h1, h2]⟩
    · exact ⟨_, cap, h1⟩
  · rcases h.2 with ⟨_, h2⟩ | ⟨g, cap, cur, h1, _⟩
    · exact absurd (List.eq_nil_of_length_eq_zero h2) hne
    · exact ⟨_, _, _, h1, World.ownsRow.cells h (by rw [h1]; rfl)⟩

set_option maxHeartbeats 400000 in
theorem pick_any {w : World} {I N : Nat} (v : Val) (i : Int) (name : Bytes) (hI : w.cell? ⟨I, 0, none⟩ = some (.int .i64 i)) (hN : w.cell? ⟨N, 0, none⟩ = some (.string (str name))) :
    Calls Tryz.prog 198 #[.agg #[.int .i64 v.parent, .int .u8 v.kind, .string (str v.name), .string (str v.text)], .pointer (some ⟨I, 0, none⟩), .pointer (some ⟨N, 0, none⟩)] w fun e w' => e = .returned (.bool (decide (v.parent = i ∧ v.name = name))) ∧ Below w.heap.size w w' := by
  have lI := World.block_lt_of_cell? w _ hI
  have lN := World.block_lt_of_cell? w _ hN
  have nI := World.new_ne w _ hI
  have nN := World.new_ne w _ hN
  by_cases hp : v.parent = i
  · have hp' : (v.parent == i) = true := by rw [beq_iff_eq]; exact hp
    have HP := Lib.hid hp
    clear hp
    go_enter Tryz.func198, Tryz.ntmps198
    go_wp2
    go_ret
    refine ⟨?_, (Below.refl _ _).alloc (Nat.le_refl _) _⟩
    refine ret_bool ?_
    go_simp
    have hP := HP.out
    rw [ByteArray.toList_eq, ByteArray.toList_eq, str_toList, str_toList]
    simp only [hP, decide_true, Bool.true_and]
    rw [Bool.eq_iff_iff]; simp
  · have hp' : (v.parent == i) = false := by rw [beq_eq_false_iff_ne]; exact hp
    have HP := Lib.hid hp
    clear hp
    go_enter Tryz.func198, Tryz.ntmps198
    go_wp2
    go_ret
    exact ⟨by simp [HP.out], (Below.refl _ _).alloc (Nat.le_refl _) _⟩
def GetB (l : List Val) (i : Int) (name : Bytes) (n : Nat) : Prop := ∀ j (h : j < l.length), j < n → ¬ ((l[j]).parent = i ∧ (l[j]).name = name)
theorem getM_none {l : List Val} {i : Int} {name : Bytes} (h : GetB l i name l.length) : getM l i name = none := by
  unfold getM
  rw [List.findIdx?_eq_none_iff]
  intro v hv
  obtain ⟨j, hj, rfl⟩ := List.mem_iff_getElem.1 hv
  have := h j hj hj
  simpa using this
theorem getM_some {l : List Val} {i : Int} {name : Bytes} {n : Nat} (hn : n < l.length) (h : GetB l i name n) (hp : (l[n]).parent = i ∧ (l[n]).name = name) : getM l i name = some n := by
  unfold getM
  rw [List.findIdx?_eq_some_iff_getElem]
  refine ⟨hn, by simpa using hp, fun j hj => ?_⟩
  have := h j (by omega) hj
  simpa using this
def ixOf (o : Option Nat) : Int := match o with
  | some k => k
  | none => -1

structure IxRel (w wr : World) (V : Value) (l : List Val) (I N : Nat) (i : Int) (name : Bytes) (n : Nat) : Prop where
  le : n ≤ l.length
  past : GetB l i name n
  lst : Lst wr V l
  hI : wr.cell? ⟨I, 0, none⟩ = some (.int .i64 i)
  hN : wr.cell? ⟨N, 0, none⟩ = some (.string (str name))
  below : Below w.heap.size w wr

set_option maxHeartbeats 1000000 in
theorem indexFunc_any {w : World} {V : Value} {l : List Val} (L : Lst w V l) (hl : l.length ≤ maxLen) (i : Int) (name : Bytes) {I N : Nat} (hI : w.cell? ⟨I, 0, none⟩ = some (.int .i64 i)) (hN : w.cell? ⟨N, 0, none⟩ = some (.string (str name))) :
    Calls Tryz.prog 197 #[V, .func (.func 198) #[] #[.pointer (some ⟨I, 0, none⟩), .pointer (some ⟨N, 0, none⟩)]] w fun e w' => e = .returned (.int .i64 (ixOf (getM l i name))) ∧ Below w.heap.size w w' := by
  unfold maxLen at hl
  obtain ⟨p, cap, rfl⟩ := L.form
  have H := Lib.hid (IxRel.mk (w := w) (wr := w) (Nat.zero_le _) (fun j h hj => absurd hj (by omega)) L hI hN (Below.refl _ _))
  clear L hI hN
  go_enter Tryz.func197, Tryz.ntmps197
  go_wp2_with fail
  go_loopw [8] (fun k wr => ∃ n : Nat, k = .int .i64 n ∧ IxRel w wr (.slice p l.length cap) l I N i name n) (fun k _ => l.length - (intOf k).toNat)
  case atStart => exact ⟨0, rfl, H.out⟩
  case round =>
    obtain ⟨n, rfl, hr⟩ := hrel
    have hle := hr.le
    have HR := Lib.hid hr
    clear hr H
    by_cases hlt : n < l.length
    · obtain ⟨v, hv⟩ : ∃ v, l[n] = v := ⟨_, rfl⟩
      obtain ⟨a, cap', e, k0, k1, k2, k3⟩ := HR.out.lst.at (i := n) (v := v) (by rw [← hv]; exact List.getElem?_eq_getElem hlt)
      simp only [Value.slice.injEq] at e
      obtain ⟨rfl, -, rfl⟩ := e
      have HV := Lib.hid hv
      clear hv
      go_wp2_with fail
      refine (pick_any v i name HR.out.hI HR.out.hN).mono ?_
      rintro e w2 ⟨rfl, hb⟩
      have HB := Lib.hid hb
      clear hb
      by_cases hm : v.parent = i ∧ v.name = name
      · rw [decide_eq_true hm]
        have HM := Lib.hid hm
        clear hm
        go_wp2
        go_ret
        refine ⟨?_, HR.out.below.trans (HB.out.mono HR.out.below.size)⟩
        rw [getM_some hlt HR.out.past (by rw [HV.out]; exact HM.out)]
        rfl
      · rw [decide_eq_false hm]
        have HM := Lib.hid hm
        clear hm
        go_wp2
        go_roundw
        case measure => simp [intOf]; omega
        case rel =>
          have hI := HR.out.hI
          have hN := HR.out.hN
          refine ⟨n + 1, by go_num, by omega, ?_, HR.out.lst.below HB.out, (HB.out.cell (p := ⟨I, 0, none⟩) (World.block_lt_of_cell? _ _ hI)).trans hI, (HB.out.cell (p := ⟨N, 0, none⟩) (World.block_lt_of_cell? _ _ hN)).trans hN, HR.out.below.trans (HB.out.mono HR.out.below.size)⟩
          intro j h hj
          by_cases hjn : j = n
          · subst hjn; rw [HV.out]; exact HM.out
          · exact HR.out.past j h (by omega)
    · go_wp2
      go_ret
      have hn : n = l.length := by omega
      refine ⟨?_, HR.out.below⟩
      rw [getM_none (hn ▸ HR.out.past)]
      rfl

theorem get_any {w : World} {V : Value} {l : List Val} (L : Lst w V l) (hl : l.length ≤ maxLen) (i : Int) (name : Bytes) :
    Calls Tryz.prog 159 #[V, .int .i64 i, .string (str name)] w fun e w' => e = .returned (match getM l i name with | some k => .tuple #[.int .i64 k, .bool true] | none => .tuple #[.int .i64 0, .bool false]) ∧ Below w.heap.size w w' := by
  obtain ⟨g, hg⟩ : ∃ g, getM l i name = g := ⟨_, rfl⟩
  have HG := Lib.hid hg
  have HL := Lib.hid L
  rw [hg]
  clear hg L
  go_enter Tryz.func159, Tryz.ntmps159
  go_wp2_with fail
  have bb : Below w.heap.size w ((w.alloc (.cells #[.int .i64 i] 3)).alloc (.cells #[.string (str name)] 9)) := ((Below.refl _ _).alloc (Nat.le_refl _) _).alloc (by simp) _
  have hb1 : (w.alloc (.cells #[.int .i64 i] 3)).heap[w.heap.size]? = some (.cells #[.int .i64 i] 3) := heap_alloc_new _ _
  have hb2 : ((w.alloc (.cells #[.int .i64 i] 3)).alloc (.cells #[.string (str name)] 9)).heap[w.heap.size]? = some (.cells #[.int .i64 i] 3) := (heap_alloc_old _ _ (by simp)).trans hb1
  have hs1 : (w.alloc (.cells #[.int .i64 i] 3)).heap.size = w.heap.size + 1 := by simp
  have hb3 : ((w.alloc (.cells #[.int .i64 i] 3)).alloc (.cells #[.string (str name)] 9)).heap[w.heap.size + 1]? = some (.cells #[.string (str name)] 9) := by rw [← hs1]; exact heap_alloc_new _ _
  refine (indexFunc_any (HL.out.below bb) hl i name (cells_of hb2 0).1 (cells_of hb3 0).1).mono ?_
  rintro e w2 ⟨rfl, hb⟩
  have HB := Lib.hid (And.intro bb hb)
  rw [HG.out]
  clear bb hb hb1 hb2 hs1 hb3
  cases g with
  | none =>
    simp only [ixOf]
    go_wp2
    go_ret2
    exact ⟨rfl, HB.out.1.trans (HB.out.2.mono (by simp; omega))⟩
  | some k =>
    simp only [ixOf]
    go_wp2
    go_ret2
    exact ⟨rfl, HB.out.1.trans (HB.out.2.mono (by simp; omega))⟩
end Go.Proofs.YtcdeikhfmllkdaaGreatDoor

/- json's reading, plain: what is read is gone. -/
namespace Go.Proofs.YtcdeikhfmllkdaaGreatDoor
open Go.RowKit
set_option linter.unusedVariables false

theorem quotM_len {f : Nat} {s out x t : Bytes} (h : quotM f s out = some (x, t)) : t.length + 1 ≤ s.length := by
  induction f generalizing s out with
  | zero => cases h
  | succ f ih =>
    cases s with
    | nil => cases h
    | cons c u =>
      simp only [quotM] at h
      split at h
      · cases h
      split at h
      · simp only [Option.some.injEq, Prod.mk.injEq] at h
        obtain ⟨_, rfl⟩ := h
        simp
      split at h
      · simp only [Option.bind_eq_some_iff] at h
        obtain ⟨z, hz, hq⟩ := h
        have := ih hq
        have := escM_len (x := z.1) (t := z.2) hz
        simp; omega
      split at h
      · cases h
      · have := ih h
        have := decodeGo_ge1 (str (c :: u)) (by rw [str_size]; simp)
        simp at *; omega

theorem quotedM_len {s x t : Bytes} (h : quotedM s = some (x, t)) : t.length + 2 ≤ s.length := by
  have hs := skip_len s
  unfold quotedM at h
  split at h
  · cases h
  · rename_i c u hk
    rw [hk] at hs
    split at h
    · have := quotM_len h
      simp at hs; omega
    · cases h

theorem trimPrefix_len {s x : Bytes} (h : Lib.hasPrefix s x = true) (hx : x ≠ []) : (Lib.trimPrefix s x).length + 1 ≤ s.length := by
  have hx' := List.length_pos_iff.2 hx
  have hl : x.length ≤ s.length := (List.isPrefixOf_iff_prefix.1 h).length_le
  unfold Lib.trimPrefix
  rw [h]
  simp only [if_true, List.length_drop]
  omega

theorem numRest_lt {s : Bytes} (h : intM (numTok s) = true) : (numRest s).length + 1 ≤ s.length := by
  have h1 := numRest_len s
  have h2 : numTok s ≠ [] := by
    intro e
    rw [e] at h
    revert h
    decide
  have h3 : (numTok s).length = s.length - (numRest s).length := by unfold numTok; simp
  have := List.length_pos_iff.2 h2
  omega

/-- What each of the three leaves: less text, no fewer values. -/
theorem read_len (f : Nat) : (∀ {s l n name p t m}, valueM f s l n name p = .ok (t, m) → t.length + 1 ≤ s.length ∧ l.length + 1 ≤ m.length) ∧
    (∀ {s l n i e t m}, manyM f s l n i e = .ok (t, m) → t.length + 1 ≤ s.length ∧ l.length ≤ m.length) ∧
    (∀ {s l n i e t m}, loopM f s l n i e = .ok (t, m) → t.length + 1 ≤ s.length ∧ l.length ≤ m.length) := by
  induction f with
  | zero => exact ⟨fun h => by simp [valueM] at h, fun h => by simp [manyM] at h, fun h => by simp [loopM] at h⟩
  | succ f ih =>
    obtain ⟨ih1, ih2, ih3⟩ := ih
    refine ⟨?_, ?_, ?_⟩
    · intro s l n name p t m h
      have hs := skip_len s
      simp only [valueM] at h
      split at h
      · cases h
      · rename_i c u hk
        rw [hk] at hs
        simp only [List.length_cons] at hs
        repeat' split at h
        all_goals first | cases h; done | skip
        all_goals first
          | (simp only [Except.ok.injEq, Prod.mk.injEq] at h
             obtain ⟨rfl, rfl⟩ := h
             have := trimPrefix_len (by assumption) (by simp)
             simp at *; omega)
          | (rename_i hq
             simp only [Except.ok.injEq, Prod.mk.injEq] at h
             obtain ⟨rfl, rfl⟩ := h
             have := quotedM_len hq
             simp at *; omega)
          | (simp only [Except.ok.injEq, Prod.mk.injEq] at h
             obtain ⟨rfl, rfl⟩ := h
             have := numRest_lt (by assumption)
             simp at *; omega)
          | (have := ih2 h
             simp at *; omega)
    · intro s l n i e t m h
      have hs := skip_len s
      simp only [manyM] at h
      split at h
      · have := ih3 h; simp at this
      · rename_i c u hk
        rw [hk] at hs
        simp only [List.length_cons] at hs
        split at h
        · simp only [Except.ok.injEq, Prod.mk.injEq] at h
          obtain ⟨rfl, rfl⟩ := h
          exact ⟨by omega, by omega⟩
        · have := ih3 h
          simp at this; omega
    · intro s l n i e t m h
      simp only [loopM] at h
      split at h
      · cases h
      · rename_i name u hnm
        have hu : u.length ≤ s.length := by
          split at hnm
          · split at hnm
            · cases hnm
            · rename_i x v hq
              have h1 := quotedM_len hq
              have h2 := skip_len v
              split at hnm
              · cases hnm
              · rename_i c w hk
                rw [hk] at h2
                simp only [List.length_cons] at h2
                split at hnm
                · split at hnm
                  · simp only [Except.ok.injEq, Prod.mk.injEq] at hnm
                    obtain ⟨rfl, rfl⟩ := hnm
                    omega
                  · cases hnm
                · cases hnm
          · simp only [Except.ok.injEq, Prod.mk.injEq] at hnm
            obtain ⟨rfl, rfl⟩ := hnm
            omega
        split at h
        · cases h
        · rename_i v m' hv
          have h1 := ih1 hv
          have h2 := skip_len v
          split at h
          · cases h
          · rename_i c w hk
            rw [hk] at h2
            simp only [List.length_cons] at h2
            split at h
            · have := ih3 h; omega
            · split at h
              · simp only [Except.ok.injEq, Prod.mk.injEq] at h
                obtain ⟨rfl, rfl⟩ := h
                omega
              · cases h
end Go.Proofs.YtcdeikhfmllkdaaGreatDoor

/- json's value where it gives up at once. -/
namespace Go.Proofs.YtcdeikhfmllkdaaGreatDoor
open Go.RowKit
set_option linter.unusedVariables false

theorem value_start {w w1 : World} {q B : Nat} {s s1 : Bytes} {V : Value} {l : List Val} {n : Nat} (R : Rs w q B s V l n) (o : Obj) (r1 : Rd w1 q s1 V n) (t1 : Turn (fun k => k = q) (w.alloc o) w1) :
    Rs w1 q B s1 V l n ∧ Turn (fun k => k = q ∨ V.ownBlock = some k) w w1 ∧ w1.heap[w.heap.size]? = some o := by
  refine ⟨(R.alloc o).turn r1 t1, ((Turn.of_below ((Below.refl _ _).alloc (Nat.le_refl _) _) : Turn (fun k => k = q ∨ V.ownBlock = some k) w _)).trans (t1.mono (fun k _ e => .inl e)), ?_⟩
  have := R.rd.lt
  rw [t1.block w.heap.size (by simp) (by omega)]
  exact heap_alloc_new _ _

set_option maxRecDepth 100000 in
set_option maxHeartbeats 4000000 in
theorem value_err {w : World} {q B : Nat} {s : Bytes} {V : Value} {l : List Val} {n : Nat} (R : Rs w q B s V l n) (name : Bytes) (parent : Int) {r : Res}
    (h : (skip s = [] ∧ r = .error 4) ∨ (skip s ≠ [] ∧ 512 ≤ l.length ∧ r = .error 5) ∨ (skip s ≠ [] ∧ l.length < 512 ∧ 16 ≤ n ∧ r = .error 4)) (hn : n ≤ 16) :
    Calls Tryz.prog 76 #[.pointer (some ⟨q, 0, none⟩), .string (str name), .int .i64 parent] w (VPost w q B V n r) := by
  obtain ⟨p, cap, rfl⟩ := R.own.form
  have HR := Lib.hid R
  have hfew := R.few
  clear R
  have start : Hid (∀ w1 s1, Rd w1 q s1 (.slice p l.length cap) n → Turn (fun k => k = q) (w.alloc (.cells #[.pointer (some ⟨q, 0, none⟩)] 127)) w1 → Rs w1 q B s1 (.slice p l.length cap) l n ∧ Turn (fun k => k = q ∨ (Value.slice p l.length cap).ownBlock = some k) w w1 ∧ w1.cell? ⟨w.heap.size, 0, none⟩ = some (.pointer (some ⟨q, 0, none⟩))) := by
    intro w1 s1 r1 t1
    obtain ⟨a, b, c⟩ := value_start HR.out _ r1 t1
    exact ⟨a, b, (cells_of c 0).1⟩
  have HA := Lib.hid (HR.out.alloc (.cells #[.pointer (some ⟨q, 0, none⟩)] 127))
  rcases h with ⟨h1, h2⟩ | ⟨h1, h3, h2⟩ | ⟨h1, h3, h4, h2⟩
  · have H1 := Lib.hid h1
    have H2 := Lib.hid h2
    clear h1 h2
    go_enter Tryz.func76, Tryz.ntmps76
    go_wp2_with fail
    refine (blanks_any HA.out.rd).mono ?_
    rintro e w1 ⟨rfl, r1, t1⟩
    obtain ⟨R1, T1, g0⟩ := start.out w1 _ r1 t1
    rw [H1.out] at R1
    have c0 := R1.rd.c0
    have hE : (str []).toList.isEmpty = true := by rw [str_empty]; rfl
    have HT := Lib.hid T1
    clear r1 t1 R1 T1
    go_wp2_with fail
    refine (need_no 4 _).mono ?_
    rintro e w2 ⟨rfl, rfl⟩
    go_wp2
    exact ⟨rfl, vp_err H2.out rfl HT.out⟩
  · obtain ⟨c, t, hk⟩ := List.exists_cons_of_ne_nil h1
    have H1 := Lib.hid hk
    have H2 := Lib.hid h2
    clear h1 h2 hk
    have hl' : decide ((l.length : Int) < 512) = false := by simp; omega
    go_enter Tryz.func76, Tryz.ntmps76
    go_wp2_with fail
    refine (blanks_any HA.out.rd).mono ?_
    rintro e w1 ⟨rfl, r1, t1⟩
    obtain ⟨R1, T1, g0⟩ := start.out w1 _ r1 t1
    rw [H1.out] at R1
    have c0 := R1.rd.c0
    have c1 := R1.rd.c1
    have hE : (str (c :: t)).toList.isEmpty = false := by rw [str_empty]; rfl
    have HT := Lib.hid T1
    clear r1 t1 R1 T1
    go_wp2_with fail
    refine (need_yes 4 _).mono ?_
    rintro e w2 ⟨rfl, rfl⟩
    go_wp2_with fail
    refine (need_no 5 _).mono ?_
    rintro e w2 ⟨rfl, rfl⟩
    go_wp2
    exact ⟨rfl, vp_err H2.out rfl HT.out⟩
  · obtain ⟨c, t, hk⟩ := List.exists_cons_of_ne_nil h1
    have H1 := Lib.hid hk
    have H2 := Lib.hid h2
    clear h1 h2 hk
    have hl' : decide ((l.length : Int) < 512) = true := by simp; omega
    have hn' : decide ((n : Int) < 16) = false := by simp; omega
    go_enter Tryz.func76, Tryz.ntmps76
    go_wp2_with fail
    refine (blanks_any HA.out.rd).mono ?_
    rintro e w1 ⟨rfl, r1, t1⟩
    obtain ⟨R1, T1, g0⟩ := start.out w1 _ r1 t1
    rw [H1.out] at R1
    have c0 := R1.rd.c0
    have c1 := R1.rd.c1
    have c2 := R1.rd.c2
    have hE : (str (c :: t)).toList.isEmpty = false := by rw [str_empty]; rfl
    have HT := Lib.hid T1
    clear r1 t1 R1 T1
    go_wp2_with fail
    refine (need_yes 4 _).mono ?_
    rintro e w2 ⟨rfl, rfl⟩
    go_wp2_with fail
    refine (need_yes 5 _).mono ?_
    rintro e w2 ⟨rfl, rfl⟩
    go_wp2_with fail
    refine (need_no 4 _).mono ?_
    rintro e w2 ⟨rfl, rfl⟩
    go_wp2
    exact ⟨rfl, vp_err H2.out rfl HT.out⟩
end Go.Proofs.YtcdeikhfmllkdaaGreatDoor

/- json's many: the walk. -/
namespace Go.Proofs.YtcdeikhfmllkdaaGreatDoor
open Go.RowKit
set_option linter.unusedVariables false

def ValueHyp (f : Nat) : Prop := ∀ (w : World) (q B : Nat) (s : Bytes) (V : Value) (l : List Val) (n : Nat) (name : Bytes) (parent : Int), Rs w q B s V l n → Tabs w → B ≤ w.heap.size → s.length ≤ 65536 → 3 * s.length < f → n ≤ 16 →
  Calls Tryz.prog 76 #[.pointer (some ⟨q, 0, none⟩), .string (str name), .int .i64 parent] w (VPost w q B V n (valueM f s l n name parent))

theorem Rs.setn {w : World} {q B : Nat} {s : Bytes} {V : Value} {l : List Val} {n : Int} (R : Rs w q B s V l n) (m : Int) : Rs (w.setCell ⟨q, 2, none⟩ (.int .i64 m)) q B s V l m :=
  ⟨⟨by simpa using blk_set R.rd.row 2 (.int .i64 m), R.rd.fits⟩, R.own.kept (fun k hk => Below.heap_setCell _ _ _ _ (by have := R.own.lt hk; have := R.hq; show k ≠ q; omega)), R.hq, R.few⟩

theorem skip_skip (s : Bytes) : skip (skip s) = skip s := by
  unfold skip
  induction s with
  | nil => rfl
  | cons c t ih =>
    by_cases h : isBlank c = true
    · simp [h, ih]
    · simp [h]

/-- Turned within what one owns, behind a turn. -/
theorem turn_own {w w6 w' : World} {q : Nat} {V V' : Value} (ht : Turn (fun k => k = q ∨ V.ownBlock = some k) w w6) (hv : V'.ownBlock = V.ownBlock ∨ ∃ g, V'.ownBlock = some g ∧ w.heap.size ≤ g)
    (t : Turn (fun k => k = q ∨ V'.ownBlock = some k) w6 w') : Turn (fun k => k = q ∨ V.ownBlock = some k) w w' :=
  ⟨t.os.trans ht.os, t.tape.trans ht.tape, t.output.trans ht.output, Nat.le_trans ht.size t.size, fun k hk hn => (t.block k (Nat.lt_of_lt_of_le hk ht.size) (by
      rintro (e | e)
      · exact hn (.inl e)
      · rcases hv with h | ⟨g, h, hg⟩
        · exact hn (.inr (h ▸ e))
        · rw [h] at e; simp only [Option.some.injEq] at e; omega)).trans (ht.block k hk hn)⟩

/-- What follows a value among others. -/
def afterM (g : Nat) (v : Bytes) (m : List Val) (n i : Nat) (e : UInt8) : Res :=
  match skip v with
  | [] => .error 4
  | c :: t => if c = 44 then loopM g t m n i e else if c = e then .ok (t, m) else .error 4
theorem loopM_arr {g : Nat} {s : Bytes} {l : List Val} {n i : Nat} {v : Bytes} {m : List Val} (h : valueM g s l (n + 1) [] i = .ok (v, m)) : loopM (g + 1) s l n i 93 = afterM g v m n i 93 := by
  have e : ((93 : UInt8) = 125) = False := by simp
  simp only [loopM, afterM, e, if_false, h]
  cases skip v <;> rfl
theorem loopM_obj {g : Nat} {s x u t : Bytes} {l : List Val} {n i : Nat} {v : Bytes} {m : List Val} (hq : quotedM s = some (x, u)) (hk : skip u = 58 :: t) (hg : getM l i x = none) (h : valueM g t l (n + 1) x i = .ok (v, m)) : loopM (g + 1) s l n i 125 = afterM g v m n i 125 := by
  simp only [loopM, afterM, if_true, hq, hk, hg, h]
  cases skip v <;> rfl
theorem afterM_comma {g : Nat} {v t : Bytes} {m : List Val} {n i : Nat} {e : UInt8} (h : skip v = 44 :: t) : afterM g v m n i e = loopM g t m n i e := by simp [afterM, h]
theorem afterM_end {g : Nat} {v t : Bytes} {m : List Val} {n i : Nat} {e : UInt8} (he : e ≠ 44) (h : skip v = e :: t) : afterM g v m n i e = .ok (t, m) := by simp [afterM, h, he]
theorem afterM_bad {g : Nat} {v : Bytes} {m : List Val} {n i : Nat} {e : UInt8} (h1 : (skip v).head? ≠ some 44) (h2 : ¬ ∃ t, skip v = e :: t) : afterM g v m n i e = .error 4 := by
  unfold afterM
  split
  · rfl
  · rename_i c t hk
    rw [if_neg (fun e => h1 (by rw [hk, e]; rfl)), if_neg (fun e => h2 ⟨t, by rw [hk, e]⟩)]

structure MRel (fm : Nat) (w wr : World) (q B : Nat) (V0 : Value) (n i : Nat) (e : UInt8) (r : Res) (g : Nat) (s : Bytes) (V : Value) (l : List Val) : Prop where
  rs : Rs wr q B s V l ((n : Int) + 1)
  goes : loopM g s l n i e = r
  fuel : 3 * s.length + 1 < g
  le : g ≤ fm
  len : s.length ≤ 65536
  tabs : Tabs wr
  own : V.ownBlock = V0.ownBlock ∨ ∃ g, V.ownBlock = some g ∧ w.heap.size ≤ g
  turn : Turn (fun k => k = q ∨ V0.ownBlock = some k) w wr
  hi : i < l.length
  hB : B ≤ w.heap.size
  hV : ∀ k, V0.ownBlock = some k → B ≤ k

def MI (fm : Nat) (w : World) (q B : Nat) (V0 : Value) (n i : Nat) (e : UInt8) (r : Res) (g : Nat) (wr : World) : Prop := ∃ s V l, MRel fm w wr q B V0 n i e r g s V l

theorem MRel.tabsTurn {fm : Nat} {w wr w' : World} {q B : Nat} {V0 : Value} {n i : Nat} {e : UInt8} {r : Res} {g : Nat} {s : Bytes} {V : Value} {l : List Val} (M : MRel fm w wr q B V0 n i e r g s V l)
    {V1 : Value} (h1 : ∀ k, V1.ownBlock = some k → B ≤ k) (t : Turn (fun k => k = q ∨ V1.ownBlock = some k) wr w') : Tabs w' := by
  have h := M.tabs.ne M.rs.rd
  have hq := M.rs.hq
  refine M.tabs.turn t ?_ ?_ ?_
  · rintro (e | e)
    · omega
    · have := h1 _ e; omega
  · rintro (e | e)
    · omega
    · have := h1 _ e; omega
  · rintro (e | e)
    · omega
    · have := h1 _ e; omega

set_option maxRecDepth 100000 in
set_option maxHeartbeats 4000000 in
theorem many_arr {f : Nat} (hv : Hid (∀ g, g < f → ValueHyp g)) {w : World} {q B : Nat} {s : Bytes} {V : Value} {l : List Val} {n i : Nat} (R : Rs w q B s V l n) (hT : Tabs w) (hB : B ≤ w.heap.size) (hs : s.length ≤ 65536) (hf : 3 * s.length + 1 < f) (hi : i < l.length) (hn : n < 16) :
    Calls Tryz.prog 124 #[.pointer (some ⟨q, 0, none⟩), .int .i64 i, .int .u8 93] w (VPost w q B V n (manyM (f + 1) s l n i 93)) := by
  have HR := Lib.hid R
  have HT := Lib.hid hT
  have hsk := skip_len s
  clear R hT
  by_cases hhd : (skip s).head? = some 93
  · obtain ⟨t, hk⟩ : ∃ t, skip s = 93 :: t := by
      cases h : skip s with
      | nil => rw [h] at hhd; cases hhd
      | cons c t => rw [h] at hhd; simp at hhd; exact ⟨t, by rw [hhd]⟩
    have hr : manyM (f + 1) s l n i 93 = .ok (t, l) := by simp [manyM, hk]
    rw [hr]
    have HK := Lib.hid hk
    clear hk hhd hr hsk
    go_enter Tryz.func124, Tryz.ntmps124
    go_wp2_with fail
    refine (is_yes HR.out.rd (93 : UInt8) HK.out).mono ?_
    rintro e w1 ⟨rfl, r1, t1⟩
    have H1 := Lib.hid (And.intro (HR.out.turn r1 t1) t1)
    clear r1 t1
    go_wp2
    refine bodyPost_end (v := .tuple #[]) (by simp [results, Tryz.results124]) rfl ?_
    exact vp_ok rfl rfl H1.out.1 (.inl rfl) (H1.out.2.mono (fun k _ e => .inl e))
  · obtain ⟨r, hr⟩ : ∃ r, manyM (f + 1) s l n i 93 = r := ⟨_, rfl⟩
    have hr2 : loopM f (skip s) l n i 93 = r := by
      rw [← hr]
      simp only [manyM]
      split
      · rename_i h; rw [h]
      · rename_i c t h
        rw [h] at hhd
        rw [if_neg (fun e => hhd (by rw [e]; rfl)), h]
    rw [hr]
    have HG := Lib.hid hr2
    have HH := Lib.hid hhd
    clear hr hr2 hhd
    go_enter Tryz.func124, Tryz.ntmps124
    go_wp2_with fail
    refine (is_no HR.out.rd (93 : UInt8) HH.out).mono ?_
    rintro e w1 ⟨rfl, r1, t1⟩
    have R1 := HR.out.turn r1 t1
    have c2 := R1.rd.c2
    have f2 := R1.rd.f 2
    have T1 : Turn (fun k => k = q ∨ V.ownBlock = some k) w w1 := t1.mono (fun k _ e => .inl e)
    have tb1 := HT.out.turn t1 (by have := HT.out.ne HR.out.rd; omega) (by have := HT.out.ne HR.out.rd; omega) (by have := HT.out.ne HR.out.rd; omega)
    have H1 := Lib.hid (And.intro R1 (And.intro T1 tb1))
    clear r1 t1 R1 T1 tb1
    go_wp2_with fail
    go_loopg [] f (fun g wr => MI f w q B V n i 93 r g wr)
    case atStart =>
      refine ⟨skip s, V, l, H1.out.1.setn _, HG.out, by omega, by omega, by omega, ?_, .inl rfl, H1.out.2.1.trans (turn_set _ _ _ _ _ (.inl rfl)), hi, hB, fun k hk => (HR.out.own.lt hk).1⟩
      exact H1.out.2.2.turn (turn_set w1 q 2 (.int .i64 ((n : Int) + 1)) (fun k => k = q) rfl) (by have := H1.out.2.2.ne H1.out.1.rd; omega) (by have := H1.out.2.2.ne H1.out.1.rd; omega) (by have := H1.out.2.2.ne H1.out.1.rd; omega)
    case round =>
      clear HR HT HG HH H1 c2 f2
      obtain ⟨s1, V1, l1, M⟩ := hrel
      obtain ⟨g, rfl⟩ : ∃ g, gk = g + 1 := ⟨gk - 1, by have := M.fuel; omega⟩
      have HM := Lib.hid M
      clear M
      go_wp2_with fail
      have hB1 : B ≤ wr.heap.size := by have := HM.out.turn.size; omega
      refine (hv.out g (by have := HM.out.le; omega) wr q B s1 V1 l1 (n + 1) [] i HM.out.rs HM.out.tabs hB1 HM.out.len (by have := HM.out.fuel; omega) (by omega)).mono ?_
      rintro e w2 hp
      have HP := Lib.hid hp
      clear hp
      cases hres : valueM g s1 l1 (n + 1) [] i with
      | error m =>
        have h1 := HP.out
        rw [hres] at h1
        have hr : r = .error m := by rw [← HM.out.goes]; simp [loopM, hres]
        obtain ⟨he, ht⟩ := h1
        unfold faultOf at he
        subst he
        have H2 := Lib.hid (And.intro hr ht)
        clear hr ht hres HP
        go_wp2
        exact ⟨rfl, vp_err H2.out.1 rfl (turn_own HM.out.turn HM.out.own H2.out.2)⟩
      | ok vm =>
        obtain ⟨v, m⟩ := vm
        have h1 := HP.out
        rw [hres] at h1
        obtain ⟨rfl, V2, R2, hv2, t2⟩ := h1
        have hlen := (read_len g).1 hres
        have hgo := HM.out.goes
        rw [loopM_arr hres] at hgo
        have T2 := turn_own HM.out.turn HM.out.own t2
        have O2 : V2.ownBlock = V.ownBlock ∨ ∃ g, V2.ownBlock = some g ∧ w.heap.size ≤ g := by
          rcases hv2 with h | ⟨g', h, hg⟩
          · rw [h]; exact HM.out.own
          · exact .inr ⟨g', h, by have := HM.out.turn.size; omega⟩
        have TB2 := HM.out.tabsTurn (fun k hk => (HM.out.rs.own.lt hk).1) t2
        have H2 := Lib.hid (And.intro R2 (And.intro T2 (And.intro O2 TB2)))
        have HG := Lib.hid hgo
        have hsv := skip_len v
        clear R2 T2 O2 TB2 hgo hres HP hv2 t2
        have next : (∃ t, skip v = 44 :: t) ∨ (skip v).head? ≠ some 44 := by
          cases h : skip v with
          | nil => right; simp
          | cons c t =>
            by_cases hc : c = 44
            · left; exact ⟨t, by rw [hc]⟩
            · right; simpa using hc
        rcases next with ⟨t, hk⟩ | hk
        · have HK := Lib.hid hk
          have htl : t.length + 1 ≤ v.length := by rw [hk] at hsv; simpa using hsv
          clear hk
          go_wp2_with fail
          refine (is_yes H2.out.1.rd (44 : UInt8) HK.out).mono ?_
          rintro e w3 ⟨rfl, r3, t3⟩
          have H3 := Lib.hid (And.intro r3 t3)
          clear r3 t3
          go_wp2
          go_roundg g
          case measure => omega
          case rel =>
            have hq := H2.out.1.hq
            refine ⟨t, V2, m, H2.out.1.turn H3.out.1 H3.out.2, ?_, by have := HM.out.fuel; omega, by have := HM.out.le; omega, by have := HM.out.len; omega, ?_, H2.out.2.2.1, H2.out.2.1.trans (H3.out.2.mono (fun k _ e => .inl e)), by have := HM.out.hi; omega, HM.out.hB, HM.out.hV⟩
            · exact (afterM_comma HK.out).symm.trans HG.out
            · exact H2.out.2.2.2.turn H3.out.2 (by have := H2.out.2.2.2.ne H2.out.1.rd; omega) (by have := H2.out.2.2.2.ne H2.out.1.rd; omega) (by have := H2.out.2.2.2.ne H2.out.1.rd; omega)
        · have HK := Lib.hid hk
          clear hk
          go_wp2_with fail
          refine (is_no H2.out.1.rd (44 : UInt8) HK.out).mono ?_
          rintro e w3 ⟨rfl, r3, t3⟩
          have R3 := H2.out.1.turn r3 t3
          have c2 := R3.rd.c2
          have f2 := R3.rd.f 2
          have H3 := Lib.hid (And.intro R3 (H2.out.2.1.trans (t3.mono (fun k _ e => .inl e))))
          clear r3 t3 R3
          go_wp2_with fail
          have R4 := H3.out.1.setn n
          have T4 : Turn (fun k => k = q ∨ V.ownBlock = some k) w (w3.setCell ⟨q, 2, none⟩ (.int .i64 n)) := H3.out.2.trans (turn_set _ _ _ _ _ (.inl rfl))
          have H4 := Lib.hid (And.intro R4 T4)
          clear R4 T4 c2 f2
          by_cases hend : ∃ t, skip v = 93 :: t
          · obtain ⟨t, hk⟩ := hend
            have HE := Lib.hid hk
            clear hk
            refine (is_yes H4.out.1.rd (93 : UInt8) (by rw [skip_skip]; exact HE.out)).mono ?_
            rintro e w4 ⟨rfl, r4, t4⟩
            have H5 := Lib.hid (And.intro (H4.out.1.turn r4 t4) t4)
            clear r4 t4
            go_wp2_with fail
            refine (need_yes 4 _).mono ?_
            rintro e w5 ⟨rfl, rfl⟩
            go_wp2
            refine bodyPost_end (v := .tuple #[]) (by simp [results, Tryz.results124]) rfl ?_
            refine vp_ok (t := t) (l' := m) ?_ rfl H5.out.1 H2.out.2.2.1 (H4.out.2.trans (H5.out.2.mono (fun k _ e => .inl e)))
            exact HG.out.symm.trans (afterM_end (by decide) HE.out)
          · have HE := Lib.hid hend
            clear hend
            refine (is_no H4.out.1.rd (93 : UInt8) (by
              rw [skip_skip]
              intro e
              cases h : skip v with
              | nil => rw [h] at e; cases e
              | cons c t => rw [h] at e; simp at e; exact HE.out ⟨t, by rw [h, e]⟩)).mono ?_
            rintro e w4 ⟨rfl, r4, t4⟩
            have H5 := Lib.hid t4
            clear r4 t4
            go_wp2_with fail
            refine (need_no 4 _).mono ?_
            rintro e w5 ⟨rfl, rfl⟩
            go_wp2
            refine ⟨rfl, vp_err (m := 4) ?_ rfl (H4.out.2.trans (H5.out.mono (fun k _ e => .inl e)))⟩
            exact HG.out.symm.trans (afterM_bad HK.out HE.out)
set_option maxRecDepth 100000 in
set_option maxHeartbeats 4000000 in
theorem many_obj {f : Nat} (hv : Hid (∀ g, g < f → ValueHyp g)) {w : World} {q B : Nat} {s : Bytes} {V : Value} {l : List Val} {n i : Nat} (R : Rs w q B s V l n) (hT : Tabs w) (hB : B ≤ w.heap.size) (hs : s.length ≤ 65536) (hf : 3 * s.length + 1 < f) (hi : i < l.length) (hn : n < 16) :
    Calls Tryz.prog 124 #[.pointer (some ⟨q, 0, none⟩), .int .i64 i, .int .u8 125] w (VPost w q B V n (manyM (f + 1) s l n i 125)) := by
  have HR := Lib.hid R
  have HT := Lib.hid hT
  have hsk := skip_len s
  clear R hT
  by_cases hhd : (skip s).head? = some 125
  · obtain ⟨t, hk⟩ : ∃ t, skip s = 125 :: t := by
      cases h : skip s with
      | nil => rw [h] at hhd; cases hhd
      | cons c t => rw [h] at hhd; simp at hhd; exact ⟨t, by rw [hhd]⟩
    have hr : manyM (f + 1) s l n i 125 = .ok (t, l) := by simp [manyM, hk]
    rw [hr]
    have HK := Lib.hid hk
    clear hk hhd hr hsk
    go_enter Tryz.func124, Tryz.ntmps124
    go_wp2_with fail
    refine (is_yes HR.out.rd (125 : UInt8) HK.out).mono ?_
    rintro e w1 ⟨rfl, r1, t1⟩
    have H1 := Lib.hid (And.intro (HR.out.turn r1 t1) t1)
    clear r1 t1
    go_wp2
    refine bodyPost_end (v := .tuple #[]) (by simp [results, Tryz.results124]) rfl ?_
    exact vp_ok rfl rfl H1.out.1 (.inl rfl) (H1.out.2.mono (fun k _ e => .inl e))
  · obtain ⟨r, hr⟩ : ∃ r, manyM (f + 1) s l n i 125 = r := ⟨_, rfl⟩
    have hr2 : loopM f (skip s) l n i 125 = r := by
      rw [← hr]
      simp only [manyM]
      split
      · rename_i h; rw [h]
      · rename_i c t h
        rw [h] at hhd
        rw [if_neg (fun e => hhd (by rw [e]; rfl)), h]
    rw [hr]
    have HG := Lib.hid hr2
    have HH := Lib.hid hhd
    clear hr hr2 hhd
    go_enter Tryz.func124, Tryz.ntmps124
    go_wp2_with fail
    refine (is_no HR.out.rd (125 : UInt8) HH.out).mono ?_
    rintro e w1 ⟨rfl, r1, t1⟩
    have R1 := HR.out.turn r1 t1
    have c2 := R1.rd.c2
    have f2 := R1.rd.f 2
    have T1 : Turn (fun k => k = q ∨ V.ownBlock = some k) w w1 := t1.mono (fun k _ e => .inl e)
    have tb1 := HT.out.turn t1 (by have := HT.out.ne HR.out.rd; omega) (by have := HT.out.ne HR.out.rd; omega) (by have := HT.out.ne HR.out.rd; omega)
    have H1 := Lib.hid (And.intro R1 (And.intro T1 tb1))
    clear r1 t1 R1 T1 tb1
    go_wp2_with fail
    go_loopg [] f (fun g wr => MI f w q B V n i 125 r g wr)
    case atStart =>
      refine ⟨skip s, V, l, H1.out.1.setn _, HG.out, by omega, by omega, by omega, ?_, .inl rfl, H1.out.2.1.trans (turn_set _ _ _ _ _ (.inl rfl)), hi, hB, fun k hk => (HR.out.own.lt hk).1⟩
      exact H1.out.2.2.turn (turn_set w1 q 2 (.int .i64 ((n : Int) + 1)) (fun k => k = q) rfl) (by have := H1.out.2.2.ne H1.out.1.rd; omega) (by have := H1.out.2.2.ne H1.out.1.rd; omega) (by have := H1.out.2.2.ne H1.out.1.rd; omega)
    case round =>
      clear HR HT HG HH H1 c2 f2
      obtain ⟨s1, V1, l1, M⟩ := hrel
      obtain ⟨g, rfl⟩ : ∃ g, gk = g + 1 := ⟨gk - 1, by have := M.fuel; omega⟩
      have HM := Lib.hid M
      clear M
      go_wp2_with fail
      have hB1 : B ≤ wr.heap.size := by have := HM.out.turn.size; omega
      have hgoes := HM.out.goes
      refine (quoted_any HM.out.rs.rd HM.out.tabs (by have := HM.out.len; omega)).mono ?_
      cases hq : quotedM s1 with
      | none =>
        rintro e w2 ⟨he, t2⟩
        unfold faultOf at he
        subst he
        have hr : r = .error 4 := by rw [← hgoes]; simp [loopM, hq]
        have H2 := Lib.hid (And.intro hr t2)
        clear hr t2 hq hgoes
        go_wp2
        exact ⟨rfl, vp_err H2.out.1 rfl (HM.out.turn.trans (H2.out.2.mono (fun k _ e => .inl e)))⟩
      | some xu =>
      obtain ⟨x, u⟩ := xu
      rintro e w2 ⟨rfl, r2, t2⟩
      have hql := quotedM_len hq
      have hul := skip_len u
      have R2 := HM.out.rs.turn r2 t2
      have TB2 := HM.out.tabs.turn t2 (by have := HM.out.tabs.ne HM.out.rs.rd; omega) (by have := HM.out.tabs.ne HM.out.rs.rd; omega) (by have := HM.out.tabs.ne HM.out.rs.rd; omega)
      have HQ := Lib.hid (And.intro R2 (And.intro TB2 (And.intro (HM.out.turn.trans (t2.mono (fun k _ e => .inl e))) hq)))
      clear hq r2 t2 R2 TB2
      by_cases hcol : (skip u).head? = some 58
      case neg =>
        have hr : r = .error 4 := by
          rw [← hgoes]
          simp only [loopM, if_true, HQ.out.2.2.2]
          cases h : skip u with
          | nil => rfl
          | cons c t =>
            rw [h] at hcol
            have : c ≠ 58 := fun e => hcol (by rw [e]; rfl)
            simp [this]
        have HC := Lib.hid (And.intro hr hcol)
        clear hr hcol hgoes
        go_wp2_with fail
        refine (is_no HQ.out.1.rd (58 : UInt8) HC.out.2).mono ?_
        rintro e w3 ⟨rfl, r3, t3⟩
        have H3 := Lib.hid t3
        clear r3 t3
        go_wp2_with fail
        refine (need_no 4 _).mono ?_
        rintro e w4 ⟨rfl, rfl⟩
        go_wp2
        exact ⟨rfl, vp_err HC.out.1 rfl (HQ.out.2.2.1.trans (H3.out.mono (fun k _ e => .inl e)))⟩
      obtain ⟨t, hkt⟩ : ∃ t, skip u = 58 :: t := by
        cases h : skip u with
        | nil => rw [h] at hcol; cases hcol
        | cons c t => rw [h] at hcol; simp at hcol; exact ⟨t, by rw [hcol]⟩
      have htl : t.length + 1 ≤ u.length := by rw [hkt] at hul; simpa using hul
      have HKT := Lib.hid hkt
      clear hkt hcol hul
      go_wp2_with fail
      refine (is_yes HQ.out.1.rd (58 : UInt8) HKT.out).mono ?_
      rintro e w3 ⟨rfl, r3, t3⟩
      have R3 := HQ.out.1.turn r3 t3
      have TB3 := HQ.out.2.1.turn t3 (by have := HQ.out.2.1.ne HQ.out.1.rd; omega) (by have := HQ.out.2.1.ne HQ.out.1.rd; omega) (by have := HQ.out.2.1.ne HQ.out.1.rd; omega)
      have c1 := R3.rd.c1
      have H3 := Lib.hid (And.intro R3 (And.intro TB3 (HQ.out.2.2.1.trans (t3.mono (fun k _ e => .inl e)))))
      clear r3 t3 R3 TB3
      go_wp2_with fail
      refine (need_yes 4 _).mono ?_
      rintro e w4 ⟨rfl, rfl⟩
      go_wp2_with fail
      refine (get_any H3.out.1.own.lst (by have := H3.out.1.few; unfold maxLen; omega) i x).mono ?_
      cases hget : getM l1 i x with
      | some k =>
        rintro e w4 ⟨rfl, b4⟩
        have hr : r = .error 7 := by
          rw [← hgoes]
          simp only [loopM, if_true, HQ.out.2.2.2, HKT.out, hget]
        have H4 := Lib.hid (And.intro hr b4)
        clear hr b4 hget hgoes c1
        go_wp2_with fail
        refine (need_no 7 _).mono ?_
        rintro e w5 ⟨rfl, rfl⟩
        go_wp2
        exact ⟨rfl, vp_err H4.out.1 rfl (H3.out.2.2.trans (Turn.of_below H4.out.2))⟩
      | none =>
      rintro e w4 ⟨rfl, b4⟩
      have R4 : Rs w4 q B t V1 l1 ((n : Int) + 1) := ⟨H3.out.1.rd.below b4, H3.out.1.own.kept (fun k hk => b4.block k (H3.out.1.own.lt hk).2), H3.out.1.hq, H3.out.1.few⟩
      have TB4 := H3.out.2.1.turn (S := fun _ => False) (Turn.of_below b4) (by simp) (by simp) (by simp)
      have T4 := H3.out.2.2.trans (Turn.of_below b4)
      have H4 := Lib.hid (And.intro R4 (And.intro TB4 (And.intro T4 hget)))
      clear b4 hget R4 TB4 T4 c1
      go_wp2_with fail
      refine (need_yes 7 _).mono ?_
      rintro e w5 ⟨rfl, rfl⟩
      go_wp2_with fail
      have hB4 : B ≤ w4.heap.size := by have := H4.out.2.2.1.size; have := HM.out.hB; omega
      refine (hv.out g (by have := HM.out.le; omega) w4 q B t V1 l1 (n + 1) x i H4.out.1 H4.out.2.1 hB4 (by have := HM.out.len; omega) (by have := HM.out.fuel; omega) (by omega)).mono ?_
      rintro e w2 hp
      have HP := Lib.hid hp
      clear hp
      cases hres : valueM g t l1 (n + 1) x i with
      | error m =>
        have h1 := HP.out
        rw [hres] at h1
        have hr : r = .error m := by
          rw [← hgoes]
          simp only [loopM, if_true, HQ.out.2.2.2, HKT.out, H4.out.2.2.2, hres]
        obtain ⟨he, ht⟩ := h1
        unfold faultOf at he
        subst he
        have H2 := Lib.hid (And.intro hr ht)
        clear hr ht hres HP hgoes
        go_wp2
        exact ⟨rfl, vp_err H2.out.1 rfl (turn_own H4.out.2.2.1 HM.out.own H2.out.2)⟩
      | ok vm =>
        obtain ⟨v, m⟩ := vm
        have h1 := HP.out
        rw [hres] at h1
        obtain ⟨rfl, V2, R2, hv2, t2⟩ := h1
        have hlen := (read_len g).1 hres
        have hgo := hgoes
        rw [loopM_obj HQ.out.2.2.2 HKT.out H4.out.2.2.2 hres] at hgo
        have T2 := turn_own H4.out.2.2.1 HM.out.own t2
        have O2 : V2.ownBlock = V.ownBlock ∨ ∃ g, V2.ownBlock = some g ∧ w.heap.size ≤ g := by
          rcases hv2 with h | ⟨g', h, hg⟩
          · rw [h]; exact HM.out.own
          · exact .inr ⟨g', h, by have := H4.out.2.2.1.size; omega⟩
        have TB2 : Tabs w2 := by
          have h := H4.out.2.1.ne H4.out.1.rd
          have hq := H4.out.1.hq
          refine H4.out.2.1.turn t2 ?_ ?_ ?_
          · rintro (e | e)
            · omega
            · have := (H4.out.1.own.lt e).1; omega
          · rintro (e | e)
            · omega
            · have := (H4.out.1.own.lt e).1; omega
          · rintro (e | e)
            · omega
            · have := (H4.out.1.own.lt e).1; omega
        have H2 := Lib.hid (And.intro R2 (And.intro T2 (And.intro O2 TB2)))
        have HG := Lib.hid hgo
        have hsv := skip_len v
        clear R2 T2 O2 TB2 hgo hgoes hres HP hv2 t2
        have next : (∃ t, skip v = 44 :: t) ∨ (skip v).head? ≠ some 44 := by
          cases h : skip v with
          | nil => right; simp
          | cons c t =>
            by_cases hc : c = 44
            · left; exact ⟨t, by rw [hc]⟩
            · right; simpa using hc
        rcases next with ⟨t, hk⟩ | hk
        · have HK := Lib.hid hk
          have htl : t.length + 1 ≤ v.length := by rw [hk] at hsv; simpa using hsv
          clear hk
          go_wp2_with fail
          refine (is_yes H2.out.1.rd (44 : UInt8) HK.out).mono ?_
          rintro e w3 ⟨rfl, r3, t3⟩
          have H3 := Lib.hid (And.intro r3 t3)
          clear r3 t3
          go_wp2
          go_roundg g
          case measure => omega
          case rel =>
            have hq := H2.out.1.hq
            refine ⟨t, V2, m, H2.out.1.turn H3.out.1 H3.out.2, ?_, by have := HM.out.fuel; omega, by have := HM.out.le; omega, by have := HM.out.len; omega, ?_, H2.out.2.2.1, H2.out.2.1.trans (H3.out.2.mono (fun k _ e => .inl e)), by have := HM.out.hi; omega, HM.out.hB, HM.out.hV⟩
            · exact (afterM_comma HK.out).symm.trans HG.out
            · exact H2.out.2.2.2.turn H3.out.2 (by have := H2.out.2.2.2.ne H2.out.1.rd; omega) (by have := H2.out.2.2.2.ne H2.out.1.rd; omega) (by have := H2.out.2.2.2.ne H2.out.1.rd; omega)
        · have HK := Lib.hid hk
          clear hk
          go_wp2_with fail
          refine (is_no H2.out.1.rd (44 : UInt8) HK.out).mono ?_
          rintro e w3 ⟨rfl, r3, t3⟩
          have R3 := H2.out.1.turn r3 t3
          have c2 := R3.rd.c2
          have f2 := R3.rd.f 2
          have H3 := Lib.hid (And.intro R3 (H2.out.2.1.trans (t3.mono (fun k _ e => .inl e))))
          clear r3 t3 R3
          go_wp2_with fail
          have R4 := H3.out.1.setn n
          have T4 : Turn (fun k => k = q ∨ V.ownBlock = some k) w (w3.setCell ⟨q, 2, none⟩ (.int .i64 n)) := H3.out.2.trans (turn_set _ _ _ _ _ (.inl rfl))
          have H4 := Lib.hid (And.intro R4 T4)
          clear R4 T4 c2 f2
          by_cases hend : ∃ t, skip v = 125 :: t
          · obtain ⟨t, hk⟩ := hend
            have HE := Lib.hid hk
            clear hk
            refine (is_yes H4.out.1.rd (125 : UInt8) (by rw [skip_skip]; exact HE.out)).mono ?_
            rintro e w4 ⟨rfl, r4, t4⟩
            have H5 := Lib.hid (And.intro (H4.out.1.turn r4 t4) t4)
            clear r4 t4
            go_wp2_with fail
            refine (need_yes 4 _).mono ?_
            rintro e w5 ⟨rfl, rfl⟩
            go_wp2
            refine bodyPost_end (v := .tuple #[]) (by simp [results, Tryz.results124]) rfl ?_
            refine vp_ok (t := t) (l' := m) ?_ rfl H5.out.1 H2.out.2.2.1 (H4.out.2.trans (H5.out.2.mono (fun k _ e => .inl e)))
            exact HG.out.symm.trans (afterM_end (by decide) HE.out)
          · have HE := Lib.hid hend
            clear hend
            refine (is_no H4.out.1.rd (125 : UInt8) (by
              rw [skip_skip]
              intro e
              cases h : skip v with
              | nil => rw [h] at e; cases e
              | cons c t => rw [h] at e; simp at e; exact HE.out ⟨t, by rw [h, e]⟩)).mono ?_
            rintro e w4 ⟨rfl, r4, t4⟩
            have H5 := Lib.hid t4
            clear r4 t4
            go_wp2_with fail
            refine (need_no 4 _).mono ?_
            rintro e w5 ⟨rfl, rfl⟩
            go_wp2
            refine ⟨rfl, vp_err (m := 4) ?_ rfl (H4.out.2.trans (H5.out.mono (fun k _ e => .inl e)))⟩
            exact HG.out.symm.trans (afterM_bad HK.out HE.out)
end Go.Proofs.YtcdeikhfmllkdaaGreatDoor

/- json's Read: what it recovers. -/
namespace Go.Proofs.YtcdeikhfmllkdaaGreatDoor
open Go.RowKit
set_option linter.unusedVariables false

theorem hyps (F : Nat) : ValueHyp F ∧ ManyHyp F := by
  induction F using Nat.strongRecOn with
  | _ F ih =>
    cases F with
    | zero => exact ⟨fun _ _ _ _ _ _ _ _ _ _ _ _ _ h _ => by omega, fun _ _ _ _ _ _ _ _ _ _ _ _ _ _ h _ _ => by omega⟩
    | succ f =>
      constructor
      · intro w q B s V l n name parent R hT hB hs hf hn
        cases hk : skip s with
        | nil => exact value_err R name parent (.inl ⟨hk, by simp [valueM, hk]⟩) hn
        | cons c t =>
          by_cases hl : 512 ≤ l.length
          · exact value_err R name parent (.inr (.inl ⟨by simp [hk], hl, by simp [valueM, hk, hl]⟩)) hn
          · by_cases hn2 : 16 ≤ n
            · exact value_err R name parent (.inr (.inr ⟨by simp [hk], by omega, hn2, by simp [valueM, hk, hl, hn2]⟩)) hn
            · exact value_some (Lib.hid (ih f (by omega)).2) R hT hB hs hf name parent c t hk (by omega) (by omega)
      · intro w q B s V l n i e he R hT hB hs hf hi hn
        rcases he with rfl | rfl
        · exact many_arr (Lib.hid (fun g hg => (ih g (by omega)).1)) R hT hB hs (by omega) hi hn
        · exact many_obj (Lib.hid (fun g hg => (ih g (by omega)).1)) R hT hB hs (by omega) hi hn

set_option maxRecDepth 100000 in
set_option maxHeartbeats 1000000 in
theorem catch_fault {w : World} {L E : Nat} {v x : Value} {tl te : TypeId} (e : Int) (hL : w.heap[L]? = some (.cells #[v] tl)) (hE : w.heap[E]? = some (.cells #[x] te)) (hne : L ≠ E) :
    CallsD Tryz.prog 75 #[.pointer (some ⟨L, 0, none⟩), .pointer (some ⟨E, 0, none⟩)] (.panicking [{ v := .iface 126 (.agg #[.int .i64 e]), recovered := false }]) w fun en u' w' =>
      en = .returned (.tuple #[]) ∧ u' = .panicking [{ v := .iface 126 (.agg #[.int .i64 e]), recovered := true }] ∧ w'.heap[L]? = some (.cells #[.slice none 0 0] tl) ∧ w'.heap[E]? = some (.cells #[.int .i64 e] te) ∧ Turn (fun k => k = L ∨ k = E) w w' := by
  refine callsD_of_wpS Tryz.func75 rfl fun c₀ cs hu => ?_
  have hta : ∀ w, (Instr.typeAssert (.iface 126 (.agg #[.int .i64 e])) 20 126 true).run Tryz.prog w = .ok (.tuple #[.agg #[.int .i64 e], .bool true]) w := fun w => by kernel_rfl
  have he : #[Value.pointer (some ⟨L, 0, none⟩), .pointer (some ⟨E, 0, none⟩)] ++ Array.replicate (Tryz.f75.ntmps - #[Value.pointer (some ⟨L, 0, none⟩), .pointer (some ⟨E, 0, none⟩)].size) undef = #[.pointer (some ⟨L, 0, none⟩), .pointer (some ⟨E, 0, none⟩), undef, undef, undef, undef, undef, undef, undef, undef, undef, undef, undef] := rfl
  rw [he]
  apply wpS_seq
  apply wpS_region
  simp [wpOpsS, go_sem, recoverD, hu, Exit.thenS]
  refine wpS_of_wp ?_
  have c0 := (cells_of hL 0).1
  have f0 := (cells_of hL 0).2
  have c1 := (cells_of hE 0).1
  have f1 := (cells_of hE 0).2
  have nL := World.new_ne w _ c0
  have nE := World.new_ne w _ c1
  have lL : L < w.heap.size := (Array.getElem?_eq_some_iff.1 hL).1
  have lE : E < w.heap.size := (Array.getElem?_eq_some_iff.1 hE).1
  have HL := Lib.hid hL
  have HE := Lib.hid hE
  clear hL hE he
  go_wp2_with fail
  go_region
  all_goals
    go_wp2
    have e1 : (w.setCell ⟨L, 0, none⟩ (.slice none 0 0)).heap[L]? = some (.cells #[.slice none 0 0] tl) := by simpa using blk_set HL.out 0 (.slice none 0 0)
    have e2 : (w.setCell ⟨L, 0, none⟩ (.slice none 0 0)).heap[E]? = some (.cells #[x] te) := (Below.heap_setCell _ _ _ _ (by exact fun e => hne e.symm)).trans HE.out
    have e3 : ((w.setCell ⟨L, 0, none⟩ (.slice none 0 0)).setCell ⟨E, 0, none⟩ (.int .i64 e)).heap[E]? = some (.cells #[.int .i64 e] te) := by simpa using blk_set e2 0 (.int .i64 e)
    have e4 : ((w.setCell ⟨L, 0, none⟩ (.slice none 0 0)).setCell ⟨E, 0, none⟩ (.int .i64 e)).heap[L]? = some (.cells #[.slice none 0 0] tl) := (Below.heap_setCell _ _ _ _ (by exact hne)).trans e1
    have hs : ((w.setCell ⟨L, 0, none⟩ (.slice none 0 0)).setCell ⟨E, 0, none⟩ (.int .i64 e)).heap.size = w.heap.size := by simp [World.setCell]
    refine ⟨rfl, _, rfl, .tuple #[], by simp [results, Tryz.results75], rfl, rfl, ?_, ?_, ?_⟩
    · exact (heap_alloc_old _ _ (by omega)).trans e4
    · exact (heap_alloc_old _ _ (by omega)).trans e3
    · exact ((turn_set w L 0 (.slice none 0 0) (fun k => k = L ∨ k = E) (.inl rfl)).trans (turn_set _ E 0 (.int .i64 e) _ (.inr rfl))).trans (Turn.of_below (below_drewN ((Below.refl _ _).alloc (Nat.le_refl _) _) 1))

set_option maxRecDepth 100000 in
theorem catch_idle {w : World} {L E : Nat} :
    CallsD Tryz.prog 75 #[.pointer (some ⟨L, 0, none⟩), .pointer (some ⟨E, 0, none⟩)] .returning w fun en u' w' =>
      en = .returned (.tuple #[]) ∧ u' = .returning ∧ w = w' := by
  refine callsD_of_wpS Tryz.func75 rfl fun c₀ cs hu => ?_
  have he : #[Value.pointer (some ⟨L, 0, none⟩), .pointer (some ⟨E, 0, none⟩)] ++ Array.replicate (Tryz.f75.ntmps - #[Value.pointer (some ⟨L, 0, none⟩), .pointer (some ⟨E, 0, none⟩)].size) undef = #[.pointer (some ⟨L, 0, none⟩), .pointer (some ⟨E, 0, none⟩), undef, undef, undef, undef, undef, undef, undef, undef, undef, undef, undef] := rfl
  rw [he]
  apply wpS_seq
  apply wpS_region
  simp [wpOpsS, go_sem, recoverD, hu, Exit.thenS]
  refine wpS_of_wp ?_
  go_wp2
  refine ⟨rfl, .returning, ?_, .tuple #[], by simp [results, Tryz.results75], rfl, rfl, rfl⟩
  cases c₀
  simp_all

/-- What a text reads as. -/
def readM (s : Bytes) : Except Nat (List Val) :=
  if 65536 < s.length then .error 5
  else match valueM (3 * s.length + 1) s [] 0 [] (-1) with
    | .error m => .error m
    | .ok (t, l) => if skip t = [] then .ok l else .error 4

def ReadPost (w : World) (r : Except Nat (List Val)) (e : Ending) (w' : World) : Prop :=
  Below w.heap.size w w' ∧ match r with
  | .error m => e = .returned (.tuple #[.slice none 0 0, .int .i64 m])
  | .ok l => ∃ V, e = .returned (.tuple #[V, .int .i64 0]) ∧ Own w' w.heap.size V l ∧ l.length ≤ 512

set_option maxRecDepth 100000 in
set_option maxHeartbeats 2000000 in
theorem read_long {w : World} {s : Bytes} (hl : 65536 < s.length) (hm : s.length ≤ maxLen) : Calls Tryz.prog 28 #[.string (str s)] w (ReadPost w (.error 5)) := by
  unfold maxLen at hm
  have hz := str_size s
  have hz1 : decide ((65536 : Int) < ((str s).size : Int)) = true := by rw [hz]; simp; omega
  obtain ⟨S, hS⟩ : ∃ S, str s = S := ⟨_, rfl⟩
  rw [hS] at hz hz1 ⊢
  clear hS hz
  go_enter_defers Tryz.func28, Tryz.ntmps28
  go_wp2
  have e0 : ((w.alloc (.cells #[.slice none 0 0] 52)).alloc (.cells #[.int .i64 5] 30)).cell? ⟨w.heap.size, 0, none⟩ = some (.slice none 0 0) := by go_simp
  refine ⟨.tuple #[.slice none 0 0, .int .i64 5], ?_, ((Below.refl _ _).alloc (Nat.le_refl _) _).alloc (by simp) _, rfl⟩
  simp [results, Tryz.results28, go_sem]

/-- Where Read stands with its reader. -/
structure ReadAt (w w' : World) (s : Bytes) (V : Value) (l : List Val) : Prop where
  rs : Rs w' (w.heap.size + 1 + 1) (w.heap.size + 1 + 1 + 1) s V l 0
  bL : w'.heap[w.heap.size]? = some (.cells #[.slice none 0 0] 52)
  bE : w'.heap[w.heap.size + 1]? = some (.cells #[.int .i64 0] 30)
  below : Below w.heap.size w w'
  hB : w.heap.size + 1 + 1 + 1 ≤ w'.heap.size

theorem readAt_start (w : World) (s : Bytes) (hs : s.length ≤ 65536) : ReadAt w (((w.alloc (.cells #[.slice none 0 0] 52)).alloc (.cells #[.int .i64 0] 30)).alloc (.cells #[.string (str s), .slice none 0 0, .int .i64 0] 129)) s (.slice none 0 0) [] := by
  have h1 : (w.alloc (.cells #[.slice none 0 0] 52)).heap[w.heap.size]? = some (.cells #[.slice none 0 0] 52) := heap_alloc_new _ _
  have s1 : (w.alloc (.cells #[.slice none 0 0] 52)).heap.size = w.heap.size + 1 := by simp
  have h2 : ((w.alloc (.cells #[.slice none 0 0] 52)).alloc (.cells #[.int .i64 0] 30)).heap[w.heap.size + 1]? = some (.cells #[.int .i64 0] 30) := by rw [← s1]; exact heap_alloc_new _ _
  have s2 : ((w.alloc (.cells #[.slice none 0 0] 52)).alloc (.cells #[.int .i64 0] 30)).heap.size = w.heap.size + 1 + 1 := by simp
  have h3 : (((w.alloc (.cells #[.slice none 0 0] 52)).alloc (.cells #[.int .i64 0] 30)).alloc (.cells #[.string (str s), .slice none 0 0, .int .i64 0] 129)).heap[w.heap.size + 1 + 1]? = some (.cells #[.string (str s), .slice none 0 0, .int .i64 0] 129) := by rw [← s2]; exact heap_alloc_new _ _
  refine ⟨⟨⟨h3, by unfold maxLen; omega⟩, World.ownsRow_nil _ _ _ _, by omega, by simp⟩, ?_, ?_, (((Below.refl _ _).alloc (Nat.le_refl _) _).alloc (by simp) _).alloc (by simp; omega) _, by simp⟩
  · rw [heap_alloc_old _ _ (by omega), heap_alloc_old _ _ (by omega)]; exact h1
  · rw [heap_alloc_old _ _ (by omega)]; exact h2

theorem ReadAt.turn {w w1 w2 : World} {s s2 : Bytes} {V V2 : Value} {l l2 : List Val} (A : ReadAt w w1 s V l) (R : Rs w2 (w.heap.size + 1 + 1) (w.heap.size + 1 + 1 + 1) s2 V2 l2 0) (t : Turn (fun k => k = w.heap.size + 1 + 1 ∨ V.ownBlock = some k) w1 w2) : ReadAt w w2 s2 V2 l2 := by
  have hl : ∀ k, k < w.heap.size + 1 + 1 → ¬ (k = w.heap.size + 1 + 1 ∨ V.ownBlock = some k) := by
    rintro k hk (h | h)
    · omega
    · have := (A.rs.own.lt h).1; omega
  exact ⟨R, (t.block _ (by have := A.hB; omega) (hl _ (by omega))).trans A.bL, (t.block _ (by have := A.hB; omega) (hl _ (by omega))).trans A.bE,
    A.below.trans ⟨t.os, t.tape, t.output, t.size, fun k hk => t.block k (by have := A.hB; omega) (hl k (by omega))⟩, by have := A.hB; have := t.size; omega⟩

theorem ReadAt.facts {w w1 w2 : World} {s : Bytes} {V : Value} {l : List Val} (A : ReadAt w w1 s V l) (t : Turn (fun k => k = w.heap.size + 1 + 1 ∨ V.ownBlock = some k) w1 w2) :
    w2.heap[w.heap.size]? = some (.cells #[.slice none 0 0] 52) ∧ w2.heap[w.heap.size + 1]? = some (.cells #[.int .i64 0] 30) ∧ Below w.heap.size w w2 := by
  have hl : ∀ k, k < w.heap.size + 1 + 1 → ¬ (k = w.heap.size + 1 + 1 ∨ V.ownBlock = some k) := by
    rintro k hk (h | h)
    · omega
    · have := (A.rs.own.lt h).1; omega
  exact ⟨(t.block _ (by have := A.hB; omega) (hl _ (by omega))).trans A.bL, (t.block _ (by have := A.hB; omega) (hl _ (by omega))).trans A.bE,
    A.below.trans ⟨t.os, t.tape, t.output, t.size, fun k hk => t.block k (by have := A.hB; omega) (hl k (by omega))⟩⟩

/-- The door, where it was given up. -/
theorem read_door {w w2 : World} {m : Nat} {r : Except Nat (List Val)} (hr : r = .error m) (h : w2.heap[w.heap.size]? = some (.cells #[.slice none 0 0] 52) ∧ w2.heap[w.heap.size + 1]? = some (.cells #[.int .i64 0] 30) ∧ Below w.heap.size w w2)
    (a : Act) (h2 : a.tmps[2]? = some (.pointer (some ⟨w.heap.size, 0, none⟩))) (h3 : a.tmps[3]? = some (.pointer (some ⟨w.heap.size + 1, 0, none⟩)))
    (hd : a.defers = [{ target := Target.fn (Fn.func 75) #[.pointer (some ⟨w.heap.size, 0, none⟩), .pointer (some ⟨w.heap.size + 1, 0, none⟩)], args := #[] }]) :
    bodyPostD Tryz.prog Tryz.f28 (ReadPost w r) (Exit.panic [{ v := .iface 126 (.agg #[.int .i64 m]), recovered := false }]) a w2 := by
  subst hr
  obtain ⟨hL, hE, hb⟩ := h
  obtain ⟨tmps, defers⟩ := a
  simp only at hd h2 h3
  subst hd
  refine leaves_cons (f := 75) (args := #[.pointer (some ⟨w.heap.size, 0, none⟩), .pointer (some ⟨w.heap.size + 1, 0, none⟩)]) (by simp) (by simp [go_sem]) ?_
  refine (catch_fault (m : Int) hL hE (by omega)).mono ?_
  rintro e u' w3 ⟨rfl, rfl, kL, kE, t⟩
  have c0 := (cells_of kL 0).1
  have c1 := (cells_of kE 0).1
  have hbel : Below w.heap.size w w3 := hb.trans ⟨t.os, t.tape, t.output, t.size, fun k hk => t.block k (by have := hb.size; omega) (by rintro (h | h) <;> omega)⟩
  have hres : (results Tryz.f28 tmps).run Tryz.prog w3 = .ok (.tuple #[.slice none 0 0, .int .i64 m]) w3 := by
    simp [results, Tryz.results28, go_sem, h2, h3, c0, c1]
  exact ⟨_, hres, hbel, rfl⟩

theorem Own.base {w : World} {B B' : Nat} {V : Value} {l : List Val} (h : Own w B V l) (hB : B' ≤ B) : Own w B' V l := by
  refine ⟨h.1, ?_⟩
  rcases h.2 with hn | ⟨g, cap, cur, h1, hb, rest⟩
  · exact .inl hn
  · exact .inr ⟨g, cap, cur, h1, by omega, rest⟩

/-- The door, where it was read. -/
theorem read_ret {w w5 : World} {s : Bytes} {l : List Val} {V : Value} {r : Except Nat (List Val)} (hr : r = .ok l) (A : ReadAt w w5 s V l)
    (a : Act) (h2 : a.tmps[2]? = some (.pointer (some ⟨w.heap.size, 0, none⟩))) (h3 : a.tmps[3]? = some (.pointer (some ⟨w.heap.size + 1, 0, none⟩)))
    (hd : a.defers = [{ target := Target.fn (Fn.func 75) #[.pointer (some ⟨w.heap.size, 0, none⟩), .pointer (some ⟨w.heap.size + 1, 0, none⟩)], args := #[] }]) :
    bodyPostD Tryz.prog Tryz.f28 (ReadPost w r) Exit.ret a ((w5.setCell ⟨w.heap.size, 0, none⟩ V).setCell ⟨w.heap.size + 1, 0, none⟩ (.int .i64 0)) := by
  subst hr
  have a1 : (w5.setCell ⟨w.heap.size, 0, none⟩ V).heap[w.heap.size]? = some (.cells #[V] 52) := by simpa using blk_set A.bL 0 V
  have a2 : (w5.setCell ⟨w.heap.size, 0, none⟩ V).heap[w.heap.size + 1]? = some (.cells #[.int .i64 0] 30) := (Below.heap_setCell _ _ _ _ (by show w.heap.size + 1 ≠ w.heap.size; omega)).trans A.bE
  have a3 : ((w5.setCell ⟨w.heap.size, 0, none⟩ V).setCell ⟨w.heap.size + 1, 0, none⟩ (.int .i64 0)).heap[w.heap.size + 1]? = some (.cells #[.int .i64 0] 30) := by simpa using blk_set a2 0 (.int .i64 0)
  have a4 : ((w5.setCell ⟨w.heap.size, 0, none⟩ V).setCell ⟨w.heap.size + 1, 0, none⟩ (.int .i64 0)).heap[w.heap.size]? = some (.cells #[V] 52) := (Below.heap_setCell _ _ _ _ (by show w.heap.size ≠ w.heap.size + 1; omega)).trans a1
  have c0 := (cells_of a4 0).1
  have c1 := (cells_of a3 0).1
  have hown : Own ((w5.setCell ⟨w.heap.size, 0, none⟩ V).setCell ⟨w.heap.size + 1, 0, none⟩ (.int .i64 0)) w.heap.size V l := by
    refine (A.rs.own.kept (fun k hk => ?_)).base (by omega)
    have := (A.rs.own.lt hk).1
    exact (Below.heap_setCell _ _ _ _ (by show k ≠ w.heap.size + 1; omega)).trans (Below.heap_setCell _ _ _ _ (by show k ≠ w.heap.size; omega))
  have hbel : Below w.heap.size w ((w5.setCell ⟨w.heap.size, 0, none⟩ V).setCell ⟨w.heap.size + 1, 0, none⟩ (.int .i64 0)) := (A.below.setCell (Nat.le_refl _) _).setCell (by simp) _
  obtain ⟨w6, hw6⟩ : ∃ w6, (w5.setCell ⟨w.heap.size, 0, none⟩ V).setCell ⟨w.heap.size + 1, 0, none⟩ (.int .i64 0) = w6 := ⟨_, rfl⟩
  rw [hw6] at c0 c1 hown hbel ⊢
  obtain ⟨tmps, defers⟩ := a
  simp only at hd h2 h3
  subst hd
  refine leaves_cons (f := 75) (args := #[.pointer (some ⟨w.heap.size, 0, none⟩), .pointer (some ⟨w.heap.size + 1, 0, none⟩)]) (by simp) (by simp [go_sem]) ?_
  refine catch_idle.mono ?_
  rintro e u' w3 ⟨rfl, rfl, rfl⟩
  have hres : (results Tryz.f28 tmps).run Tryz.prog w6 = .ok (.tuple #[V, .int .i64 0]) w6 := by
    simp [results, Tryz.results28, go_sem, h2, h3, c0, c1]
  exact ⟨_, hres, hbel, V, rfl, hown, A.rs.few⟩

set_option maxRecDepth 100000 in
set_option maxHeartbeats 2000000 in
theorem read_short {w : World} (hT : Tabs w) {s : Bytes} (hl : s.length ≤ 65536) {r : Except Nat (List Val)} (hr : readM s = r) : Calls Tryz.prog 28 #[.string (str s)] w (ReadPost w r) := by
  have hz := str_size s
  have hz1 : decide ((65536 : Int) < ((str s).size : Int)) = false := by rw [hz]; simp; omega
  have HT := Lib.hid hT
  have HRR : Hid ((match valueM (3 * s.length + 1) s [] 0 [] (-1) with
    | .error m => .error m
    | .ok (t, l) => if skip t = [] then .ok l else .error 4 : Except Nat (List Val)) = r) := by
    rw [← hr]; unfold readM; rw [if_neg (by omega)]; exact Lib.hid rfl
  clear hT hr hz
  have hmf : ∀ (fn : Fn) (first cap : Array Value) (w : World), (Instr.makeFunc fn first cap).run Tryz.prog w = .ok (.func fn first cap) w := fun _ _ _ _ => rfl
  go_enter_defers Tryz.func28, Tryz.ntmps28
  go_wp2_with fail
  have A := readAt_start w s hl
  obtain ⟨w3, hw3⟩ : ∃ w3, ((w.alloc (.cells #[.slice none 0 0] 52)).alloc (.cells #[.int .i64 0] 30)).alloc (.cells #[.string (str s), .slice none 0 0, .int .i64 0] 129) = w3 := ⟨_, rfl⟩
  rw [hw3] at A ⊢
  clear hw3
  have tb : Tabs w3 := HT.out.turn (S := fun _ => False) (Turn.of_below A.below) (by simp) (by simp) (by simp)
  have HA := Lib.hid (And.intro A tb)
  clear A tb
  refine ((hyps (3 * s.length + 1)).1 w3 _ _ s _ [] 0 [] (-1) HA.out.1.rs HA.out.2 HA.out.1.hB hl (by omega) (by omega)).mono ?_
  rintro e w4 hp
  have hg := HRR.out
  cases hres : valueM (3 * s.length + 1) s [] 0 [] (-1) with
  | error m =>
    rw [hres] at hp hg
    obtain ⟨he, t4⟩ := hp
    unfold faultOf at he
    subst he
    have F4 := HA.out.1.facts t4
    have HF := Lib.hid (And.intro F4 hg)
    clear t4 hg F4 hres
    go_wp2
    exact read_door HF.out.2.symm HF.out.1 _ rfl rfl rfl
  | ok tl =>
    obtain ⟨t, l⟩ := tl
    rw [hres] at hp hg
    obtain ⟨rfl, V4, R4, -, t4⟩ := hp
    obtain ⟨p, cap, rfl⟩ := R4.own.form
    have A4 := HA.out.1.turn R4 t4
    have H4 := Lib.hid (And.intro A4 hg)
    clear R4 t4 hg A4 hres
    go_wp2_with fail
    refine (blanks_any H4.out.1.rs.rd).mono ?_
    rintro e w5 ⟨rfl, r5, t5⟩
    have A5 := H4.out.1.turn (H4.out.1.rs.turn r5 t5) (t5.mono (fun k _ e => .inl e))
    have c0 := A5.rs.rd.c0
    have H5 := Lib.hid A5
    clear r5 t5 A5
    by_cases hk : skip t = []
    · have hE : (str (skip t)).toList.isEmpty = true := by rw [hk, str_empty]; rfl
      have HK := Lib.hid hk
      clear hk
      go_wp2_with fail
      refine (need_yes 4 _).mono ?_
      rintro e w6 ⟨rfl, rfl⟩
      have c1 := H5.out.rs.rd.c1
      have k0 := (cells_of H5.out.bL 0).1
      have k1 := (cells_of H5.out.bE 0).1
      have f0 := (cells_of H5.out.bL 0).2
      have f1 := (cells_of H5.out.bE 0).2
      clear c0
      go_wp2
      have hg := H4.out.2
      rw [if_pos HK.out] at hg
      exact read_ret hg.symm H5.out _ rfl rfl rfl
    · have hE : (str (skip t)).toList.isEmpty = false := by
        rw [str_empty]
        cases h : skip t with
        | nil => exact absurd h hk
        | cons a b => rfl
      have HK := Lib.hid hk
      clear hk
      go_wp2_with fail
      refine (need_no 4 _).mono ?_
      rintro e w6 ⟨rfl, rfl⟩
      go_wp2
      have hg := H4.out.2
      rw [if_neg HK.out] at hg
      exact read_door (m := 4) hg.symm ⟨H5.out.bL, H5.out.bE, H5.out.below⟩ _ rfl rfl rfl

theorem read_any {w : World} (hT : Tabs w) {s : Bytes} (hm : s.length ≤ maxLen) : Calls Tryz.prog 28 #[.string (str s)] w (ReadPost w (readM s)) := by
  by_cases hl : 65536 < s.length
  · have : readM s = .error 5 := by unfold readM; rw [if_pos hl]
    rw [this]
    exact read_long hl hm
  · exact read_short hT (by omega) rfl

example : readM rd0 = .ok [⟨-1, 6, [], []⟩, ⟨0, 5, [97], []⟩, ⟨1, 3, [], [49]⟩, ⟨1, 4, [], [195, 169]⟩] := by kernel_rfl
end Go.Proofs.YtcdeikhfmllkdaaGreatDoor
