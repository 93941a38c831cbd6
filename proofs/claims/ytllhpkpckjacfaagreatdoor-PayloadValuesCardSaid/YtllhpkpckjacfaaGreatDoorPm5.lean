import Derived.Test.YtllhpkpckjacfaaGreatDoorPm1
import Derived.Test.YtllhpkpckjacfaaGreatDoorTrG
import Derived.Test.YtllhpkpckjacfaaGreatDoorPTemplateFiltersx0
/- payload's values: the tree. -/
namespace Go.Proofs.YtllhpkpckjacfaaGreatDoor
open Go.RowKit Go.Proofs.YtllhpkpckjacfaaGreatDoorW.PrintWords PTemplateFilters
set_option linter.unusedVariables false
set_option linter.unusedSimpArgs false

/-- A value. -/
structure Vl where
  par : Int
  kind : Int
  name : ByteArray
  text : ByteArray
def Vl.cells (v : Vl) : List Value := [.int .i64 v.par, .int .u8 v.kind, .string v.name, .string v.text]
def vcells (l : List Vl) : List Value := l.flatMap Vl.cells
theorem vcells_len (l : List Vl) : (vcells l).length = l.length * 4 := by
  induction l with
  | nil => rfl
  | cons a l ih => simp only [vcells, List.flatMap_cons, List.length_append] at *; rw [ih]; simp [Vl.cells]; omega
theorem vcells_append (l m : List Vl) : vcells (l ++ m) = vcells l ++ vcells m := by simp [vcells]
theorem vcells_one (v : Vl) : vcells [v] = v.cells := by simp [vcells]
theorem infoV74 : (Tryz.prog.info? 74).map (fun i => (i.zero, i.size, i.bytes)) = some (some (.agg #[.int .i64 0, .int .u8 0, .string ⟨#[]⟩, .string ⟨#[]⟩]), 4, 48) := by kernel_rfl
/-- A slice of values in a block of its own. -/
def Own (w : World) (B : Nat) (V : Value) (l : List Vl) : Prop := w.ownsRow B 74 4 V l.length (vcells l)
theorem Own.kept {w w' : World} {B : Nat} {V : Value} {l : List Vl} (h : Own w B V l) (t : ∀ k, V.ownBlock = some k → w'.heap[k]? = w.heap[k]?) : Own w' B V l := by
  refine ⟨h.1, ?_⟩
  rcases h.2 with hn | ⟨g, cap, cur, rfl, hb, hg, rest⟩
  · exact .inl hn
  · exact .inr ⟨g, cap, cur, rfl, hb, (t g rfl).trans hg, rest⟩
/-- The tree and its list; nothing of what lay there has changed. -/
structure TR (w0 w : World) (q : Nat) (V : Value) (l : List Vl) : Prop where
  bel : Below w0.heap.size w0 w
  hq : w0.heap.size ≤ q
  row : w.heap[q]? = some (.cells #[V] 77)
  own : Own w (q + 1) V l
theorem TR.lt {w0 w : World} {q : Nat} {V : Value} {l : List Vl} (h : TR w0 w q V l) : q < w.heap.size := (Array.getElem?_eq_some_iff.1 h.row).1
theorem TR.form {w0 w : World} {q : Nat} {V : Value} {l : List Vl} (h : TR w0 w q V l) : ∃ p cap, V = .slice p l.length cap := by
  rcases h.own.2 with ⟨h1, h2⟩ | ⟨g, cap, cur, h1, _⟩
  · exact ⟨none, 0, by rw [h1, h2]⟩
  · exact ⟨some ⟨g, 0, none⟩, cap, h1⟩
theorem TR.alloc {w0 w : World} {q : Nat} {V : Value} {l : List Vl} (h : TR w0 w q V l) (o : Obj) : TR w0 (w.alloc o) q V l :=
  ⟨h.bel.alloc h.bel.size o, h.hq, (heap_alloc_old _ _ h.lt).trans h.row, h.own.alloc o⟩
theorem TR.grown {w0 w w' : World} {q : Nat} {V V' : Value} {l : List Vl} {v : Vl} {o : Obj} (h : TR w0 w q V l) (hg : (w.alloc o).grownBy w' V.ownBlock) (ho : w'.ownsRow (q + 1) 74 4 V' (l.length + 1) (vcells l ++ v.cells)) :
    TR w0 (w'.setCell ⟨q, 0, none⟩ V') q V' (l ++ [v]) := by
  have hne : ∀ k, V'.ownBlock = some k → k ≠ q := fun k hk => by have := (World.ownsRow.lt ho k hk).1; omega
  have hV : ∀ k, V.ownBlock = some k → q + 1 ≤ k := fun k hk => (World.ownsRow.lt h.own k hk).1
  refine ⟨?_, h.hq, ?_, ?_⟩
  · refine Below.setCell ?_ h.hq V'
    exact pw_below_grown (h.alloc o).bel _ (by have := h.bel.size; simp; omega) hg (fun k hk => by have := hV k hk; have := h.hq; omega)
  · have e : w'.heap[q]? = some (.cells #[V] 77) := by
      rw [hg.block q (by have := h.lt; simp; omega) (fun e => by have := hV q e.symm; omega)]; exact (h.alloc o).row
    simpa using blk_set e 0 V'
  · have e : Own w' (q + 1) V' (l ++ [v]) := by
      unfold Own; rw [vcells_append, vcells_one]; simpa using ho
    exact e.kept (fun k hk => Below.heap_setCell _ _ _ _ (fun e => hne k hk e))
set_option maxHeartbeats 1000000 in
set_option maxRecDepth 100000 in
theorem add_any {w0 w : World} {q : Nat} {V : Value} {l : List Vl} (R : TR w0 w q V l) (hl : l.length ≤ 100000) (p k : Int) (n t : ByteArray) :
    Calls Tryz.prog 48 #[.pointer (some ⟨q, 0, none⟩), .int .i64 p, .int .u8 k, .string n, .string t] w fun e w' => e = .returned (.int .i64 l.length) ∧ ∃ V', TR w0 w' q V' (l ++ [⟨p, k, n, t⟩]) := by
  obtain ⟨i0, hi, hz0, hz1, hz2⟩ := info_parts infoV74
  obtain ⟨c0, f0⟩ := cells_of R.row 0
  have hown := R.own
  have hlt := R.lt
  unfold Own at hown
  have HR := Lib.hid R
  clear R
  go_enter Tryz.func48, Tryz.ntmps48
  go_wp2_with (at_builtin; refine wpList_append_own _ rfl _ _ 44 rfl (q + 1) 74 i0 (.agg #[.int .i64 0, .int .u8 0, .string ⟨#[]⟩, .string ⟨#[]⟩]) 4 48 Tryz.underlying44 hi hz0 hz1 hz2 rfl (by decide) _ _ _ rfl (hown.alloc _) ⟨w.heap.size, 0, none⟩ 1 1 [.int .i64 p, .int .u8 k, .string n, .string t] rfl rfl ?c1 ?c2 ?c3 ?c4 ?c5 ?_)
  case c1 =>
    intro j u hj
    have := World.news_of_block (cs := #[.int .i64 p, .int .u8 k, .string n, .string t]) (t := 74) (fr := (0, 0)) (heap_alloc_new w (.cells #[.int .i64 p, .int .u8 k, .string n, .string t] 74)) j u hj
    exact this
  case c2 => intro u hu; simp at hu; rcases hu with rfl | rfl | rfl | rfl <;> rfl
  case c3 => unfold maxLen; omega
  case c4 => omega
  case c5 => simp; omega
  intro v' w2 hown' hgrow hnil
  obtain ⟨g, cap, rfl⟩ : ∃ g cap, v' = .slice (some ⟨g, 0, none⟩) (l.length + 1) cap := by
    rcases hown'.2 with ⟨_, h0⟩ | ⟨g, cap, cur, hv, _⟩
    · simp [vcells_len] at h0
    · exact ⟨g, cap, hv⟩
  have hne : ∀ k2, V.ownBlock = some k2 → k2 ≠ q := fun k2 hk => by have := (World.ownsRow.lt hown k2 hk).1; omega
  have hq2 : w2.heap[q]? = some (.cells #[V] 77) := by
    rw [hgrow.block q (by simp; omega) (fun e => hne q e.symm rfl), heap_alloc_old _ _ hlt]; exact HR.out.row
  obtain ⟨d0, g0⟩ := cells_of hq2 0
  have HG := Lib.hid (And.intro hgrow hown')
  have hw1 : IntKind.i64.wrap ((l.length : Int) + 1 - 1) = (l.length : Int) := by rw [IntKind.wrap_i64]; omega
  have hw2 : IntKind.i64.wrap (l.length : Int) = (l.length : Int) := by rw [IntKind.wrap_i64]; omega
  clear hgrow hown' hown hnil hne hq2
  go_wp2
  go_ret
  exact ⟨rfl, _, HR.out.grown HG.out.1 HG.out.2⟩
end Go.Proofs.YtllhpkpckjacfaaGreatDoor

/- payload's Values, walked. -/
namespace Go.Proofs.YtllhpkpckjacfaaGreatDoor
open Go.RowKit Go.Proofs.YtllhpkpckjacfaaGreatDoorW.PrintWords PTemplateFilters
set_option linter.unusedVariables false
set_option linter.unusedSimpArgs false

def vE : ByteArray := ⟨#[]⟩
def labelsV (par : Int) (at_ : Nat) (name : ByteArray) (ps : List S40) : List Vl := ⟨par, 6, name, vE⟩ :: ps.map fun p => ⟨at_, 4, p.f0, p.f1⟩
theorem labelsV_len (par : Int) (at_ : Nat) (name : ByteArray) (ps : List S40) : (labelsV par at_ name ps).length = ps.length + 1 := by simp [labelsV]
def listsV (at_ : Nat) : List (List S40) → List Vl → List Vl
  | [], l => l
  | x :: L, l => listsV at_ L (l ++ labelsV at_ l.length vE x)
def alertsV (name : ByteArray) (L : List (List S40)) (l : List Vl) : List Vl := listsV l.length L (l ++ [⟨0, 5, name, vE⟩])
theorem listsV_snoc (at_ : Nat) (x : List S40) : ∀ (L : List (List S40)) (l : List Vl), listsV at_ (L ++ [x]) l = listsV at_ L l ++ labelsV at_ (listsV at_ L l).length vE x
  | [], l => rfl
  | y :: L, l => listsV_snoc at_ x L _
theorem listsV_len (at_ : Nat) : ∀ (L : List (List S40)) (l : List Vl), (∀ x ∈ L, x.length ≤ 12) → (listsV at_ L l).length ≤ l.length + 13 * L.length
  | [], l, _ => by simp [listsV]
  | y :: L, l, h => by
    have ih := listsV_len at_ L (l ++ labelsV at_ l.length vE y) (fun x hx => h x (List.mem_cons_of_mem _ hx))
    have hy := h y (by simp)
    rw [List.length_append, labelsV_len] at ih
    rw [listsV, List.length_cons]
    omega
theorem labels_step {par : Int} {at_ : Nat} {name : ByteArray} {ps : List S40} {j : Nat} (h : j < ps.length) : labelsV par at_ name (ps.take (j + 1)) = labelsV par at_ name (ps.take j) ++ [⟨at_, 4, ps[j].f0, ps[j].f1⟩] := by
  rw [List.take_succ_eq_append_getElem h]
  simp only [labelsV, List.map_append, List.map_cons, List.map_nil, List.cons_append]
set_option maxHeartbeats 1000000 in
set_option maxRecDepth 100000 in
theorem labels_any {w0 w : World} {q : Nat} {V : Value} {l : List Vl} (R : TR w0 w q V l) (hl : l.length ≤ 50000) (par : Int) (name : ByteArray) {Vp : Value} {ps : List S40} (hP : PairsC w0 Vp ps) (hp : ps.length ≤ 12) :
    Calls Tryz.prog 49 #[.pointer (some ⟨q, 0, none⟩), .int .i64 par, .string name, Vp] w fun e w' => e = .returned (.tuple #[]) ∧ ∃ V', TR w0 w' q V' (l ++ labelsV par l.length name ps) := by
  obtain ⟨A, c, rfl, hc, hC⟩ := hP
  have HR := Lib.hid R
  have HC := Lib.hid hC
  clear R hC
  go_enter Tryz.func49, Tryz.ntmps49
  go_wp2_with fail
  refine (add_any HR.out (by omega) par 6 name ⟨#[]⟩).mono ?_
  rintro e w1 ⟨rfl, V1, h1⟩
  have H1 := Lib.hid h1
  clear h1
  go_wp2_with fail
  go_loopw [17] (fun v17 wr => ∃ j : Nat, v17 = .int .i64 j ∧ j ≤ ps.length ∧ ∃ V', TR w0 wr q V' (l ++ labelsV par l.length name (ps.take j))) (fun v _ => ps.length - (intOf v).toNat)
  case atStart => exact ⟨0, rfl, Nat.zero_le _, V1, H1.out⟩
  case round =>
    obtain ⟨j, rfl, hj, V', hr⟩ := hrel
    have HRr := Lib.hid hr
    clear hr
    by_cases hlt : j < ps.length
    · have hji : (j : Int) < (ps.length : Int) := by omega
      have hj0 : (0 : Int) ≤ (j : Int) := by omega
      obtain ⟨ad, rfl, hx0, hx1⟩ := pair_at HC.out HRr.out.bel hlt
      have hst := labels_step (par := par) (at_ := l.length) (name := name) hlt
      obtain ⟨x, hx⟩ : ∃ x, ps[j] = x := ⟨_, rfl⟩
      rw [hx] at hx0 hx1 hst
      have HSt := Lib.hid hst
      clear hx hst
      have hlen : (l ++ labelsV par l.length name (ps.take j)).length ≤ 100000 := by rw [List.length_append, labelsV_len, List.length_take]; omega
      have HA := Lib.hid (add_any (HRr.out.alloc (.cells #[.string x.f0, .string x.f1] 40)) hlen (l.length : Int) 4 x.f0 x.f1)
      clear hlen
      go_wp2_with fail
      refine HA.out.mono ?_
      rintro e w3 ⟨rfl, V3, h3⟩
      have H3 := Lib.hid h3
      clear h3
      go_wp2
      go_roundw
      case rel => exact ⟨j + 1, by go_num, hlt, V3, by rw [HSt.out, ← List.append_assoc]; exact H3.out⟩
      case measure => simp [intOf]; omega
    · have hje : j = ps.length := by omega
      subst hje
      rw [List.take_length] at HRr
      go_wp2
      refine bodyPost_end (v := .tuple #[]) (by simp [results, Tryz.results49]) rfl ⟨rfl, V', HRr.out⟩
theorem lists_step {at_ : Nat} {L : List (List S40)} {l : List Vl} {j : Nat} (h : j < L.length) : listsV at_ (L.take (j + 1)) l = listsV at_ (L.take j) l ++ labelsV at_ (listsV at_ (L.take j) l).length vE L[j] := by
  rw [List.take_succ_eq_append_getElem h, listsV_snoc]
set_option maxHeartbeats 1000000 in
set_option maxRecDepth 100000 in
theorem alerts_any {w0 w : World} {q : Nat} {V : Value} {l : List Vl} (R : TR w0 w q V l) (hl : l.length ≤ 20000) (name : ByteArray) {Vp : Value} {L : List (List S40)} (hP : ListsC w0 Vp L) (hp : L.length ≤ 80) (h12 : ∀ k (h : k < L.length), L[k].length ≤ 12) :
    Calls Tryz.prog 50 #[.pointer (some ⟨q, 0, none⟩), .string name, Vp] w fun e w' => e = .returned (.tuple #[]) ∧ ∃ V', TR w0 w' q V' (alertsV name L l) := by
  obtain ⟨A, c, rfl, hc⟩ := hP.form
  have HR := Lib.hid R
  have HP := Lib.hid hP
  have H12 := Lib.hid h12
  clear R hP h12
  go_enter Tryz.func50, Tryz.ntmps50
  go_wp2_with fail
  refine (add_any HR.out (by omega) 0 5 name ⟨#[]⟩).mono ?_
  rintro e w1 ⟨rfl, V1, h1⟩
  have H1 := Lib.hid h1
  clear h1
  go_wp2_with fail
  go_loopw [14] (fun v14 wr => ∃ j : Nat, v14 = .int .i64 j ∧ j ≤ L.length ∧ ∃ V', TR w0 wr q V' (listsV l.length (L.take j) (l ++ [⟨0, 5, name, vE⟩]))) (fun v _ => L.length - (intOf v).toNat)
  case atStart => exact ⟨0, rfl, Nat.zero_le _, V1, H1.out⟩
  case round =>
    obtain ⟨j, rfl, hj, V', hr⟩ := hrel
    have HRr := Lib.hid hr
    clear hr
    by_cases hlt : j < L.length
    · have hji : (j : Int) < (L.length : Int) := by omega
      have hj0 : (0 : Int) ≤ (j : Int) := by omega
      have hrow := ListsC.below HP.out HRr.out.bel
      obtain ⟨ad, cc, VV, hA, _, hcc, hVV⟩ := hrow.at hlt
      injection hA with hA _ hce
      subst hA
      subst hce
      have hst := lists_step (at_ := l.length) (l := l ++ [⟨0, 5, name, vE⟩]) hlt
      have hx12 := H12.out j hlt
      have hP0 : ∃ VV0, PairsC w0 VV0 L[j] ∧ VV0 = VV := by
        obtain ⟨ad2, cc2, VV2, hA2, _, hcc2, hVV2⟩ := HP.out.at hlt
        injection hA2 with hA2 _ _
        have e := Option.some.inj hA2
        subst e
        exact ⟨VV2, hVV2, Option.some.inj ((pw_cell_below HRr.out.bel hcc2).symm.trans hcc)⟩
      obtain ⟨_, hP0, rfl⟩ := hP0
      obtain ⟨x, hx⟩ : ∃ x, L[j] = x := ⟨_, rfl⟩
      rw [hx] at hst hx12 hP0
      have HSt := Lib.hid hst
      have hlen : (listsV l.length (L.take j) (l ++ [⟨0, 5, name, vE⟩])).length ≤ 50000 := by
        have := listsV_len l.length (L.take j) (l ++ [⟨0, 5, name, vE⟩]) (fun y hy => by
          obtain ⟨k, hk, rfl⟩ := List.mem_iff_getElem.1 (List.mem_of_mem_take hy)
          exact H12.out k hk)
        rw [List.length_take, List.length_append] at this
        simp only [List.length_cons, List.length_nil] at this
        omega
      have HA := Lib.hid (labels_any HRr.out hlen (l.length : Int) vE hP0 hx12)
      clear hx hst hx12 hP0 hVV hrow hlen
      rw [show vE = (⟨#[]⟩ : ByteArray) from rfl] at HA
      go_wp2_with fail
      refine HA.out.mono ?_
      rintro e w3 ⟨rfl, V3, h3⟩
      have H3 := Lib.hid h3
      clear h3
      go_wp2
      go_roundw
      case rel => exact ⟨j + 1, by go_num, hlt, V3, by rw [HSt.out]; exact H3.out⟩
      case measure => simp [intOf]; omega
    · have hje : j = L.length := by omega
      subst hje
      rw [List.take_length] at HRr
      go_wp2
      refine bodyPost_end (v := .tuple #[]) (by simp [results, Tryz.results50]) rfl ⟨rfl, V', HRr.out⟩
/-- A message's values. -/
def bRecv : ByteArray := ⟨#[114, 101, 99, 101, 105, 118, 101, 114]⟩
def bKey : ByteArray := ⟨#[107, 101, 121]⟩
def bGroup : ByteArray := ⟨#[103, 114, 111, 117, 112]⟩
def bFiring : ByteArray := ⟨#[102, 105, 114, 105, 110, 103]⟩
def bResolved : ByteArray := ⟨#[114, 101, 115, 111, 108, 118, 101, 100]⟩
def bText : ByteArray := ⟨#[116, 101, 120, 116]⟩
def v1V (m : MsgM) : List Vl := [⟨-1, 6, vE, vE⟩, ⟨0, 4, bRecv, str m.recv⟩, ⟨0, 4, bKey, str m.key⟩]
def v2V (m : MsgM) : List Vl := v1V m ++ labelsV 0 (v1V m).length bGroup m.group
def v3V (m : MsgM) : List Vl := alertsV bFiring m.firing (v2V m)
def v4V (m : MsgM) : List Vl := alertsV bResolved m.resolved (v3V m)
def valuesV (m : MsgM) (text : ByteArray) : List Vl := v4V m ++ [⟨0, 4, bText, text⟩]
theorem v2V_len {m : MsgM} (h : m.group.length ≤ 12) : (v2V m).length ≤ 16 := by
  unfold v2V
  rw [List.length_append, labelsV_len]
  simp only [v1V, List.length_cons, List.length_nil]
  omega
theorem alertsV_len (name : ByteArray) {L : List (List S40)} {l : List Vl} (h : L.length ≤ 80) (h12 : ∀ k (h : k < L.length), L[k].length ≤ 12) : (alertsV name L l).length ≤ l.length + 1 + 13 * 80 := by
  have := listsV_len l.length L (l ++ [⟨0, 5, name, vE⟩]) (fun y hy => by
    obtain ⟨k, hk, rfl⟩ := List.mem_iff_getElem.1 hy
    exact h12 k hk)
  unfold alertsV
  rw [List.length_append] at this
  simp only [List.length_cons, List.length_nil] at this
  omega
structure SmallV (m : MsgM) : Prop where
  fir : m.firing.length ≤ 80
  res : m.resolved.length ≤ 80
  grp : m.group.length ≤ 12
  firs : ∀ k (h : k < m.firing.length), m.firing[k].length ≤ 12
  ress : ∀ k (h : k < m.resolved.length), m.resolved[k].length ≤ 12
theorem SmallV.v3 {m : MsgM} (h : SmallV m) : (v3V m).length ≤ 1100 := by
  have h1 := v2V_len h.grp
  have := alertsV_len bFiring (l := v2V m) h.fir h.firs
  unfold v3V; omega
theorem SmallV.v4 {m : MsgM} (h : SmallV m) : (v4V m).length ≤ 2200 := by
  have h1 := h.v3
  have := alertsV_len bResolved (l := v3V m) h.res h.ress
  unfold v4V; omega
/-- A list of values comes back, in a block of its own. -/
def VsPost (w : World) (l : List Vl) (e : Ending) (w' : World) : Prop := ∃ V, e = .returned V ∧ Own w' w.heap.size V l ∧ Below w.heap.size w w'
theorem own_base' {w : World} {B B' : Nat} {V : Value} {l : List Vl} (h : Own w B V l) (hB : B' ≤ B) : Own w B' V l := own_weaken h hB
set_option maxHeartbeats 2000000 in
set_option maxRecDepth 100000 in
theorem Values_any {w : World} {m : MsgM} {pre : List Value} (hM : MsgC w m pre) (hS : SmallV m) (text : ByteArray) : Calls Tryz.prog 22 #[.agg pre.toArray, .string text] w (VsPost w (valuesV m text)) := by
  have hM0 := hM
  obtain ⟨Vg, Vf, Vr, rfl, hg, hf, hr⟩ := hM
  have hb1 : Below w.heap.size w (w.alloc (.cells #[.string (str m.recv), .string (str m.key), Vg, Vf, Vr] 33)) := below_alloc (Below.refl _ _) _
  have hbx : (w.alloc (.cells #[.string (str m.recv), .string (str m.key), Vg, Vf, Vr] 33)).heap[w.heap.size]? = some (.cells #[.string (str m.recv), .string (str m.key), Vg, Vf, Vr] 33 (0, 0)) := heap_alloc_new w _
  obtain ⟨q, hq⟩ : ∃ q, w.heap.size + 1 = q := ⟨_, rfl⟩
  have hTR : TR (w.alloc (.cells #[.string (str m.recv), .string (str m.key), Vg, Vf, Vr] 33)) ((w.alloc (.cells #[.string (str m.recv), .string (str m.key), Vg, Vf, Vr] 33)).alloc (.cells #[.slice none 0 0] 77)) q (.slice none 0 0) [] := by
    have hz : (w.alloc (.cells #[.string (str m.recv), .string (str m.key), Vg, Vf, Vr] 33)).heap.size = q := by simp [hq]
    refine ⟨below_alloc (Below.refl _ _) _, by omega, ?_, World.ownsRow_nil _ _ _ _⟩
    have := heap_alloc_new (w.alloc (.cells #[.string (str m.recv), .string (str m.key), Vg, Vf, Vr] 33)) (.cells #[.slice none 0 0] 77)
    rwa [hz] at this
  obtain ⟨Ag, cg, rfl, hcg, hCg⟩ := hg
  obtain ⟨Af, cf, rfl, hcf⟩ := hf.form
  obtain ⟨Ar, cr, rfl, hcr⟩ := hr.form
  have hz : (w.alloc (.cells #[.string (str m.recv), .string (str m.key), .slice Ag m.group.length cg, .slice Af m.firing.length cf, .slice Ar m.resolved.length cr] 33)).heap.size = q := by simp [hq]
  have HB1 := Lib.hid hb1
  have HBx := Lib.hid hbx
  have HT := Lib.hid hTR
  have HG := Lib.hid (PairsC.below ⟨Ag, cg, rfl, hcg, hCg⟩ hb1)
  have HF := Lib.hid (ListsC.below hf hb1)
  have HR := Lib.hid (ListsC.below hr hb1)
  have HQ := Lib.hid hq
  have HZ := Lib.hid hz
  have HS := Lib.hid hS
  clear hM0 hCg hf hr hb1 hbx hTR hS hz
  go_enter Tryz.func22, Tryz.ntmps22
  go_upto_region 2 with (fail)
  generalize hW2 : (w.alloc (.cells #[.string (str m.recv), .string (str m.key), .slice Ag m.group.length cg, .slice Af m.firing.length cf, .slice Ar m.resolved.length cr] 33)).alloc _ = W2 at HT ⊢
  generalize hW1 : w.alloc (.cells #[.string (str m.recv), .string (str m.key), .slice Ag m.group.length cg, .slice Af m.firing.length cf, .slice Ar m.resolved.length cr] 33) = W1 at HB1 HBx HT HG HF HR HZ
  obtain ⟨b, hb⟩ : ∃ b, w.heap.size = b := ⟨_, rfl⟩
  have hbz : b + 1 = q := by rw [← hb]; exact HQ.out
  have HBb := Lib.hid hb
  rw [hb] at HBx ⊢
  clear hW2 hW1 hq hb
  have hcell : ∀ (w2 : World) (V : Value) (l : List Vl), TR W1 w2 q V l → w2.heap[b]? = some (.cells #[.string (str m.recv), .string (str m.key), .slice Ag m.group.length cg, .slice Af m.firing.length cf, .slice Ar m.resolved.length cr] 33 (0, 0)) := fun _ _ _ R => blk_below HBx.out R.bel
  have HCell := Lib.hid hcell
  clear hcell
  have A1 := Lib.hid (add_any HT.out (by simp) (-1) 6 ⟨#[]⟩ ⟨#[]⟩)
  go_upto_region 3 with (first | (go_at_call 48; (refine A1.out.mono ?_); rintro e w1 ⟨rfl, V1, h1⟩))
  have H1 := Lib.hid h1
  have d0 : w1.cell? ⟨b, 0, none⟩ = some (.string (str m.recv)) := (blk_cell (HCell.out _ _ _ h1) 0).trans rfl
  have A2 := Lib.hid (add_any h1 (by simp) 0 4 bRecv (str m.recv))
  rw [show bRecv = (⟨#[114, 101, 99, 101, 105, 118, 101, 114]⟩ : ByteArray) from rfl] at A2
  clear h1 A1
  go_upto_region 4 with (first | (go_at_call 48; (refine A2.out.mono ?_); rintro e w2 ⟨rfl, V2, h2⟩))
  have H2 := Lib.hid h2
  have d1 : w2.cell? ⟨b, 1, none⟩ = some (.string (str m.key)) := (blk_cell (HCell.out _ _ _ h2) 1).trans rfl
  have A3 := Lib.hid (add_any h2 (by simp) 0 4 bKey (str m.key))
  rw [show bKey = (⟨#[107, 101, 121]⟩ : ByteArray) from rfl] at A3
  clear h2 A2 d0
  go_upto_region 5 with (first | (go_at_call 48; (refine A3.out.mono ?_); rintro e w3 ⟨rfl, V3, h3⟩))
  have h3 : TR W1 w3 q V3 (v1V m) := h3
  have d2 : w3.cell? ⟨b, 2, none⟩ = some (.slice Ag m.group.length cg) := (blk_cell (HCell.out _ _ _ h3) 2).trans rfl
  have A4 := Lib.hid (labels_any h3 (by simp [v1V]) 0 bGroup HG.out HS.out.grp)
  rw [show bGroup = (⟨#[103, 114, 111, 117, 112]⟩ : ByteArray) from rfl] at A4
  clear h3 A3 d1
  go_upto_region 6 with (first | (go_at_call 49; (refine A4.out.mono ?_); rintro e w4 ⟨rfl, V4, h4⟩))
  have h4 : TR W1 w4 q V4 (v2V m) := h4
  have d3 : w4.cell? ⟨b, 3, none⟩ = some (.slice Af m.firing.length cf) := (blk_cell (HCell.out _ _ _ h4) 3).trans rfl
  have A5 := Lib.hid (alerts_any h4 (by have := v2V_len HS.out.grp; omega) bFiring HF.out HS.out.fir HS.out.firs)
  rw [show bFiring = (⟨#[102, 105, 114, 105, 110, 103]⟩ : ByteArray) from rfl] at A5
  clear h4 A4 d2
  go_upto_region 7 with (first | (go_at_call 50; (refine A5.out.mono ?_); rintro e w5 ⟨rfl, V5, h5⟩))
  have h5 : TR W1 w5 q V5 (v3V m) := h5
  have d4 : w5.cell? ⟨b, 4, none⟩ = some (.slice Ar m.resolved.length cr) := (blk_cell (HCell.out _ _ _ h5) 4).trans rfl
  have A6 := Lib.hid (alerts_any h5 (by have := HS.out.v3; omega) bResolved HR.out HS.out.res HS.out.ress)
  rw [show bResolved = (⟨#[114, 101, 115, 111, 108, 118, 101, 100]⟩ : ByteArray) from rfl] at A6
  clear h5 A5 d3
  go_upto_region 8 with (first | (go_at_call 50; (refine A6.out.mono ?_); rintro e w6 ⟨rfl, V6, h6⟩))
  have h6 : TR W1 w6 q V6 (v4V m) := h6
  have A7 := Lib.hid (add_any h6 (by have := HS.out.v4; omega) 0 4 bText text)
  rw [show bText = (⟨#[116, 101, 120, 116]⟩ : ByteArray) from rfl] at A7
  clear h6 A6 d4
  go_upto_region 9 with (first | (go_at_call 48; (refine A7.out.mono ?_); rintro e w7 ⟨rfl, V7, h7⟩))
  have H7 : Hid (TR W1 w7 q V7 (valuesV m text)) := Lib.hid h7
  obtain ⟨x0, -⟩ := cells_of h7.row 0
  clear h7 A7
  go_wp2
  go_ret
  exact ⟨_, rfl, own_base' H7.out.own (by rw [HBb.out]; omega), HB1.out.trans (H7.out.bel.mono (by rw [HBb.out, HZ.out]; omega))⟩
end Go.Proofs.YtllhpkpckjacfaaGreatDoor

/- ref29's Values, walked. -/
namespace Go.Proofs.YtllhpkpckjacfaaGreatDoor
open Go.RowKit Go.Proofs.YtllhpkpckjacfaaGreatDoorW.PrintWords PTemplateFilters
set_option linter.unusedVariables false
set_option linter.unusedSimpArgs false

/-- A row of values of one's own; nothing of what lay there has changed. -/
structure RR (w0 w : World) (V : Value) (l : List Vl) : Prop where
  bel : Below w0.heap.size w0 w
  own : Own w w0.heap.size V l
theorem RR.form {w0 w : World} {V : Value} {l : List Vl} (h : RR w0 w V l) : ∃ p cap, V = .slice p l.length cap := by
  rcases h.own.2 with ⟨h1, h2⟩ | ⟨g, cap, cur, h1, _⟩
  · exact ⟨none, 0, by rw [h1, h2]⟩
  · exact ⟨some ⟨g, 0, none⟩, cap, h1⟩
theorem RR.grown {w0 w w' : World} {V V' : Value} {l : List Vl} {v : Vl} {o : Obj} (h : RR w0 w V l) (hg : (w.alloc o).grownBy w' V.ownBlock) (ho : w'.ownsRow w0.heap.size 74 4 V' (l.length + 1) (vcells l ++ v.cells)) : RR w0 w' V' (l ++ [v]) := by
  refine ⟨pw_below_grown (h.bel.alloc h.bel.size o) _ (by have := h.bel.size; simp; omega) hg (fun k hk => (World.ownsRow.lt h.own k hk).1), ?_⟩
  unfold Own; rw [vcells_append, vcells_one]; simpa using ho
theorem RR.grownD {w0 w w' : World} {V V' : Value} {l : List Vl} {v : Vl} {o : Obj} (h : RR w0 w V l) (hg : ((w.alloc o).drew).grownBy w' V.ownBlock) (ho : w'.ownsRow w0.heap.size 74 4 V' (l.length + 1) (vcells l ++ v.cells)) : RR w0 w' V' (l ++ [v]) := by
  refine ⟨pw_below_grown (below_drew (h.bel.alloc h.bel.size o)) _ (by have := h.bel.size; simp; omega) hg (fun k hk => (World.ownsRow.lt h.own k hk).1), ?_⟩
  unfold Own; rw [vcells_append, vcells_one]; simpa using ho
set_option maxHeartbeats 2000000 in
set_option maxRecDepth 100000 in
theorem labelsr_any {w0 w : World} {V : Value} {l : List Vl} (R : RR w0 w V l) (hl : l.length ≤ 50000) (par : Int) (name : ByteArray) {Vp : Value} {ps : List S40} (hP : PairsC w0 Vp ps) (hp : ps.length ≤ 12) :
    Calls Tryz.prog 51 #[V, .int .i64 par, .string name, Vp] w fun e w' => ∃ V', e = .returned V' ∧ RR w0 w' V' (l ++ labelsV par l.length name ps) := by
  obtain ⟨i0, hi, hz0, hz1, hz2⟩ := info_parts infoV74
  obtain ⟨A, c, rfl, hc, hC⟩ := hP
  obtain ⟨Ap, Ac, rfl⟩ := R.form
  have hown := R.own
  have hsz := R.bel.size
  unfold Own at hown
  have HR := Lib.hid R
  have HC := Lib.hid hC
  clear R hC
  go_enter Tryz.func51, Tryz.ntmps51
  go_wp2_with (at_builtin; refine wpList_append_own _ rfl _ _ 44 rfl w0.heap.size 74 i0 (.agg #[.int .i64 0, .int .u8 0, .string ⟨#[]⟩, .string ⟨#[]⟩]) 4 48 Tryz.underlying44 hi hz0 hz1 hz2 rfl (by decide) _ _ _ rfl (hown.alloc _) ⟨w.heap.size, 0, none⟩ 1 1 [.int .i64 par, .int .u8 6, .string name, .string ⟨#[]⟩] rfl rfl ?c1 ?c2 ?c3 ?c4 ?c5 ?_)
  case c1 =>
    intro j u hj
    have := World.news_of_block (cs := #[.int .i64 par, .int .u8 6, .string name, .string ⟨#[]⟩]) (t := 74) (fr := (0, 0)) (heap_alloc_new w (.cells #[.int .i64 par, .int .u8 6, .string name, .string ⟨#[]⟩] 74)) j u hj
    exact this
  case c2 => intro u hu; simp at hu; rcases hu with rfl | rfl | rfl | rfl <;> rfl
  case c3 => unfold maxLen; omega
  case c4 => omega
  case c5 => simp; omega
  intro v' w2 hown' hgrow hnil
  have HR2 : Hid (RR w0 w2 v' (l ++ labelsV par l.length name [])) := Lib.hid (HR.out.grown hgrow hown')
  clear hown' hgrow hnil hown
  go_wp2_with fail
  go_loopw [0, 10] (fun v0 v10 wr => ∃ j : Nat, v10 = .int .i64 j ∧ j ≤ ps.length ∧ RR w0 wr v0 (l ++ labelsV par l.length name (ps.take j))) (fun _ v _ => ps.length - (intOf v).toNat)
  case atStart => exact ⟨0, rfl, Nat.zero_le _, HR2.out⟩
  case round =>
    obtain ⟨j, rfl, hj, hr⟩ := hrel
    have HRr := Lib.hid hr
    clear hr
    by_cases hlt : j < ps.length
    · have hji : (j : Int) < (ps.length : Int) := by omega
      have hj0 : (0 : Int) ≤ (j : Int) := by omega
      obtain ⟨ad, rfl, hx0, hx1⟩ := pair_at HC.out HRr.out.bel hlt
      have hst := labels_step (par := par) (at_ := l.length) (name := name) hlt
      obtain ⟨x, hx⟩ : ∃ x, ps[j] = x := ⟨_, rfl⟩
      rw [hx] at hx0 hx1 hst
      have HSt := Lib.hid hst
      clear hx hst
      have hlen : (l ++ labelsV par l.length name (ps.take j)).length ≤ 100000 := by rw [List.length_append, labelsV_len, List.length_take]; omega
      obtain ⟨Ar, cr, hVr⟩ := HRr.out.form
      subst hVr
      obtain ⟨n, hn⟩ : ∃ n, (l ++ labelsV par l.length name (ps.take j)).length = n := ⟨_, rfl⟩
      have HN := Lib.hid hn
      have HRn : Hid (RR w0 wr (.slice Ar n cr) (l ++ labelsV par l.length name (ps.take j))) := Lib.hid (by rw [← hn]; exact HRr.out)
      have hownr := HRr.out.own
      unfold Own at hownr
      have hszr := HRr.out.bel.size
      rw [hn] at hownr hlen ⊢
      clear hn
      go_upto_region 6 with (fail)
      go_region_law (refine step_append_lies _ (by rfl) _ _ _ (by rfl) w0.heap.size 74 i0 _ 4 48 Tryz.underlying44 hi hz0 hz1 hz2 rfl (by omega) (.slice Ar n cr) n (vcells (l ++ labelsV par l.length name (ps.take j))) (by rfl) ((hownr.alloc _).drew) ⟨wr.heap.size, 0, none⟩ 1 1 [.int .i64 l.length, .int .u8 4, .string x.f0, .string x.f1] (by rfl) (by rfl) (World.news_of_block (cs := #[.int .i64 l.length, .int .u8 4, .string x.f0, .string x.f1]) (t := 74) (fr := (0, 0)) (heap_alloc_new wr _)) (by intro u hu; simp at hu; rcases hu with rfl | rfl | rfl | rfl <;> rfl) (by omega) (by unfold maxLen; omega) (by omega) (by simp; omega) (wr.heap.size + 1) (by simp) ?_; intro g6 cap6 w3 hown3 hgrow3 hat3 hlt3)
      all_goals
        have H3 : Hid (RR w0 w3 (.slice (some ⟨g6, 0, none⟩) (n + 1) cap6) (l ++ labelsV par l.length name (ps.take j) ++ [⟨l.length, 4, x.f0, x.f1⟩])) := Lib.hid (HRn.out.grownD hgrow3 (by rw [HN.out]; exact hown3))
        clear hown3 hgrow3 hat3 hlt3
        go_simp
        go_wp2
        go_roundw
        case rel => exact ⟨j + 1, by go_num, hlt, by rw [HSt.out, ← List.append_assoc]; exact H3.out⟩
        case measure => simp [intOf]; omega
    · have hje : j = ps.length := by omega
      subst hje
      rw [List.take_length] at HRr
      go_wp2
      go_ret
      exact ⟨_, rfl, HRr.out⟩
set_option maxHeartbeats 2000000 in
set_option maxRecDepth 100000 in
theorem alertsr_any {w0 w : World} {V : Value} {l : List Vl} (R : RR w0 w V l) (hl : l.length ≤ 20000) (name : ByteArray) {Vp : Value} {L : List (List S40)} (hP : ListsC w0 Vp L) (hp : L.length ≤ 80) (h12 : ∀ k (h : k < L.length), L[k].length ≤ 12) :
    Calls Tryz.prog 52 #[V, .string name, Vp] w fun e w' => ∃ V', e = .returned V' ∧ RR w0 w' V' (alertsV name L l) := by
  obtain ⟨i0, hi, hz0, hz1, hz2⟩ := info_parts infoV74
  obtain ⟨A, c, rfl, hc⟩ := hP.form
  obtain ⟨Ap, Ac, rfl⟩ := R.form
  have hown := R.own
  have hsz := R.bel.size
  unfold Own at hown
  have HR := Lib.hid R
  have HP := Lib.hid hP
  have H12 := Lib.hid h12
  clear R hP h12
  go_enter Tryz.func52, Tryz.ntmps52
  go_wp2_with (at_builtin; refine wpList_append_own _ rfl _ _ 44 rfl w0.heap.size 74 i0 (.agg #[.int .i64 0, .int .u8 0, .string ⟨#[]⟩, .string ⟨#[]⟩]) 4 48 Tryz.underlying44 hi hz0 hz1 hz2 rfl (by decide) _ _ _ rfl (hown.alloc _) ⟨w.heap.size, 0, none⟩ 1 1 [.int .i64 0, .int .u8 5, .string name, .string ⟨#[]⟩] rfl rfl ?c1 ?c2 ?c3 ?c4 ?c5 ?_)
  case c1 =>
    intro j u hj
    have := World.news_of_block (cs := #[.int .i64 0, .int .u8 5, .string name, .string ⟨#[]⟩]) (t := 74) (fr := (0, 0)) (heap_alloc_new w (.cells #[.int .i64 0, .int .u8 5, .string name, .string ⟨#[]⟩] 74)) j u hj
    exact this
  case c2 => intro u hu; simp at hu; rcases hu with rfl | rfl | rfl | rfl <;> rfl
  case c3 => unfold maxLen; omega
  case c4 => omega
  case c5 => simp; omega
  intro v' w2 hown' hgrow hnil
  have HR2 : Hid (RR w0 w2 v' (l ++ [⟨0, 5, name, vE⟩])) := Lib.hid (HR.out.grown hgrow hown')
  clear hown' hgrow hnil hown
  go_wp2_with fail
  go_loopw [0, 8] (fun v0 v8 wr => ∃ j : Nat, v8 = .int .i64 j ∧ j ≤ L.length ∧ RR w0 wr v0 (listsV l.length (L.take j) (l ++ [⟨0, 5, name, vE⟩]))) (fun _ v _ => L.length - (intOf v).toNat)
  case atStart => exact ⟨0, rfl, Nat.zero_le _, HR2.out⟩
  case round =>
    obtain ⟨j, rfl, hj, hr⟩ := hrel
    have HRr := Lib.hid hr
    clear hr
    by_cases hlt : j < L.length
    · have hji : (j : Int) < (L.length : Int) := by omega
      have hj0 : (0 : Int) ≤ (j : Int) := by omega
      have hrow := ListsC.below HP.out HRr.out.bel
      obtain ⟨ad, cc, VV, hA, _, hcc, hVV⟩ := hrow.at hlt
      injection hA with hA _ hce
      subst hA
      subst hce
      have hst := lists_step (at_ := l.length) (l := l ++ [⟨0, 5, name, vE⟩]) hlt
      have hx12 := H12.out j hlt
      have hP0 : ∃ VV0, PairsC w0 VV0 L[j] ∧ VV0 = VV := by
        obtain ⟨ad2, cc2, VV2, hA2, _, hcc2, hVV2⟩ := HP.out.at hlt
        injection hA2 with hA2 _ _
        have e := Option.some.inj hA2
        subst e
        exact ⟨VV2, hVV2, Option.some.inj ((pw_cell_below HRr.out.bel hcc2).symm.trans hcc)⟩
      obtain ⟨_, hP0, rfl⟩ := hP0
      obtain ⟨x, hx⟩ : ∃ x, L[j] = x := ⟨_, rfl⟩
      rw [hx] at hst hx12 hP0
      have HSt := Lib.hid hst
      have hlen : (listsV l.length (L.take j) (l ++ [⟨0, 5, name, vE⟩])).length ≤ 50000 := by
        have := listsV_len l.length (L.take j) (l ++ [⟨0, 5, name, vE⟩]) (fun y hy => by
          obtain ⟨k, hk, rfl⟩ := List.mem_iff_getElem.1 (List.mem_of_mem_take hy)
          exact H12.out k hk)
        rw [List.length_take, List.length_append] at this
        simp only [List.length_cons, List.length_nil] at this
        omega
      have HA := Lib.hid (labelsr_any HRr.out hlen (l.length : Int) vE hP0 hx12)
      clear hx hst hx12 hP0 hVV hrow hlen
      rw [show vE = (⟨#[]⟩ : ByteArray) from rfl] at HA
      go_wp2_with fail
      refine HA.out.mono ?_
      rintro e w3 ⟨V3, rfl, h3⟩
      have H3 := Lib.hid h3
      clear h3
      go_wp2
      go_roundw
      case rel => exact ⟨j + 1, by go_num, hlt, by rw [HSt.out]; exact H3.out⟩
      case measure => simp [intOf]; omega
    · have hje : j = L.length := by omega
      subst hje
      rw [List.take_length] at HRr
      go_wp2
      go_ret
      exact ⟨_, rfl, HRr.out⟩
set_option maxHeartbeats 2000000 in
set_option maxRecDepth 100000 in
theorem Valuesr_any {w : World} {m : MsgM} {pre : List Value} (hM : MsgC w m pre) (hS : SmallV m) (text : ByteArray) : Calls Tryz.prog 23 #[.agg pre.toArray, .string text] w (VsPost w (valuesV m text)) := by
  obtain ⟨i0, hi, hz0, hz1, hz2⟩ := info_parts infoV74
  obtain ⟨Vg, Vf, Vr, rfl, hg, hf, hr⟩ := hM
  have hb1 : Below w.heap.size w (w.alloc (.cells #[.string (str m.recv), .string (str m.key), Vg, Vf, Vr] 33)) := below_alloc (Below.refl _ _) _
  have hbx : (w.alloc (.cells #[.string (str m.recv), .string (str m.key), Vg, Vf, Vr] 33)).heap[w.heap.size]? = some (.cells #[.string (str m.recv), .string (str m.key), Vg, Vf, Vr] 33 (0, 0)) := heap_alloc_new w _
  obtain ⟨Ag, cg, rfl, hcg, hCg⟩ := hg
  obtain ⟨Af, cf, rfl, hcf⟩ := hf.form
  obtain ⟨Ar, cr, rfl, hcr⟩ := hr.form
  have hz : (w.alloc (.cells #[.string (str m.recv), .string (str m.key), .slice Ag m.group.length cg, .slice Af m.firing.length cf, .slice Ar m.resolved.length cr] 33)).heap.size = w.heap.size + 1 := by simp
  have HB1 := Lib.hid hb1
  have HBx := Lib.hid hbx
  have HG := Lib.hid (PairsC.below ⟨Ag, cg, rfl, hcg, hCg⟩ hb1)
  have HF := Lib.hid (ListsC.below hf hb1)
  have HR := Lib.hid (ListsC.below hr hb1)
  have HZ := Lib.hid hz
  have HS := Lib.hid hS
  clear hCg hf hr hb1 hbx hS hz
  go_enter Tryz.func23, Tryz.ntmps23
  go_upto_region 1 with (fail)
  generalize hW1 : w.alloc _ = W1 at HB1 HBx HG HF HR HZ ⊢
  obtain ⟨b, hb⟩ : ∃ b, w.heap.size = b := ⟨_, rfl⟩
  have HBb := Lib.hid hb
  rw [hb] at HBx HZ ⊢
  clear hW1 hb
  have d0 : W1.cell? ⟨b, 0, none⟩ = some (.string (str m.recv)) := (blk_cell HBx.out 0).trans rfl
  have d1 : W1.cell? ⟨b, 1, none⟩ = some (.string (str m.key)) := (blk_cell HBx.out 1).trans rfl
  go_upto_region 2 with (fail)
  have hRR : RR W1 (W1.alloc (.cells #[.int .i64 (-1), .int .u8 6, .string ⟨#[]⟩, .string ⟨#[]⟩, .int .i64 0, .int .u8 4, .string ⟨#[114, 101, 99, 101, 105, 118, 101, 114]⟩, .string (str m.recv), .int .i64 0, .int .u8 4, .string ⟨#[107, 101, 121]⟩, .string (str m.key)] 74)) (.slice (some ⟨W1.heap.size, 0, none⟩) 3 3) (v1V m) :=
    ⟨below_alloc (Below.refl _ _) _, World.ownsRow_lit (size := 4) W1 #[.int .i64 (-1), .int .u8 6, .string ⟨#[]⟩, .string ⟨#[]⟩, .int .i64 0, .int .u8 4, .string ⟨#[114, 101, 99, 101, 105, 118, 101, 114]⟩, .string (str m.recv), .int .i64 0, .int .u8 4, .string ⟨#[107, 101, 121]⟩, .string (str m.key)] 3 (Nat.le_refl _) (by decide) rfl⟩
  generalize hW2 : W1.alloc _ = W2 at hRR ⊢
  have HRR := Lib.hid hRR
  clear hW2 hRR
  have hcell : ∀ (w2 : World) (V : Value) (l : List Vl), RR W1 w2 V l → w2.heap[b]? = some (.cells #[.string (str m.recv), .string (str m.key), .slice Ag m.group.length cg, .slice Af m.firing.length cf, .slice Ar m.resolved.length cr] 33 (0, 0)) := fun _ _ _ R => blk_below HBx.out R.bel
  have HCell := Lib.hid hcell
  clear hcell d0 d1
  have d2 : W2.cell? ⟨b, 2, none⟩ = some (.slice Ag m.group.length cg) := (blk_cell (HCell.out _ _ _ HRR.out) 2).trans rfl
  have A4 := Lib.hid (labelsr_any HRR.out (by simp [v1V]) 0 bGroup HG.out HS.out.grp)
  rw [show bGroup = (⟨#[103, 114, 111, 117, 112]⟩ : ByteArray) from rfl] at A4
  go_upto_region 3 with (first | (go_at_call 51; (refine A4.out.mono ?_); rintro e w4 ⟨V4, rfl, h4⟩))
  have h4 : RR W1 w4 V4 (v2V m) := h4
  have d3 : w4.cell? ⟨b, 3, none⟩ = some (.slice Af m.firing.length cf) := (blk_cell (HCell.out _ _ _ h4) 3).trans rfl
  have A5 := Lib.hid (alertsr_any h4 (by have := v2V_len HS.out.grp; omega) bFiring HF.out HS.out.fir HS.out.firs)
  rw [show bFiring = (⟨#[102, 105, 114, 105, 110, 103]⟩ : ByteArray) from rfl] at A5
  clear h4 A4 d2
  go_upto_region 4 with (first | (go_at_call 52; (refine A5.out.mono ?_); rintro e w5 ⟨V5, rfl, h5⟩))
  have h5 : RR W1 w5 V5 (v3V m) := h5
  have d4 : w5.cell? ⟨b, 4, none⟩ = some (.slice Ar m.resolved.length cr) := (blk_cell (HCell.out _ _ _ h5) 4).trans rfl
  have A6 := Lib.hid (alertsr_any h5 (by have := HS.out.v3; omega) bResolved HR.out HS.out.res HS.out.ress)
  rw [show bResolved = (⟨#[114, 101, 115, 111, 108, 118, 101, 100]⟩ : ByteArray) from rfl] at A6
  clear h5 A5 d3
  go_upto_region 5 with (first | (go_at_call 52; (refine A6.out.mono ?_); rintro e w6 ⟨V6, rfl, h6⟩))
  have h6 : RR W1 w6 V6 (v4V m) := h6
  have hv4 := HS.out.v4
  have hown := h6.own
  unfold Own at hown
  have hsz := h6.bel.size
  obtain ⟨n, hn⟩ : ∃ n, (v4V m).length = n := ⟨_, rfl⟩
  have HN := Lib.hid hn
  rw [hn] at hown hv4
  have H6 := Lib.hid h6
  clear hn h6 A6 d4
  go_wp2_with (at_builtin; refine wpList_append_own _ rfl _ _ 44 rfl W1.heap.size 74 i0 (.agg #[.int .i64 0, .int .u8 0, .string ⟨#[]⟩, .string ⟨#[]⟩]) 4 48 Tryz.underlying44 hi hz0 hz1 hz2 rfl (by decide) _ _ _ rfl (hown.alloc _) ⟨w6.heap.size, 0, none⟩ 1 1 [.int .i64 0, .int .u8 4, .string ⟨#[116, 101, 120, 116]⟩, .string text] rfl rfl ?c1 ?c2 ?c3 ?c4 ?c5 ?_)
  case c1 =>
    intro j u hj
    have := World.news_of_block (cs := #[.int .i64 0, .int .u8 4, .string ⟨#[116, 101, 120, 116]⟩, .string text]) (t := 74) (fr := (0, 0)) (heap_alloc_new w6 (.cells #[.int .i64 0, .int .u8 4, .string ⟨#[116, 101, 120, 116]⟩, .string text] 74)) j u hj
    exact this
  case c2 => intro u hu; simp at hu; rcases hu with rfl | rfl | rfl | rfl <;> rfl
  case c3 => unfold maxLen; omega
  case c4 => omega
  case c5 => simp; omega
  intro v' w7 hown' hgrow hnil
  have H7 : Hid (RR W1 w7 v' (valuesV m text)) := Lib.hid (H6.out.grown hgrow (by rw [HN.out]; exact hown'))
  clear hown' hgrow hnil hown
  go_wp2
  go_ret
  exact ⟨_, rfl, own_base' H7.out.own (by rw [HBb.out, HZ.out]; omega), HB1.out.trans (H7.out.bel.mono (by rw [HBb.out, HZ.out]; omega))⟩
end Go.Proofs.YtllhpkpckjacfaaGreatDoor

/- The reference's Light at 1500: it answers, and what is light is small. -/
namespace Go.Proofs.YtllhpkpckjacfaaGreatDoor
open Go.RowKit Go.Proofs.YtllhpkpckjacfaaGreatDoorW.PrintWords PTemplateFilters
set_option linter.unusedVariables false
set_option linter.unusedSimpArgs false

/-- It answers. -/
structure LightV (m : MsgM) : Prop where
  fir : m.firing.length ≤ 80
  res : m.resolved.length ≤ 80
  grp : m.group.length ≤ 12
  firs : ∀ k (h : k < m.firing.length), m.firing[k].length ≤ 12
  ress : ∀ k (h : k < m.resolved.length), m.resolved[k].length ≤ 12
def LvOk (m : MsgM) (i : Nat) : Prop := (∀ k (h : k < m.firing.length), k < i → m.firing[k].length ≤ 12) ∧ (∀ k (h : k < m.resolved.length), m.firing.length + k < i → m.resolved[k].length ≤ 12)
theorem LvOk.fir {m : MsgM} {i : Nat} (h : LvOk m i) {l : List S40} (hi : i < m.firing.length) (hl : m.firing[i] = l) (h12 : ¬ 12 < l.length) : LvOk m (i + 1) := by
  refine ⟨fun k hk hki => ?_, fun k hk hki => h.2 k hk (by omega)⟩
  by_cases e : k = i
  · subst e; rw [hl]; omega
  · exact h.1 k hk (by omega)
theorem LvOk.res {m : MsgM} {i k : Nat} (h : LvOk m i) {l : List S40} (hi : ¬ i < m.firing.length) (hk : i - m.firing.length = k) (hkr : k < m.resolved.length) (hl : m.resolved[k] = l) (h12 : ¬ 12 < l.length) : LvOk m (i + 1) := by
  refine ⟨fun k2 hk2 hki => h.1 k2 hk2 (by omega), fun k2 hk2 hki => ?_⟩
  by_cases e : k2 = k
  · subst e; rw [hl]; omega
  · exact h.2 k2 hk2 (by omega)
def LvPost (m : MsgM) (w : World) (e : Ending) (w' : World) : Prop := ∃ b, e = .returned (.bool b) ∧ (b = true → LightV m) ∧ Below w.heap.size w w'
def LvOut (m : MsgM) (w : World) (F R : Nat) (v5 v6 : Value) (wr : World) : Prop := ∃ n i : Nat, v5 = .int .i64 n ∧ v6 = .int .i64 i ∧ n ≤ 1500 ∧ i ≤ F + R ∧ LvOk m i ∧ Below w.heap.size w wr
def LvIn (w : World) (l : List S40) (v5 v9 : Value) (wr : World) : Prop := ∃ n j : Nat, v5 = .int .i64 n ∧ v9 = .int .i64 j ∧ n ≤ 1500 ∧ j ≤ l.length ∧ Below w.heap.size w wr
set_option maxRecDepth 100000 in
set_option maxHeartbeats 1600000 in
theorem lightv_any {w : World} {m : MsgM} {pre : List Value} (hM : MsgC w m pre) : Calls Tryz.prog 16 #[.agg pre.toArray, .int .i64 1500] w (LvPost m w) := by
  obtain ⟨Vg, Vf, Vr, rfl, hg, hf, hr⟩ := hM
  obtain ⟨Af, cf, rfl, hcf⟩ := hf.form
  obtain ⟨Ar, cr, rfl, hcr⟩ := hr.form
  obtain ⟨Ag, cg, rfl, hcg, hCg⟩ := hg
  have hks := str_size m.key
  have hrs := str_size m.recv
  have hb1 : Below w.heap.size w (w.alloc (.cells #[.string (str m.recv), .string (str m.key), .slice Ag m.group.length cg, .slice Af m.firing.length cf, .slice Ar m.resolved.length cr] 33)) := below_alloc (Below.refl _ _) _
  have hbx : (w.alloc (.cells #[.string (str m.recv), .string (str m.key), .slice Ag m.group.length cg, .slice Af m.firing.length cf, .slice Ar m.resolved.length cr] 33)).heap[w.heap.size]? = some (.cells #[.string (str m.recv), .string (str m.key), .slice Ag m.group.length cg, .slice Af m.firing.length cf, .slice Ar m.resolved.length cr] 33 (0, 0)) := heap_alloc_new w _
  have HF := Lib.hid hf
  have HR := Lib.hid hr
  have HB1 := Lib.hid hb1
  have HBx := Lib.hid hbx
  clear hf hr hCg hb1 hbx
  go_enter Tryz.func16, Tryz.ntmps16
  go_upto_region 1 with (fail)
  generalize hW1 : w.alloc _ = W1 at HB1 HBx ⊢
  have d0 : W1.cell? ⟨w.heap.size, 0, none⟩ = some (.string (str m.recv)) := (blk_cell HBx.out 0).trans rfl
  have d1 : W1.cell? ⟨w.heap.size, 1, none⟩ = some (.string (str m.key)) := (blk_cell HBx.out 1).trans rfl
  have d2 : W1.cell? ⟨w.heap.size, 2, none⟩ = some (.slice Ag m.group.length cg) := (blk_cell HBx.out 2).trans rfl
  have d3 : W1.cell? ⟨w.heap.size, 3, none⟩ = some (.slice Af m.firing.length cf) := (blk_cell HBx.out 3).trans rfl
  have d4 : W1.cell? ⟨w.heap.size, 4, none⟩ = some (.slice Ar m.resolved.length cr) := (blk_cell HBx.out 4).trans rfl
  clear hW1
  go_cut [37] (fun v37 wx => v37 = .bool (decide (80 < m.firing.length ∨ 80 < m.resolved.length ∨ 12 < m.group.length ∨ 2000 < m.key.length ∨ 100 < m.recv.length)) ∧ wx = W1)
  case first =>
    obtain ⟨B, hB⟩ : ∃ B, decide (80 < m.firing.length ∨ 80 < m.resolved.length ∨ 12 < m.group.length ∨ 2000 < m.key.length ∨ 100 < m.recv.length) = B := ⟨_, rfl⟩
    have HBo := Lib.hid hB
    clear hB
    by_cases h0 : 80 < m.firing.length
    · have h0i : (80 : Int) < (m.firing.length : Int) := by omega
      have hD : B = true := by rw [← HBo.out]; exact decide_eq_true (by omega)
      subst hD
      clear h0
      go_wp2
      go_meet
      case rel => exact ⟨by rw [HBo.out], rfl⟩
    · have h0i : ¬ (80 : Int) < (m.firing.length : Int) := by omega
      by_cases h1 : 80 < m.resolved.length
      · have h1i : (80 : Int) < (m.resolved.length : Int) := by omega
        have hD : B = true := by rw [← HBo.out]; exact decide_eq_true (by omega)
        subst hD
        clear h0 h1
        go_wp2
        go_meet
        case rel => exact ⟨by rw [HBo.out], rfl⟩
      · have h1i : ¬ (80 : Int) < (m.resolved.length : Int) := by omega
        by_cases h2 : 12 < m.group.length
        · have h2i : (12 : Int) < (m.group.length : Int) := by omega
          have hD : B = true := by rw [← HBo.out]; exact decide_eq_true (by omega)
          subst hD
          clear h0 h1 h2
          go_wp2
          go_meet
          case rel => exact ⟨by rw [HBo.out], rfl⟩
        · have h2i : ¬ (12 : Int) < (m.group.length : Int) := by omega
          by_cases h3 : 2000 < m.key.length
          · have h3i : (2000 : Int) < (m.key.length : Int) := by omega
            have hD : B = true := by rw [← HBo.out]; exact decide_eq_true (by omega)
            subst hD
            clear h0 h1 h2 h3
            go_wp2
            go_meet
            case rel => exact ⟨by rw [HBo.out], rfl⟩
          · have h3i : ¬ (2000 : Int) < (m.key.length : Int) := by omega
            by_cases h4 : 100 < m.recv.length
            · have h4i : (100 : Int) < (m.recv.length : Int) := by omega
              have hD : B = true := by rw [← HBo.out]; exact decide_eq_true (by omega)
              subst hD
              clear h0 h1 h2 h3 h4
              go_wp2
              go_meet
              case rel => exact ⟨by rw [HBo.out], rfl⟩
            · have h4i : ¬ (100 : Int) < (m.recv.length : Int) := by omega
              have hD : B = false := by rw [← HBo.out]; exact decide_eq_false (by omega)
              subst hD
              clear h0 h1 h2 h3 h4
              go_wp2
              go_meet
              case rel => exact ⟨by rw [HBo.out], rfl⟩
  case rest =>
    obtain ⟨rfl, hwx⟩ := hcut
    rw [hwx]
    clear hwx
    by_cases hlong : 80 < m.firing.length ∨ 80 < m.resolved.length ∨ 12 < m.group.length ∨ 2000 < m.key.length ∨ 100 < m.recv.length
    · rw [decide_eq_true hlong]
      go_wp2
      go_ret
      first | exact ⟨_, rfl, (fun h => by cases h), HB1.out⟩ | exact HB1.out
    · rw [decide_eq_false hlong]
      have hF80 : m.firing.length ≤ 80 := by omega
      have hR80 : m.resolved.length ≤ 80 := by omega
      have HLong := Lib.hid hlong
      clear hlong
      have hws : IntKind.i64.wrap ((m.firing.length : Int) + (m.resolved.length : Int)) = (m.firing.length : Int) + (m.resolved.length : Int) := by rw [IntKind.wrap_i64]; omega
      go_wp2_with fail
      go_loopw [5, 6] (fun v5 v6 wr => LvOut m W1 m.firing.length m.resolved.length v5 v6 wr) (fun _ v _ => m.firing.length + m.resolved.length - (intOf v).toNat)
      case atStart => exact ⟨0, 0, rfl, rfl, by omega, by omega, ⟨fun k hk h => absurd h (by omega), fun k hk h => absurd h (by omega)⟩, Below.refl _ _⟩
      case round =>
        obtain ⟨n, i, rfl, rfl, hn, hi, hok, hbo⟩ := hrel
        have HOk := Lib.hid hok
        clear hok
        have HBo := Lib.hid hbo
        have e3 := pw_cell_below hbo d3
        have e4 := pw_cell_below hbo d4
        clear hbo
        have hwi : IntKind.i64.wrap ((i : Int) + 1) = ((i + 1 : Nat) : Int) := by rw [IntKind.wrap_i64]; omega
        by_cases hif : i < m.firing.length + m.resolved.length
        · have hifi : (i : Int) < (m.firing.length : Int) + (m.resolved.length : Int) := by omega
          by_cases hiF : i < m.firing.length
          · have hiFi : (i : Int) < (m.firing.length : Int) := by omega
            have hi0 : (0 : Int) ≤ (i : Int) := by omega
            go_upto_region 11 with (fail)
            have hrow := ListsC.below HF.out (HB1.out.trans (HBo.out.mono HB1.out.size))
            obtain ⟨ad1, c9, V9, hA9, _, hc9, hV9⟩ := hrow.at hiF
            injection hA9 with hA9 _ hcc
            subst hA9
            subst hcc
            obtain ⟨Aj, cj, rfl, hcj, hCj⟩ := hV9
            obtain ⟨lj, hlj⟩ : ∃ l, m.firing[i] = l := ⟨_, rfl⟩
            rw [hlj] at hc9 hCj hcj
            have HC := Lib.hid hCj
            have HOn : Hid (¬ 12 < lj.length → LvOk m (i + 1)) := Lib.hid (HOk.out.fir hiF hlj)
            clear hCj hrow hlj
            by_cases h12 : 12 < lj.length
            · have h12i : (12 : Int) < (lj.length : Int) := by omega
              go_wp2
              go_ret
              first | exact ⟨_, rfl, (fun h => by cases h), HB1.out.trans (HBo.out.mono HB1.out.size)⟩ | exact HB1.out.trans (HBo.out.mono HB1.out.size)
            · have h12i : ¬ (12 : Int) < (lj.length : Int) := by omega
              have HOn := Lib.hid (HOn.out h12)
              go_wp2_with fail
              go_loopw [5, 9] (fun v5 v9 wi => LvIn wr lj v5 v9 wi) (fun _ v _ => lj.length - (intOf v).toNat)
              case atStart => exact ⟨n, 0, rfl, rfl, hn, Nat.zero_le _, Below.refl _ _⟩
              case round =>
                obtain ⟨n2, j, rfl, rfl, hn2, hj, hbi⟩ := hrel
                have HBi := Lib.hid hbi
                have y9 := pw_cell_below hbi hc9
                have yq3 := pw_cell_below hbi e3
                have yq4 := pw_cell_below hbi e4
                by_cases hjl : j < lj.length
                · have hji : (j : Int) < (lj.length : Int) := by omega
                  have hj0 : (0 : Int) ≤ (j : Int) := by omega
                  obtain ⟨ad2, rfl, hx0, hx1⟩ := pair_at HC.out hbi hjl
                  obtain ⟨x, hx⟩ : ∃ x, lj[j] = x := ⟨_, rfl⟩
                  rw [hx] at hx0 hx1
                  obtain ⟨mv, hmv⟩ : ∃ mv : Nat, min (x.f1.size : Int) 1501 = (mv : Int) ∧ mv ≤ 1501 := by
                    by_cases hm : x.f1.size ≤ 1501
                    · exact ⟨x.f1.size, Int.min_eq_left (by omega), hm⟩
                    · exact ⟨1501, Int.min_eq_right (by omega), Nat.le_refl _⟩
                  obtain ⟨hmv, hmv2⟩ := hmv
                  have hw1 : IntKind.i64.wrap ((j : Int) + 1) = ((j + 1 : Nat) : Int) := by rw [IntKind.wrap_i64]; omega
                  have hw2 : IntKind.i64.wrap ((n2 : Int) + (mv : Int)) = ((n2 + mv : Nat) : Int) := by rw [IntKind.wrap_i64]; omega
                  have hw3 : IntKind.i64.wrap ((1500 : Int) + 1) = 1501 := by rw [IntKind.wrap_i64]; omega
                  clear hx hbi
                  by_cases hov : 1500 < n2 + mv
                  · have hovi : (1500 : Int) < ((n2 + mv : Nat) : Int) := by omega
                    go_wp2
                    go_ret
                    first | exact ⟨_, rfl, (fun h => by cases h), HB1.out.trans ((HBo.out.trans (HBi.out.mono HBo.out.size)).mono HB1.out.size)⟩ | exact HB1.out.trans ((HBo.out.trans (HBi.out.mono HBo.out.size)).mono HB1.out.size)
                  · have hovi : ¬ (1500 : Int) < ((n2 + mv : Nat) : Int) := by omega
                    go_wp2
                    go_roundw
                    case rel => exact ⟨n2 + mv, j + 1, rfl, rfl, by omega, hjl, HBi.out⟩
                    case measure => simp [intOf]; omega
                · have hji : ¬ (j : Int) < (lj.length : Int) := by omega
                  clear hbi
                  go_wp2
                  go_roundw
                  case rel => exact ⟨n2, i + 1, rfl, rfl, hn2, by omega, HOn.out, HBo.out.trans (HBi.out.mono HBo.out.size)⟩
                  case measure => simp [intOf]; omega
          · have hiFi : ¬ (i : Int) < (m.firing.length : Int) := by omega
            obtain ⟨k, hk⟩ : ∃ k, i - m.firing.length = k := ⟨_, rfl⟩
            have hkR : k < m.resolved.length := by omega
            have hki : (k : Int) < (m.resolved.length : Int) := by omega
            have hk0 : (0 : Int) ≤ (k : Int) := by omega
            have hwk : IntKind.i64.wrap ((i : Int) - (m.firing.length : Int)) = (k : Int) := by rw [IntKind.wrap_i64]; omega
            have HK := Lib.hid hk
            clear hk
            go_upto_region 11 with (fail)
            have hrow := ListsC.below HR.out (HB1.out.trans (HBo.out.mono HB1.out.size))
            obtain ⟨ad1, c9, V9, hA9, _, hc9, hV9⟩ := hrow.at hkR
            injection hA9 with hA9 _ hcc
            subst hA9
            subst hcc
            obtain ⟨Aj, cj, rfl, hcj, hCj⟩ := hV9
            obtain ⟨lj, hlj⟩ : ∃ l, m.resolved[k] = l := ⟨_, rfl⟩
            rw [hlj] at hc9 hCj hcj
            have HC := Lib.hid hCj
            have HOn : Hid (¬ 12 < lj.length → LvOk m (i + 1)) := Lib.hid (HOk.out.res hiF HK.out hkR hlj)
            clear hCj hrow hlj
            by_cases h12 : 12 < lj.length
            · have h12i : (12 : Int) < (lj.length : Int) := by omega
              go_wp2
              go_ret
              first | exact ⟨_, rfl, (fun h => by cases h), HB1.out.trans (HBo.out.mono HB1.out.size)⟩ | exact HB1.out.trans (HBo.out.mono HB1.out.size)
            · have h12i : ¬ (12 : Int) < (lj.length : Int) := by omega
              have HOn := Lib.hid (HOn.out h12)
              go_wp2_with fail
              go_loopw [5, 9] (fun v5 v9 wi => LvIn wr lj v5 v9 wi) (fun _ v _ => lj.length - (intOf v).toNat)
              case atStart => exact ⟨n, 0, rfl, rfl, hn, Nat.zero_le _, Below.refl _ _⟩
              case round =>
                obtain ⟨n2, j, rfl, rfl, hn2, hj, hbi⟩ := hrel
                have HBi := Lib.hid hbi
                have y9 := pw_cell_below hbi hc9
                have yq3 := pw_cell_below hbi e3
                have yq4 := pw_cell_below hbi e4
                by_cases hjl : j < lj.length
                · have hji : (j : Int) < (lj.length : Int) := by omega
                  have hj0 : (0 : Int) ≤ (j : Int) := by omega
                  obtain ⟨ad2, rfl, hx0, hx1⟩ := pair_at HC.out hbi hjl
                  obtain ⟨x, hx⟩ : ∃ x, lj[j] = x := ⟨_, rfl⟩
                  rw [hx] at hx0 hx1
                  obtain ⟨mv, hmv⟩ : ∃ mv : Nat, min (x.f1.size : Int) 1501 = (mv : Int) ∧ mv ≤ 1501 := by
                    by_cases hm : x.f1.size ≤ 1501
                    · exact ⟨x.f1.size, Int.min_eq_left (by omega), hm⟩
                    · exact ⟨1501, Int.min_eq_right (by omega), Nat.le_refl _⟩
                  obtain ⟨hmv, hmv2⟩ := hmv
                  have hw1 : IntKind.i64.wrap ((j : Int) + 1) = ((j + 1 : Nat) : Int) := by rw [IntKind.wrap_i64]; omega
                  have hw2 : IntKind.i64.wrap ((n2 : Int) + (mv : Int)) = ((n2 + mv : Nat) : Int) := by rw [IntKind.wrap_i64]; omega
                  have hw3 : IntKind.i64.wrap ((1500 : Int) + 1) = 1501 := by rw [IntKind.wrap_i64]; omega
                  clear hx hbi
                  by_cases hov : 1500 < n2 + mv
                  · have hovi : (1500 : Int) < ((n2 + mv : Nat) : Int) := by omega
                    go_wp2
                    go_ret
                    first | exact ⟨_, rfl, (fun h => by cases h), HB1.out.trans ((HBo.out.trans (HBi.out.mono HBo.out.size)).mono HB1.out.size)⟩ | exact HB1.out.trans ((HBo.out.trans (HBi.out.mono HBo.out.size)).mono HB1.out.size)
                  · have hovi : ¬ (1500 : Int) < ((n2 + mv : Nat) : Int) := by omega
                    go_wp2
                    go_roundw
                    case rel => exact ⟨n2 + mv, j + 1, rfl, rfl, by omega, hjl, HBi.out⟩
                    case measure => simp [intOf]; omega
                · have hji : ¬ (j : Int) < (lj.length : Int) := by omega
                  clear hbi
                  go_wp2
                  go_roundw
                  case rel => exact ⟨n2, i + 1, rfl, rfl, hn2, by omega, HOn.out, HBo.out.trans (HBi.out.mono HBo.out.size)⟩
                  case measure => simp [intOf]; omega
        · have hifi : ¬ (i : Int) < (m.firing.length : Int) + (m.resolved.length : Int) := by omega
          have HG := Lib.hid (show m.group.length ≤ 12 by have := HLong.out; omega)
          go_wp2
          go_ret
          first
            | exact ⟨_, rfl, (fun _ => ⟨hF80, hR80, HG.out, fun k hk => HOk.out.1 k hk (by omega), fun k hk => HOk.out.2 k hk (by omega)⟩), HB1.out.trans (HBo.out.mono HB1.out.size)⟩
            | exact ⟨⟨hF80, hR80, HG.out, fun k hk => HOk.out.1 k hk (by omega), fun k hk => HOk.out.2 k hk (by omega)⟩, HB1.out.trans (HBo.out.mono HB1.out.size)⟩
end Go.Proofs.YtllhpkpckjacfaaGreatDoor

/- Out of the print of PayloadValues. -/
namespace Go.Proofs.YtllhpkpckjacfaaGreatDoor.PTemplateFilters
open Go.RowKit Go.Proofs.YtllhpkpckjacfaaGreatDoorW.PrintWords Go.Proofs.YtllhpkpckjacfaaGreatDoorW.PrintLast Go.Proofs.YtllhpkpckjacfaaGreatDoorW.PrintMore
attribute [local go_sem] max2_int min2_int max_two min_two max_three min_three max_four min_four   -- for this text's walks alone
set_option linter.unusedVariables false
set_option linter.unusedSimpArgs false

/-! #### struct type 74 -/
structure S74 where
  f0 : Int
  f1 : Int
  f2 : ByteArray
  f3 : ByteArray
def z74 : S74 := ⟨(0 : Int), (0 : Int), (⟨#[]⟩ : ByteArray), (⟨#[]⟩ : ByteArray)⟩
def k74 : Kd S74 := Kd.iso (Kd.pair (Kd.int .i64) (Kd.pair (Kd.int .u8) (Kd.pair Kd.string Kd.string))) (fun x : S74 => (x.f0, x.f1, x.f2, x.f3))
theorem k74_open {w : World} {x : S74} {cs : List Value} (h : k74.K w x cs) : cs = [.int .i64 x.f0, .int .u8 x.f1, .string x.f2, .string x.f3] := by
  obtain ⟨_, _, rfl, rfl, ⟨_, _, rfl, rfl, ⟨_, _, rfl, rfl, rfl⟩⟩⟩ := h
  exact rfl
theorem k74_openM {w : World} {base : Nat} {ok : Nat → Prop} {x : S74} {cs : List Value} (h : k74.M w base ok x cs) : cs = [.int .i64 x.f0, .int .u8 x.f1, .string x.f2, .string x.f3] := by
  obtain ⟨_, _, rfl, rfl, ⟨_, _, rfl, rfl, ⟨_, _, rfl, rfl, rfl⟩⟩⟩ := h
  exact rfl
theorem k74_mk (w : World) (x : S74)  : k74.K w x [.int .i64 x.f0, .int .u8 x.f1, .string x.f2, .string x.f3] := ⟨[.int .i64 x.f0], [.int .u8 x.f1, .string x.f2, .string x.f3], rfl, rfl, ⟨[.int .u8 x.f1], [.string x.f2, .string x.f3], rfl, rfl, ⟨[.string x.f2], [.string x.f3], rfl, rfl, rfl⟩⟩⟩
theorem k74_mkM (w : World) (base : Nat) (ok : Nat → Prop) (x : S74)  : k74.M w base ok x [.int .i64 x.f0, .int .u8 x.f1, .string x.f2, .string x.f3] := ⟨[.int .i64 x.f0], [.int .u8 x.f1, .string x.f2, .string x.f3], rfl, rfl, ⟨[.int .u8 x.f1], [.string x.f2, .string x.f3], rfl, rfl, ⟨[.string x.f2], [.string x.f3], rfl, rfl, rfl⟩⟩⟩
theorem k74_mkF (W : World) (ok : Nat → Prop) (x : S74) : Kd.FK k74 W ok x [.int .i64 x.f0, .int .u8 x.f1, .string x.f2, .string x.f3] := fun W2 _ => k74_mk W2 x
def rd_T74 (xs : List S74) (i : Int) : S74 := xs.getD i.toNat z74
theorem at_T74 {w : World} {A : Option Addr} {n : Nat} {xs : List S74} (h : Kd.C k74 w A n xs) (i : Int) (h0 : 0 ≤ i) (h1 : i < n) : ∃ ad , A = some ad ∧ w.cell? (ad.add (i.toNat * 4)) = some (.int .i64 (rd_T74 xs i).f0) ∧ w.cell? ⟨(ad.add (i.toNat * 4)).block, (ad.add (i.toNat * 4)).off + 1, none⟩ = some (.int .u8 (rd_T74 xs i).f1) ∧ w.cell? ⟨(ad.add (i.toNat * 4)).block, (ad.add (i.toNat * 4)).off + 2, none⟩ = some (.string (rd_T74 xs i).f2) ∧ w.cell? ⟨(ad.add (i.toNat * 4)).block, (ad.add (i.toNat * 4)).off + 3, none⟩ = some (.string (rd_T74 xs i).f3) := by
  obtain ⟨ad, c, e, _, hK, hc0⟩ := Kd.C_get h z74 i h0 h1
  have hc : ∀ j u, c[j]? = some u → w.cell? (ad.add (i.toNat * 4 + j)) = some u := hc0
  obtain rfl := k74_open hK
  exact ⟨ad, e, hc 0 _ rfl, by rw [← add_field _ _ 1 (by omega)]; exact hc 1 _ rfl, by rw [← add_field _ _ 2 (by omega)]; exact hc 2 _ rfl, by rw [← add_field _ _ 3 (by omega)]; exact hc 3 _ rfl⟩



theorem eqA74 (d : Nat) (w : World) (x0 y0 : Int) (x1 y1 : Int) (x2 y2 : ByteArray) (x3 y3 : ByteArray) :
    (Op.equalIn (d + 2) 74 (.agg #[.int .i64 x0, .int .u8 x1, .string x2, .string x3]) (.agg #[.int .i64 y0, .int .u8 y1, .string y2, .string y3])).run Tryz.prog w = .ok (x0 == y0 && (x1 == y1 && (x2.toList == y2.toList && (x3.toList == y3.toList)))) w := by
  refine eqA_of Tryz.underlying74 (by kernel_rfl) ?_
  refine eqf_cons (by rfl) (by go_simp; rfl) (by go_simp; rfl) (by go_simp) ?_
  refine eqf_cons (by rfl) (by go_simp; rfl) (by go_simp; rfl) (by go_simp) ?_
  refine eqf_cons (by rfl) (by go_simp; rfl) (by go_simp; rfl) (by go_simp) ?_
  exact eqf_last (by rfl) (by go_simp; rfl) (by go_simp; rfl) (by go_simp)
attribute [local go_sem high] eqA74

/-! ### watchfireref24_Same: function 21 -/
def watchfireref24_Same.l0 : Nat → List (S74) → List (S74) → Int → Option (Bool)
  | 0, _, _, _ => none
  | k + 1, x0, x1, x5 => if x5 < (x0.length : Int) then (if 0 ≤ x5 then (if x5 < (x1.length : Int) then (if (!(((rd_T74 x0 x5).f0) == ((rd_T74 x1 x5).f0)) || (!(((rd_T74 x0 x5).f1) == ((rd_T74 x1 x5).f1)) || (!((((rd_T74 x0 x5).f2).toList) == (((rd_T74 x1 x5).f2).toList)) || (!((((rd_T74 x0 x5).f3).toList) == (((rd_T74 x1 x5).f3).toList)))))) = true then (some false) else (watchfireref24_Same.l0 k x0 x1 (wrap64 (x5 + 1)))) else (none)) else (none)) else (some true)
def watchfireref24_Same.f (k : Nat) (l0 : List (S74)) (l1 : List (S74)) : Option (Bool) := if (l0.length : Int) = (l1.length : Int) then (watchfireref24_Same.l0 k l0 l1 0) else (some false)
theorem watchfireref24_Same.mono_l : ∀ k, (∀ y0 y1 y2, LeO (watchfireref24_Same.l0 k y0 y1 y2) (watchfireref24_Same.l0 (k + 1) y0 y1 y2))
  | 0 => fun _ _ _ r h => by simp [watchfireref24_Same.l0] at h
  | k + 1 => by
    have ih0 := watchfireref24_Same.mono_l k
    · intro y0 y1 y2
      unfold watchfireref24_Same.l0
      repeat' first
      | (with_reducible exact ih0 _ _ _)
      | (with_reducible exact LeO.refl _)
      | (with_reducible exact LeO.none _)
      | (with_reducible refine LeO.ite ?_ ?_)
      | (with_reducible refine LeO.bind ?_ (fun _ => ?_))
      | exact ih0 _ _ _
      | exact LeO.none _
      | refine LeO.ite ?_ ?_
      | refine LeO.bind ?_ (fun _ => ?_)
theorem watchfireref24_Same.mono : ∀ a0 a1 k, LeO (watchfireref24_Same.f k a0 a1) (watchfireref24_Same.f (k + 1) a0 a1) := by
  intro a0 a1 k
  have ih0 := watchfireref24_Same.mono_l k
  unfold watchfireref24_Same.f
  repeat' first
      | (with_reducible exact ih0 _ _ _)
      | (with_reducible exact LeO.refl _)
      | (with_reducible exact LeO.none _)
      | (with_reducible refine LeO.ite ?_ ?_)
      | (with_reducible refine LeO.bind ?_ (fun _ => ?_))
      | exact ih0 _ _ _
      | exact LeO.none _
      | refine LeO.ite ?_ ?_
      | refine LeO.bind ?_ (fun _ => ?_)
set_option maxHeartbeats 8000000 in
set_option maxRecDepth 100000 in
theorem watchfireref24_Same.calls (k : Nat) (A0 : Option Addr) (c0 : Nat) (l0 : List (S74)) (A1 : Option Addr) (c1 : Nat) (l1 : List (S74)) (r : Bool) (w : World) (hr0 : Kd.C k74 w A0 l0.length l0) (hc0 : l0.length ≤ c0) (hr1 : Kd.C k74 w A1 l1.length l1) (hc1 : l1.length ≤ c1) (h : watchfireref24_Same.f k l0 l1 = some r) :
    Calls Tryz.prog 21 #[.slice A0 l0.length c0, .slice A1 l1.length c1] w fun e w' => e = .returned (.bool r) ∧ Drawn0 w w' := by
  have hu74 := Tryz.underlying74
  have HR0 := Aside0.mk hr0
  have HC0 := Aside0.mk hc0
  clear hr0 hc0
  have HR1 := Aside0.mk hr1
  have HC1 := Aside0.mk hc1
  clear hr1 hc1
  have H : (if (l0.length : Int) = (l1.length : Int) then (watchfireref24_Same.l0 k l0 l1 0) else (some false)) = some r := h
  clear h
  by_cases c3 : (l0.length : Int) = (l1.length : Int)
  · rw [if_pos c3] at H
    have c3b0 : ((l0.length : Int) == (l1.length : Int)) = true := beq_iff_eq.mpr c3
    have c3b1 : ((l0.length : Int) != (l1.length : Int)) = false := bne_eq_false_iff_eq.mpr c3
    have c3b2 : (l0.length == l1.length) = true := by first | simpa using c3 | (simp at c3 ⊢; omega)
    clear c3
    have H' := Aside0.mk H
    clear H
    go_enter Tryz.func21, Tryz.ntmps21
    go_wp2
    repeat (go_quiet (fail); try go_wp2)
    go_loopg [5] k (fun kq v5 w' => ∃ (x5_1 : Int), v5 = .int .i64 x5_1 ∧ Aside0 (watchfireref24_Same.l0 kq l0 l1 x5_1 = some r) ∧ Aside0 (kq ≤ k) ∧ Drawn0 w w')
    case atStart => exact ⟨(0), (by first | rfl | (simp; done) | (simp [*]; done)), H', ⟨Nat.le_refl _⟩, by repeat (first | exact Drawn0.refl _ | apply Drawn0.step)⟩
    case round =>
      clear H'
      try clear c1
      try clear c2
      try clear p2
      try clear c3
      try clear c3b0
      try clear c3b1
      try clear c3b2
      obtain ⟨x5_1, rfl, HA, HK1, ⟨m1, rfl⟩⟩ := hrel
      cases gk with
      | zero => exact absurd HA.out (by simp [watchfireref24_Same.l0])
      | succ k1 =>
        have H := HA.out
        clear HA
        simp only [watchfireref24_Same.l0] at H
        by_cases c4 : x5_1 < (l0.length : Int)
        · rw [if_pos c4] at H
          have c4b0 : decide (x5_1 < (l0.length : Int)) = true := decide_eq_true c4
          clear c4
          by_cases c5 : 0 ≤ x5_1
          · rw [if_pos c5] at H
            have c5b0 : decide (0 ≤ x5_1) = true := decide_eq_true c5
            clear c5
            by_cases c6 : x5_1 < (l1.length : Int)
            · rw [if_pos c6] at H
              have c6b0 : decide (x5_1 < (l1.length : Int)) = true := decide_eq_true c6
              clear c6
              by_cases c7 : (!(((rd_T74 l0 x5_1).f0) == ((rd_T74 l1 x5_1).f0)) || (!(((rd_T74 l0 x5_1).f1) == ((rd_T74 l1 x5_1).f1)) || (!((((rd_T74 l0 x5_1).f2).toList) == (((rd_T74 l1 x5_1).f2).toList)) || (!((((rd_T74 l0 x5_1).f3).toList) == (((rd_T74 l1 x5_1).f3).toList)))))) = true
              · rw [if_pos c7] at H
                have c7b0 : (!(((rd_T74 l0 x5_1).f0) == ((rd_T74 l1 x5_1).f0)) || (!(((rd_T74 l0 x5_1).f1) == ((rd_T74 l1 x5_1).f1)) || (!((((rd_T74 l0 x5_1).f2).toList) == (((rd_T74 l1 x5_1).f2).toList)) || (!((((rd_T74 l0 x5_1).f3).toList) == (((rd_T74 l1 x5_1).f3).toList)))))) = true := c7
                clear c7
                obtain rfl := Option.some.inj H
                have p220 : 0 ≤ (x5_1 : Int) := of_decide_eq_true (by first | (with_reducible assumption) | assumption)
                have q220 : x5_1 < (l0.length : Int) := of_decide_eq_true (by first | (with_reducible assumption) | assumption)
                obtain ⟨ad220, e220, hx220_0, hx220_1, hx220_2, hx220_3⟩ := at_T74 HR0.out x5_1 p220 q220
                cases e220
                replace p220 := eq_true p220
                replace q220 := eq_true q220
                have p221 : 0 ≤ (x5_1 : Int) := of_decide_eq_true (by first | (with_reducible assumption) | assumption)
                have q221 : x5_1 < (l1.length : Int) := of_decide_eq_true (by first | (with_reducible assumption) | assumption)
                obtain ⟨ad221, e221, hx221_0, hx221_1, hx221_2, hx221_3⟩ := at_T74 HR1.out x5_1 p221 q221
                cases e221
                replace p221 := eq_true p221
                replace q221 := eq_true q221
                go_wp2
                repeat (go_quiet (fail); try go_wp2)
                go_ret
                exact ⟨by first | rfl | (simp; done) | (simp [*]; done), by repeat (first | exact Drawn0.refl _ | apply Drawn0.step)⟩
              · rw [if_neg c7] at H
                have c7b0 : (!(((rd_T74 l0 x5_1).f0) == ((rd_T74 l1 x5_1).f0)) || (!(((rd_T74 l0 x5_1).f1) == ((rd_T74 l1 x5_1).f1)) || (!((((rd_T74 l0 x5_1).f2).toList) == (((rd_T74 l1 x5_1).f2).toList)) || (!((((rd_T74 l0 x5_1).f3).toList) == (((rd_T74 l1 x5_1).f3).toList)))))) = false := by simpa using c7
                clear c7
                have H' := Aside0.mk H
                clear H
                have p220 : 0 ≤ (x5_1 : Int) := of_decide_eq_true (by first | (with_reducible assumption) | assumption)
                have q220 : x5_1 < (l0.length : Int) := of_decide_eq_true (by first | (with_reducible assumption) | assumption)
                obtain ⟨ad220, e220, hx220_0, hx220_1, hx220_2, hx220_3⟩ := at_T74 HR0.out x5_1 p220 q220
                cases e220
                replace p220 := eq_true p220
                replace q220 := eq_true q220
                have p221 : 0 ≤ (x5_1 : Int) := of_decide_eq_true (by first | (with_reducible assumption) | assumption)
                have q221 : x5_1 < (l1.length : Int) := of_decide_eq_true (by first | (with_reducible assumption) | assumption)
                obtain ⟨ad221, e221, hx221_0, hx221_1, hx221_2, hx221_3⟩ := at_T74 HR1.out x5_1 p221 q221
                cases e221
                replace p221 := eq_true p221
                replace q221 := eq_true q221
                go_wp2
                repeat (go_quiet (fail); try go_wp2)
                go_roundg k1
                case measure => have := HK1.out; omega
                case rel => exact ⟨(wrap64 (x5_1 + 1)), (by first | rfl | (simp; done) | (simp [*]; done)), H', ⟨by have := HK1.out; omega⟩, by repeat (first | exact Drawn0.refl _ | apply Drawn0.step)⟩
            · rw [if_neg c6] at H
              exact absurd H (by simp)
          · rw [if_neg c5] at H
            exact absurd H (by simp)
        · rw [if_neg c4] at H
          have c4b0 : decide (x5_1 < (l0.length : Int)) = false := decide_eq_false c4
          clear c4
          obtain rfl := Option.some.inj H
          go_wp2
          repeat (go_quiet (fail); try go_wp2)
          go_ret
          exact ⟨by first | rfl | (simp; done) | (simp [*]; done), by repeat (first | exact Drawn0.refl _ | apply Drawn0.step)⟩
  · rw [if_neg c3] at H
    have c3b0 : ((l0.length : Int) == (l1.length : Int)) = false := beq_eq_false_iff_ne.mpr c3
    have c3b1 : ((l0.length : Int) != (l1.length : Int)) = true := bne_iff_ne.mpr c3
    have c3b2 : (l0.length == l1.length) = false := by first | simpa using c3 | (simp at c3 ⊢; omega)
    obtain rfl := Option.some.inj H
    go_enter Tryz.func21, Tryz.ntmps21
    go_wp2
    repeat (go_quiet (fail); try go_wp2)
    go_ret
    exact ⟨by first | rfl | (simp; done) | (simp [*]; done), by repeat (first | exact Drawn0.refl _ | apply Drawn0.step)⟩

end Go.Proofs.YtllhpkpckjacfaaGreatDoor.PTemplateFilters
