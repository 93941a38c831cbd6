import Derived.Test.YtcdeikhfmllkdaaGreatDoorJb
import Derived.Lib.FrozenHead2
import Derived.Test.YtcdeikhfmllkdaaGreatDoorJd
/- A strings.Builder at the head of a larger variable: what json's writer writes into. -/
namespace Go.Proofs.YtcdeikhfmllkdaaGreatDoor
open Go.RowKit
set_option linter.unusedVariables false

/-- Variables of type T, of so many cells, begin with a Builder. -/
structure HeadB (T m : Nat) : Prop where
  lies : liesAt Tryz.prog Tryz.prog.depth T (m / Tryz.prog.cellsOf T) 0 112 1 = true
  ne : T ≠ 5
  two : 2 ≤ m
theorem headB55 : HeadB 112 2 := ⟨by kernel_rfl, by decide, by decide⟩
theorem headB57 : HeadB 124 4 := ⟨by kernel_rfl, by decide, by decide⟩

theorem Tryz.info112 : (Tryz.prog.info? 112).map (·.size) = some 2 := by kernel_rfl
theorem Tryz.info5 : (Tryz.prog.info? 5).map (fun i => (i.zero, i.size, i.bytes)) = some (some (.int .u8 0), 1, 1) := by kernel_rfl

/-- The builder at the head of block b holds l in the buffer v; behind it stand the cells rest. -/
structure Wv (w : World) (b B T : Nat) (rest : List Value) (l : Bytes) (p v : Value) : Prop where
  base : B ≤ b
  row : w.heap[b]? = some (.cells (p :: v :: rest).toArray T)
  own : w.ownsRowF B 5 1 v l.length (Lib.byteCells l)
  ne : v.ownBlock ≠ some b
def Wb (w : World) (b B T : Nat) (rest : List Value) (l : Bytes) : Prop := ∃ p v, (p = .pointer none ∨ p = .pointer (some ⟨b, 0, none⟩)) ∧ Wv w b B T rest l p v

theorem Wv.lt {w : World} {b B T : Nat} {rest : List Value} {l : Bytes} {p v : Value} (h : Wv w b B T rest l p v) : b < w.heap.size := (Array.getElem?_eq_some_iff.1 h.row).1
theorem Wb.lt {w : World} {b B T : Nat} {rest : List Value} {l : Bytes} (h : Wb w b B T rest l) : b < w.heap.size := by
  obtain ⟨p, v, _, h⟩ := h
  exact h.lt
theorem ownF_kept {w w' : World} {B : Nat} {l : Bytes} {v : Value} (h : w.ownsRowF B 5 1 v l.length (Lib.byteCells l)) (t : ∀ k, v.ownBlock = some k → w'.heap[k]? = w.heap[k]?) : w'.ownsRowF B 5 1 v l.length (Lib.byteCells l) := by
  obtain ⟨hl, h⟩ := h
  refine ⟨hl, ?_⟩
  rcases h with h | ⟨g, cap, cur, fz, h1, h2, h3, h4⟩
  · exact .inl h
  · exact .inr ⟨g, cap, cur, fz, h1, h2, (t g (by rw [h1]; rfl)).trans h3, h4⟩
theorem ownF_ne {w : World} {B : Nat} {l : Bytes} {v : Value} (hown : w.ownsRowF B 5 1 v l.length (Lib.byteCells l)) {b T : Nat} {cs : Array Value} {fr : Nat × Nat} (hb : w.heap[b]? = some (.cells cs T fr)) (hT : T ≠ 5) : v.ownBlock ≠ some b := by
  rcases hown.2 with ⟨rfl, _⟩ | ⟨g, cap, cur, fz, rfl, _, hg, _⟩
  · simp [Value.ownBlock]
  · intro h
    simp only [Value.ownBlock, Option.some.injEq] at h
    subst h
    rw [hg] at hb
    simp only [Option.some.injEq, Obj.cells.injEq] at hb
    exact hT hb.2.1.symm
/-- A cell behind the builder set. -/
theorem Wb.setRest {w : World} {b B T : Nat} {rest : List Value} {l : Bytes} (h : Wb w b B T rest l) (i : Nat) (x : Value) : Wb (w.setCell ⟨b, i + 2, none⟩ x) b B T (rest.set i x) l := by
  obtain ⟨p, v, hp, h⟩ := h
  refine ⟨p, v, hp, h.base, ?_, ownF_kept h.own (fun k hk => Below.heap_setCell _ _ _ _ (by intro e; exact h.ne (hk.trans (by rw [e])))), h.ne⟩
  simpa using blk_set h.row (i + 2) x

/-- Where only the builder turned. -/
structure Wf (B b : Nat) (w w' : World) : Prop where
  below : Below B w w'
  others : Lib.OthersKept 5 (some b) w w'
theorem Wf.refl (B b : Nat) (w : World) : Wf B b w w := ⟨Below.refl _ _, Lib.OthersKept.refl _ _ _⟩
theorem Wf.trans {B b : Nat} {w w1 w2 : World} (h : Wf B b w w1) (k : Wf B b w1 w2) : Wf B b w w2 := ⟨h.below.trans k.below, h.others.trans k.others⟩
theorem Wf.set {B b : Nat} (w : World) (hB : B ≤ b) (i : Nat) (x : Value) : Wf B b w (w.setCell ⟨b, i, none⟩ x) := ⟨(Below.refl _ _).setCell (p := ⟨b, i, none⟩) hB _, (Lib.OthersKept.refl _ _ _).setCell ⟨b, i, none⟩ rfl x⟩
theorem Wf.alloc {B b : Nat} (w : World) (hB : B ≤ w.heap.size) (o : Obj) : Wf B b w (w.alloc o) := ⟨(Below.refl _ _).alloc hB _, (Lib.OthersKept.refl _ _ _).alloc o⟩
theorem Wf.drewN {B b : Nat} (w : World) (k : Nat) : Wf B b w (w.drewN k) := ⟨below_drewN (Below.refl _ _) k, fun _ _ h _ _ => h⟩
theorem Wf.size {B b : Nat} {w w' : World} (h : Wf B b w w') : w.heap.size ≤ w'.heap.size := h.below.size

set_option maxHeartbeats 1000000 in
set_option maxRecDepth 100000 in
theorem copyCheck_w {w : World} {b B T m : Nat} {rest : List Value} {l : Bytes} (H : HeadB T m) (hm : rest.length + 2 = m) (h : Wb w b B T rest l) :
    Calls Tryz.prog 114 #[.pointer (some ⟨b, 0, none⟩)] w fun e w' => e = .returned (.tuple #[]) ∧ (∃ v, Wv w' b B T rest l (.pointer (some ⟨b, 0, none⟩)) v) ∧ Wf B b w w' := by
  obtain ⟨j, hj, hjs⟩ := Option.map_eq_some_iff.1 Tryz.info112
  obtain ⟨p, v, hp, h⟩ := h
  have hr := h.row
  have c0 := (cells_of hr 0).1
  have f0 := (cells_of hr 0).2
  simp only [List.getElem?_toArray, List.getElem?_cons_zero] at c0
  have hsh : w.shape? b = some (T, m) := by simp [World.shape?, hr]; omega
  have HH := Lib.hid h
  clear h hr
  rcases hp with rfl | rfl
  · have HL := Lib.hid (And.intro hsh H)
    clear hsh
    go_enter Tryz.func114, Tryz.ntmps114
    go_wp2
    rw [Lib.run_to_unsafe w ⟨b, 0, none⟩ Tryz.underlying110 Tryz.underlying208 hj (by rw [hjs]; decide) HL.out.1 (by show 0 < m; have := HL.out.2.two; omega)]
    simp only [Result.andThen]
    rw [Oper.upon_value]
    go_wp2
    rw [run_callFunc_extern Tryz.func152 (by kernel_rfl) (by kernel_rfl) (by kernel_rfl) (e := Extern.AbiNoEscape.same) (by kernel_rfl)]
    rw [Lib.run_noEscape]
    simp only [Result.andThen]
    rw [Oper.upon_value]
    go_wp2
    rw [Lib.run_from_unsafe w ⟨b, 0, none⟩ Tryz.underlying208 Tryz.underlying110 hj HL.out.1 HL.out.2.lies]
    simp only [Result.andThen]
    rw [Oper.upon_value]
    go_wp2
    go_end0
    refine ⟨rfl, ⟨v, HH.out.base, ?_, ownF_kept HH.out.own (fun k hk => Below.heap_setCell _ _ _ _ (by intro e; exact HH.out.ne (hk.trans (by rw [e])))), HH.out.ne⟩, Wf.set _ HH.out.base _ _⟩
    simpa using blk_set HH.out.row 0 (.pointer (some ⟨b, 0, none⟩))
  · clear hsh
    go_enter Tryz.func114, Tryz.ntmps114
    go_wp2
    rw [Lib.run_neq_ptr_same w _ Tryz.underlying110 hj]
    go_wp2
    go_end0
    exact ⟨rfl, ⟨v, HH.out⟩, Wf.refl _ _ _⟩

theorem Wb.put {w w2 : World} {b B T m : Nat} {rest : List Value} {l l' : Bytes} {p v v' : Value} (H : HeadB T m) (h : Wv w b B T rest l (.pointer (some ⟨b, 0, none⟩)) v) (hg : w.grownBy w2 v.ownBlock) (hown : w2.ownsRowF B 5 1 v' l'.length (Lib.byteCells l')) :
    Wb (w2.setCell ⟨b, 1, none⟩ v') b B T rest l' := by
  have hr2 : w2.heap[b]? = some (.cells (.pointer (some ⟨b, 0, none⟩) :: v :: rest).toArray T) := (hg.block b h.lt (fun e => h.ne e.symm)).trans h.row
  have hne' := ownF_ne hown hr2 H.ne
  refine ⟨_, v', .inr rfl, h.base, ?_, ownF_kept hown (fun k hk => Below.heap_setCell _ _ _ _ (by intro e; exact hne' (hk.trans (by rw [e])))), hne'⟩
  simpa using blk_set hr2 1 v'

set_option maxHeartbeats 2000000 in
set_option maxRecDepth 100000 in
theorem writeByte_w {w : World} {b B T m : Nat} {rest : List Value} {l : Bytes} (H : HeadB T m) (hm : rest.length + 2 = m) (h : Wb w b B T rest l) (d : UInt8) {c : Int} (hc : c = (d.toNat : Int)) (hl : l.length + 1 ≤ 140737488355328) (hB : B ≤ w.heap.size) :
    Calls Tryz.prog 68 #[.pointer (some ⟨b, 0, none⟩), .int .u8 c] w fun e w' => e = .returned .nilIface ∧ Wb w' b B T rest (l ++ [d]) ∧ Wf B b w w' := by
  obtain ⟨i0, hi, hz0, hz1, hz2⟩ := info_parts Tryz.info5
  have HH := Lib.hid h
  have HHd := Lib.hid H
  have HC := Lib.hid hc
  clear h H hc
  go_enter Tryz.func68, Tryz.ntmps68
  go_wp2_with fail
  refine (copyCheck_w HHd.out hm HH.out).mono ?_
  rintro e w1 ⟨rfl, ⟨v, U⟩, F⟩
  have c1 := (cells_of U.row 1).1
  have f1 := (cells_of U.row 1).2
  simp only [List.getElem?_toArray, List.getElem?_cons_succ, List.getElem?_cons_zero] at c1
  have hown := U.own
  have hsz := F.size
  have hlt1 := U.lt
  have HU := Lib.hid (And.intro U F)
  clear U F
  have U2 : Wv (w1.alloc (.cells #[.int .u8 c] 5)) b B T rest l (.pointer (some ⟨b, 0, none⟩)) v := ⟨HU.out.1.base, (heap_alloc_old _ _ hlt1).trans HU.out.1.row, hown.alloc _, HU.out.1.ne⟩
  have HU2 := Lib.hid U2
  clear U2
  go_wp2_with (at_builtin; refine wpList_append_ownF _ rfl _ _ 105 rfl B 5 i0 (.int .u8 0) 1 1 Tryz.underlying105 hi hz0 hz1 hz2 rfl (by decide) _ _ _ rfl (hown.alloc _) ⟨w1.heap.size, 0, none⟩ 1 1 [.int .u8 c] rfl rfl ?c1 ?c2 ?c3 ?c4 ?c5 ?_)
  case c1 =>
    intro j u hj
    match j, hj with
    | 0, hj => simp at hj; subst hj; simp [Addr.add]
  case c2 => intro u hu; simp at hu; subst hu; rfl
  case c3 => unfold maxLen; omega
  case c4 => omega
  case c5 => simp; omega
  intro v' w2 hown' hgrow hnil
  obtain ⟨g, cap, rfl⟩ : ∃ g cap, v' = .slice (some ⟨g, 0, none⟩) (l.length + 1) cap := by
    rcases hown'.2 with ⟨_, h0⟩ | ⟨g, cap, cur, fz, hv, _⟩
    · omega
    · exact ⟨g, cap, hv⟩
  have d1 : w2.cell? ⟨b, 1, none⟩ = some v := (World.cell?_of_block (a := ⟨b, 1, none⟩) (w := w1.alloc (.cells #[.int .u8 c] 5)) (w' := w2) (hgrow.block b (by simp; omega) (fun e => HU.out.1.ne e.symm))).trans ((World.cell?_of_block (a := ⟨b, 1, none⟩) (w := w1) (w' := w1.alloc (.cells #[.int .u8 c] 5)) (heap_alloc_old _ _ hlt1)).trans c1)
  have e1 : w2.frozen? ⟨b, 1, none⟩ = false := (World.frozen?_of_block (a := ⟨b, 1, none⟩) (w := w1.alloc (.cells #[.int .u8 c] 5)) (w' := w2) (hgrow.block b (by simp; omega) (fun e => HU.out.1.ne e.symm))).trans ((World.frozen?_of_block (a := ⟨b, 1, none⟩) (w := w1) (w' := w1.alloc (.cells #[.int .u8 c] 5)) (heap_alloc_old _ _ hlt1)).trans f1)
  have hrow := Lib.ownsRowF_kind (hown.alloc (.cells #[.int .u8 c] 5))
  have hlo := hown.lt
  have HG := Lib.hid (And.intro hown' (And.intro hgrow (And.intro hrow hlo)))
  clear hown hown' hgrow hrow hlo hnil
  go_wp2
  go_ret
  refine ⟨rfl, Wb.put (p := .pointer none) HHd.out HU2.out HG.out.2.1 ?_, ?_⟩
  · have := HG.out.1
    rw [HC.out] at this
    simpa [Lib.byteCells] using this
  · refine HU.out.2.trans ⟨?_, ?_⟩
    · exact ((((Below.refl B w1).alloc (by omega) _).grown HG.out.2.1 (by simp; omega) (fun k hk => (HG.out.2.2.2 k hk).1))).setCell (p := ⟨b, 1, none⟩) HU.out.1.base _
    · exact (((Lib.OthersKept.refl _ _ _).alloc _).grown HG.out.2.1 HG.out.2.2.1).setCell ⟨b, 1, none⟩ rfl _

set_option maxHeartbeats 2000000 in
set_option maxRecDepth 100000 in
theorem writeString_w {w : World} {b B T m : Nat} {rest : List Value} {l : Bytes} (H : HeadB T m) (hm : rest.length + 2 = m) (h : Wb w b B T rest l) (x : Bytes) (hl : l.length + x.length ≤ 140737488355328) (hB : B ≤ w.heap.size) :
    Calls Tryz.prog 107 #[.pointer (some ⟨b, 0, none⟩), .string (str x)] w fun e w' => (∃ v, e = .returned v) ∧ Wb w' b B T rest (l ++ x) ∧ Wf B b w w' := by
  obtain ⟨i0, hi, hz0, hz1, hz2⟩ := info_parts Tryz.info5
  have hx := str_size x
  have HH := Lib.hid h
  have HHd := Lib.hid H
  clear h H
  have hcells : Lib.byteCells l ++ Lib.strCells (str x) = Lib.byteCells (l ++ x) := by simp [Lib.byteCells, Lib.strCells, str_toList]
  have HC := Lib.hid hcells
  obtain ⟨S, hS⟩ : ∃ S, str x = S := ⟨_, rfl⟩
  rw [hS] at hx HC ⊢
  clear hS hcells
  have hls : l.length + S.size ≤ 140737488355328 := by omega
  have HX := Lib.hid hx
  clear hx
  go_enter Tryz.func107, Tryz.ntmps107
  go_wp2_with fail
  refine (copyCheck_w HHd.out hm HH.out).mono ?_
  rintro e w1 ⟨rfl, ⟨v, U⟩, F⟩
  have c1 := (cells_of U.row 1).1
  have f1 := (cells_of U.row 1).2
  simp only [List.getElem?_toArray, List.getElem?_cons_succ, List.getElem?_cons_zero] at c1
  have hown := U.own
  have hsz := F.size
  have hlt1 := U.lt
  have HU := Lib.hid (And.intro U F)
  clear U F
  go_wp2_with (at_builtin; refine Lib.wpList_append_own_stringF _ rfl _ _ 105 9 rfl B 5 i0 Tryz.underlying105 Tryz.underlying9 hi hz0 hz1 hz2 _ _ _ rfl hown S rfl ?c3 ?c4 ?c5 ?_)
  case c3 => unfold maxLen; omega
  case c4 => omega
  case c5 => omega
  intro v' w2 hown' hgrow hnil
  obtain ⟨ao, n', cap, rfl⟩ : ∃ ao n' cap, v' = .slice ao n' cap := by
    rcases hown'.2 with ⟨hv, _⟩ | ⟨g, cap, cur, fz, hv, _⟩
    · exact ⟨_, _, _, hv⟩
    · exact ⟨_, _, _, hv⟩
  have d1 : w2.cell? ⟨b, 1, none⟩ = some v := (World.cell?_of_block (a := ⟨b, 1, none⟩) (w := w1) (w' := w2) (hgrow.block b hlt1 (fun e => HU.out.1.ne e.symm))).trans c1
  have e1 : w2.frozen? ⟨b, 1, none⟩ = false := (World.frozen?_of_block (a := ⟨b, 1, none⟩) (w := w1) (w' := w2) (hgrow.block b hlt1 (fun e => HU.out.1.ne e.symm))).trans f1
  have hrow := Lib.ownsRowF_kind hown
  have hlo := hown.lt
  have HG := Lib.hid (And.intro hown' (And.intro hgrow (And.intro hrow hlo)))
  clear hown hown' hgrow hrow hlo hnil
  go_wp2
  go_ret2
  refine ⟨⟨_, rfl⟩, Wb.put (p := .pointer none) HHd.out HU.out.1 HG.out.2.1 ?_, ?_⟩
  · have := HG.out.1
    rw [HC.out, HX.out] at this
    simpa using this
  · refine HU.out.2.trans ⟨?_, ?_⟩
    · exact ((Below.refl B w1).grown HG.out.2.1 (by omega) (fun k hk => (HG.out.2.2.2 k hk).1)).setCell (p := ⟨b, 1, none⟩) HU.out.1.base _
    · exact ((Lib.OthersKept.refl _ _ _).grown HG.out.2.1 HG.out.2.2.1).setCell ⟨b, 1, none⟩ rfl _

theorem Tryz.cells5 : Tryz.prog.cellsOf 5 = 1 := by kernel_rfl

set_option maxHeartbeats 2000000 in
set_option maxRecDepth 100000 in
theorem string_w {w : World} {b B T m : Nat} {rest : List Value} {l : Bytes} (H : HeadB T m) (hm : rest.length + 2 = m) (h : Wb w b B T rest l) (h0 : l ≠ []) :
    Calls Tryz.prog 69 #[.pointer (some ⟨b, 0, none⟩)] w fun e w' => e = .returned (.string (str l)) ∧ Below B w w' := by
  obtain ⟨p, v, hp, U⟩ := h
  have hl0 : l.length ≠ 0 := by simpa using h0
  have hown := U.own
  obtain ⟨g, cap, cur, fz, rfl, hbg, hg, hfz, hnc, hcm, hcs, htake⟩ : ∃ g cap cur fz, v = .slice (some ⟨g, 0, none⟩) l.length cap ∧ B ≤ g ∧ w.heap[g]? = some (.cells cur 5 fz) ∧ fz.2 ≤ l.length * 1 ∧ l.length ≤ cap ∧ cap ≤ maxLen ∧ cur.size = cap * 1 ∧ cur.toList.take (l.length * 1) = Lib.byteCells l := by
    rcases hown.2 with ⟨_, hz⟩ | ⟨g, cap, cur, fz, hv, r⟩
    · exact absurd hz hl0
    · exact ⟨g, cap, cur, fz, hv, r⟩
  have c1 := (cells_of U.row 1).1
  simp only [List.getElem?_toArray, List.getElem?_cons_succ, List.getElem?_cons_zero] at c1
  have hSD : (Builtin.unsafeSliceData_ #[105] 168 #[.slice (some ⟨g, 0, none⟩) l.length cap]).run Tryz.prog w.drew = .ok (.pointer (some ⟨g, 0, none⟩)) w.drew :=
    Lib.run_unsafeSliceData_row _ _ _ _ _ _ (by omega)
  have hUS : (Builtin.unsafeString_ #[168, 3] 9 #[.pointer (some ⟨g, 0, none⟩), .int .i64 l.length]).run Tryz.prog w.drew = .ok (.string (str l)) (w.drew.freeze ⟨g, 0, none⟩ l.length) := by
    refine Lib.run_unsafeString_row w.drew 168 3 9 5 Tryz.underlying168 Tryz.cells5 g cur.size (by have hg' : w.drew.heap[g]? = some (.cells cur 5 fz) := hg; simp [World.shape?, hg']) l h0 (by omega) (by unfold maxLen at hcm; omega) ?_
    intro j x hx
    have := hown.cells (g := g) rfl j (.int .u8 x.toNat) (by simp [Lib.byteCells, hx])
    exact this
  clear hown hg htake hcs h0
  go_enter Tryz.func69, Tryz.ntmps69
  go_wp2
  go_region
  all_goals
    go_wp2
    go_ret
    exact ⟨rfl, Lib.below_freeze (Below.drew (Below.refl B w)) (p := ⟨g, 0, none⟩) hbg _⟩
end Go.Proofs.YtcdeikhfmllkdaaGreatDoor

/- json's quote. -/
namespace Go.Proofs.YtcdeikhfmllkdaaGreatDoor
open Go.RowKit
set_option linter.unusedVariables false

def hexDs : Bytes := [48, 49, 50, 51, 52, 53, 54, 55, 56, 57, 97, 98, 99, 100, 101, 102]
def quoteB (c : UInt8) : Bytes :=
  if c = 34 ∨ c = 92 then [92, c]
  else if c.toNat < 32 then [92, 117, 48, 48, hexDs.getD (c.toNat / 16) 0, hexDs.getD (c.toNat % 16) 0]
  else [c]
def quoteM (s : Bytes) : Bytes := [34] ++ s.flatMap quoteB ++ [34]

theorem quoteB_len (c : UInt8) : (quoteB c).length ≤ 6 := by unfold quoteB; repeat' split <;> simp
theorem quoteBs_len (s : Bytes) : (s.flatMap quoteB).length ≤ 6 * s.length := by
  induction s with
  | nil => simp
  | cons c s ih =>
    have := quoteB_len c
    simp only [List.flatMap_cons, List.length_append, List.length_cons]
    omega

theorem str_get (s : Bytes) (n : Nat) (hn : n < s.length) (hn2 : n < (str s).size) : (str s)[n]'hn2 = s[n]'hn := rfl

theorem hex_get (i : Nat) (h : i < 16) (h2 : i < (⟨#[48, 49, 50, 51, 52, 53, 54, 55, 56, 57, 97, 98, 99, 100, 101, 102]⟩ : ByteArray).size) : (⟨#[48, 49, 50, 51, 52, 53, 54, 55, 56, 57, 97, 98, 99, 100, 101, 102]⟩ : ByteArray)[i]'h2 = hexDs.getD i 0 := by
  have := str_get hexDs i h h2
  refine this.trans ?_
  rw [List.getD_eq_getElem?_getD, List.getElem?_eq_getElem h]; rfl

structure QtRel (w wr : World) (b B T : Nat) (rest : List Value) (l s : Bytes) (n : Nat) : Prop where
  le : n ≤ s.length
  wb : Wb wr b B T rest (l ++ [34] ++ (s.take n).flatMap quoteB)
  wf : Wf B b w wr

set_option maxHeartbeats 4000000 in
set_option maxRecDepth 100000 in
theorem quote_w {w : World} {b B T m : Nat} {rest : List Value} {l : Bytes} (H : HeadB T m) (hm : rest.length + 2 = m) (h : Wb w b B T rest l) (s : Bytes) (hl : l.length + 6 * s.length + 2 ≤ 140737488355328) (hB : B ≤ w.heap.size) :
    Calls Tryz.prog 118 #[.pointer (some ⟨b, 0, none⟩), .string (str s)] w fun e w' => e = .returned (.tuple #[]) ∧ Wb w' b B T rest (l ++ quoteM s) ∧ Wf B b w w' := by
  have hsz := str_size s
  have HH := Lib.hid h
  have HHd := Lib.hid H
  clear h H
  obtain ⟨S, hS⟩ : ∃ S, str s = S := ⟨_, rfl⟩
  have HGet : Hid (∀ n (hn : n < s.length) (hn2 : n < S.size), S[n]'hn2 = s[n]'hn) := by
    subst hS; exact Lib.hid (fun n hn hn2 => str_get s n hn hn2)
  rw [hS] at hsz ⊢
  clear hS
  have hS1 : (S.size : Int) ≤ 140737488355328 := by omega
  go_enter Tryz.func118, Tryz.ntmps118
  go_wp2_with fail
  refine (writeByte_w HHd.out hm HH.out 34 rfl (by omega) hB).mono ?_
  rintro e w1 ⟨rfl, h1, f1⟩
  have H1 := Lib.hid (QtRel.mk (n := 0) (s := s) (l := l) (Nat.zero_le _) (by simpa using h1) f1)
  clear h1 f1
  go_wp2_with fail
  go_loopw [10] (fun k wr => ∃ n : Nat, k = .int .i64 n ∧ QtRel w wr b B T rest l s n) (fun k _ => s.length - (intOf k).toNat)
  case atStart => exact ⟨0, rfl, H1.out⟩
  case round =>
    obtain ⟨n, rfl, hr⟩ := hrel
    have hle := hr.le
    have HR := Lib.hid hr
    have hcur : (l ++ [34] ++ (s.take n).flatMap quoteB).length ≤ l.length + 1 + 6 * n := by
      have := quoteBs_len (s.take n)
      simp at this ⊢; omega
    have hBr : B ≤ wr.heap.size := by have := hr.wf.size; omega
    clear hr H1
    by_cases hlt : n < s.length
    · obtain ⟨c, hc⟩ : ∃ c, s[n] = c := ⟨_, rfl⟩
      have hn2 : n < S.size := by omega
      have hsc := (HGet.out n hlt hn2).trans hc
      have htk : s.take (n + 1) = s.take n ++ [c] := by rw [List.take_succ_eq_append_getElem hlt, hc]
      have HTK := Lib.hid htk
      clear hc htk
      have next : ∀ (x : Bytes) (w' : World), quoteB c = x → Wb w' b B T rest (l ++ [34] ++ (s.take n).flatMap quoteB ++ x) → Wf B b wr w' → QtRel w w' b B T rest l s (n + 1) := by
        intro x w' hx hw hf
        refine ⟨by omega, ?_, HR.out.wf.trans hf⟩
        rw [HTK.out]
        simpa [hx] using hw
      have HN := Lib.hid next
      clear next
      by_cases h34 : c = 34
      · subst h34
        go_wp2_with fail
        refine (writeByte_w HHd.out hm HR.out.wb 92 rfl (by omega) hBr).mono ?_
        rintro e w2 ⟨rfl, h2, f2⟩
        have H2 := Lib.hid (And.intro h2 f2)
        have hB2 : B ≤ w2.heap.size := by have := f2.size; omega
        clear h2 f2
        go_wp2_with fail
        refine (writeByte_w HHd.out hm H2.out.1 34 rfl (by simp only [List.length_append, List.length_cons, List.length_nil] at hcur ⊢; omega) hB2).mono ?_
        rintro e w3 ⟨rfl, h3, f3⟩
        have H3 := Lib.hid (And.intro h3 f3)
        clear h3 f3
        go_wp2
        go_roundw
        case measure => simp [intOf]; omega
        case rel => exact ⟨n + 1, by go_num, HN.out [92, 34] _ (by decide) (by simpa using H3.out.1) (H2.out.2.trans H3.out.2)⟩
      have hn34 : ((c.toNat : Int) == 34) = false := by rw [beq_eq_false_iff_ne]; intro e; exact h34 (UInt8.toNat_inj.1 (by simp; omega))
      by_cases h92 : c = 92
      · subst h92
        clear hn34
        go_wp2_with fail
        refine (writeByte_w HHd.out hm HR.out.wb 92 rfl (by omega) hBr).mono ?_
        rintro e w2 ⟨rfl, h2, f2⟩
        have H2 := Lib.hid (And.intro h2 f2)
        have hB2 : B ≤ w2.heap.size := by have := f2.size; omega
        clear h2 f2
        go_wp2_with fail
        refine (writeByte_w HHd.out hm H2.out.1 92 rfl (by simp only [List.length_append, List.length_cons, List.length_nil] at hcur ⊢; omega) hB2).mono ?_
        rintro e w3 ⟨rfl, h3, f3⟩
        have H3 := Lib.hid (And.intro h3 f3)
        clear h3 f3
        go_wp2
        go_roundw
        case measure => simp [intOf]; omega
        case rel => exact ⟨n + 1, by go_num, HN.out [92, 92] _ (by decide) (by simpa using H3.out.1) (H2.out.2.trans H3.out.2)⟩
      have hn92 : ((c.toNat : Int) == 92) = false := by rw [beq_eq_false_iff_ne]; intro e; exact h92 (UInt8.toNat_inj.1 (by simp; omega))
      by_cases h32 : c.toNat < 32
      · have h32' : decide ((c.toNat : Int) < 32) = true := by simp; omega
        have hqb : quoteB c = [92, 117, 48, 48, hexDs.getD (c.toNat / 16) 0, hexDs.getD (c.toNat % 16) 0] := by simp [quoteB, h34, h92, h32]
        have HQB := Lib.hid hqb
        clear hqb h34 h92
        go_wp2_with fail
        refine (writeString_w HHd.out hm HR.out.wb [92, 117, 48, 48] (by simp only [List.length_cons, List.length_nil]; omega) hBr).mono ?_
        rintro e w2 ⟨⟨v2, rfl⟩, h2, f2⟩
        have H2 := Lib.hid (And.intro h2 f2)
        have hB2 : B ≤ w2.heap.size := by have := f2.size; omega
        clear h2 f2
        go_wp2_with fail
        refine (writeByte_w HHd.out hm H2.out.1 (hexDs.getD (c.toNat / 16) 0) (by rw [hex_get _ (by omega)]) (by simp only [List.length_append, List.length_cons, List.length_nil] at hcur ⊢; omega) hB2).mono ?_
        rintro e w3 ⟨rfl, h3, f3⟩
        have H3 := Lib.hid (And.intro h3 f3)
        have hB3 : B ≤ w3.heap.size := by have := f3.size; omega
        clear h3 f3
        go_wp2_with fail
        refine (writeByte_w HHd.out hm H3.out.1 (hexDs.getD (c.toNat % 16) 0) (by rw [hex_get _ (by omega)]) (by simp only [List.length_append, List.length_cons, List.length_nil] at hcur ⊢; omega) hB3).mono ?_
        rintro e w4 ⟨rfl, h4, f4⟩
        have H4 := Lib.hid (And.intro h4 f4)
        clear h4 f4
        go_wp2
        go_roundw
        case measure => simp [intOf]; omega
        case rel => exact ⟨n + 1, by go_num, HN.out _ _ HQB.out (by simpa using H4.out.1) ((H2.out.2.trans H3.out.2).trans H4.out.2)⟩
      · have h32' : decide ((c.toNat : Int) < 32) = false := by simp; omega
        have hqb : quoteB c = [c] := by simp [quoteB, h34, h92, h32]
        have HQB := Lib.hid hqb
        clear hqb h34 h92
        go_wp2_with fail
        refine (writeByte_w HHd.out hm HR.out.wb c rfl (by omega) hBr).mono ?_
        rintro e w2 ⟨rfl, h2, f2⟩
        have H2 := Lib.hid (And.intro h2 f2)
        clear h2 f2
        go_wp2
        go_roundw
        case measure => simp [intOf]; omega
        case rel => exact ⟨n + 1, by go_num, HN.out _ _ HQB.out H2.out.1 H2.out.2⟩
    · have hn : n = s.length := by omega
      have HNN := Lib.hid hn
      clear hn
      go_wp2_with fail
      refine (writeByte_w HHd.out hm HR.out.wb 34 rfl (by omega) hBr).mono ?_
      rintro e w2 ⟨rfl, h2, f2⟩
      have H2 := Lib.hid (And.intro h2 f2)
      clear h2 f2
      go_wp2
      refine bodyPost_end (v := .tuple #[]) (by simp [results, Tryz.results118]) rfl ⟨rfl, ?_, HR.out.wf.trans H2.out.2⟩
      have h := H2.out.1
      rw [HNN.out, List.take_length] at h
      simpa [quoteM] using h
end Go.Proofs.YtcdeikhfmllkdaaGreatDoor

/- json's one: may a value be, by itself? -/
namespace Go.Proofs.YtcdeikhfmllkdaaGreatDoor
open Go.RowKit
set_option linter.unusedVariables false

/-- What a value may be, so that memory holds it. -/
structure Val.fits (v : Val) : Prop where
  name : v.name.length ≤ maxLen
  text : v.text.length ≤ maxLen
  kind : v.kind < 256

def oneM (v : Val) : Bool :=
  if 6 < v.kind then false
  else if Lib.validD v.name = false then false
  else if v.kind = 3 then intM v.text
  else if v.kind = 4 then Lib.validD v.text
  else v.text.isEmpty

theorem valid_any {w : World} (hT : Tabs w) {s : Bytes} (hs : s.length ≤ maxLen) : Calls Tryz.prog 154 #[.string (str s)] w fun e w' => e = .returned (.bool (Lib.validD s)) ∧ Below w.heap.size w w' := by
  have := Any.utf8_ValidString Tryz.laysValid (str s) w (by rw [str_size]; unfold maxLen at hs; omega) hT.1
  rw [str_toList] at this
  exact this

theorem tabs_below {w w' : World} (hT : Tabs w) (hb : Below w.heap.size w w') : Tabs w' := hT.turn (S := fun _ => False) (Turn.of_below hb) (by simp) (by simp) (by simp)

set_option maxRecDepth 100000 in
set_option maxHeartbeats 2000000 in
theorem one_any {w : World} (hT : Tabs w) (v : Val) (hv : v.fits) :
    Calls Tryz.prog 117 #[.agg #[.int .i64 v.parent, .int .u8 v.kind, .string (str v.name), .string (str v.text)]] w fun e w' => e = .returned (.bool (oneM v)) ∧ Below w.heap.size w w' := by
  obtain ⟨r, hr⟩ : ∃ r, oneM v = r := ⟨_, rfl⟩
  rw [hr]
  have hk := hv.kind
  have HV := Lib.hid hv
  have hb0 : Below w.heap.size w (w.alloc (.cells #[.int .i64 v.parent, .int .u8 v.kind, .string (str v.name), .string (str v.text)] 78)) := (Below.refl _ _).alloc (Nat.le_refl _) _
  have hT0 := tabs_below hT hb0
  have hz0 : w.heap.size < (w.alloc (.cells #[.int .i64 v.parent, .int .u8 v.kind, .string (str v.name), .string (str v.text)] 78)).heap.size := by simp
  have HB := Lib.hid (And.intro hb0 hT0)
  clear hv hT hb0 hT0
  by_cases h6 : 6 < v.kind
  · have e6 : decide ((6 : Int) < (v.kind : Int)) = true := by simp; omega
    have HR : Hid (r = false) := by rw [← hr]; exact Lib.hid (by simp [oneM, h6])
    clear hr h6
    go_enter Tryz.func117, Tryz.ntmps117
    go_wp2
    go_ret
    exact ⟨by rw [HR.out]; rfl, HB.out.1⟩
  have e6 : decide ((6 : Int) < (v.kind : Int)) = false := by simp; omega
  have h6n : v.kind ≤ 6 := by omega
  have box : ∀ w1, Below (w.alloc (.cells #[.int .i64 v.parent, .int .u8 v.kind, .string (str v.name), .string (str v.text)] 78)).heap.size (w.alloc (.cells #[.int .i64 v.parent, .int .u8 v.kind, .string (str v.name), .string (str v.text)] 78)) w1 →
      Tabs w1 ∧ Below w.heap.size w w1 ∧ w1.cell? ⟨w.heap.size, 1, none⟩ = some (.int .u8 v.kind) ∧ w1.cell? ⟨w.heap.size, 3, none⟩ = some (.string (str v.text)) := by
    intro w1 hb
    have e : w1.heap[w.heap.size]? = some (.cells #[.int .i64 v.parent, .int .u8 v.kind, .string (str v.name), .string (str v.text)] 78) := (hb.block _ hz0).trans (heap_alloc_new _ _)
    exact ⟨tabs_below HB.out.2 hb, HB.out.1.trans (hb.mono (by omega)), (cells_of e 1).1, (cells_of e 3).1⟩
  have HX := Lib.hid box
  clear box
  cases hn : Lib.validD v.name with
  | false =>
    have HR : Hid (r = false) := by rw [← hr]; exact Lib.hid (by simp [oneM, hn])
    have HN := Lib.hid hn
    clear hr hn h6
    go_enter Tryz.func117, Tryz.ntmps117
    go_wp2_with fail
    refine (valid_any HB.out.2 HV.out.name).mono ?_
    rw [HN.out]
    rintro e w1 ⟨rfl, hb⟩
    have H1 := Lib.hid (HX.out w1 hb)
    clear hb
    go_wp2
    go_ret
    exact ⟨by rw [HR.out]; rfl, H1.out.2.1⟩
  | true =>
    by_cases h3 : v.kind = 3
    · have HR : Hid (r = intM v.text) := by rw [← hr]; exact Lib.hid (by simp [oneM, hn, h3])
      have HN := Lib.hid hn
      have e3 : ((v.kind : Int) == 3) = true := by rw [beq_iff_eq]; omega
      clear hr hn h6 h3
      go_enter Tryz.func117, Tryz.ntmps117
      go_wp2_with fail
      refine (valid_any HB.out.2 HV.out.name).mono ?_
      rw [HN.out]
      rintro e w1 ⟨rfl, hb⟩
      have H1 := Lib.hid (HX.out w1 hb)
      have c1 := H1.out.2.2.1
      have c3 := H1.out.2.2.2
      clear hb
      go_wp2_with fail
      refine (integer_any v.text HV.out.text w1).mono ?_
      rintro e w2 ⟨rfl, hb2⟩
      have H2 := Lib.hid hb2
      clear hb2
      go_wp2
      go_ret
      exact ⟨by rw [HR.out]; rfl, H1.out.2.1.trans (H2.out.mono H1.out.2.1.size)⟩
    · have e3 : ((v.kind : Int) == 3) = false := by rw [beq_eq_false_iff_ne]; omega
      by_cases h4 : v.kind = 4
      · have HR : Hid (r = Lib.validD v.text) := by rw [← hr]; exact Lib.hid (by simp [oneM, hn, h4])
        have HN := Lib.hid hn
        have e4 : ((v.kind : Int) == 4) = true := by rw [beq_iff_eq]; omega
        clear hr hn h6 h3 h4
        go_enter Tryz.func117, Tryz.ntmps117
        go_wp2_with fail
        refine (valid_any HB.out.2 HV.out.name).mono ?_
        rw [HN.out]
        rintro e w1 ⟨rfl, hb⟩
        have H1 := Lib.hid (HX.out w1 hb)
        have c1 := H1.out.2.2.1
        have c3 := H1.out.2.2.2
        clear hb
        go_wp2_with fail
        refine (valid_any H1.out.1 HV.out.text).mono ?_
        rintro e w2 ⟨rfl, hb2⟩
        have H2 := Lib.hid hb2
        clear hb2
        go_wp2
        go_ret
        exact ⟨by rw [HR.out]; rfl, H1.out.2.1.trans (H2.out.mono H1.out.2.1.size)⟩
      · have e4 : ((v.kind : Int) == 4) = false := by rw [beq_eq_false_iff_ne]; omega
        have HR : Hid (r = v.text.isEmpty) := by rw [← hr]; exact Lib.hid (by simp [oneM, hn, h3, h4]; omega)
        have HN := Lib.hid hn
        clear hr hn h6 h3 h4
        have hE := str_empty v.text
        cases ht : v.text.isEmpty with
        | true =>
          rw [ht] at hE HR
          clear ht
          go_enter Tryz.func117, Tryz.ntmps117
          go_wp2_with fail
          refine (valid_any HB.out.2 HV.out.name).mono ?_
          rw [HN.out]
          rintro e w1 ⟨rfl, hb⟩
          have H1 := Lib.hid (HX.out w1 hb)
          have c1 := H1.out.2.2.1
          have c3 := H1.out.2.2.2
          clear hb
          go_wp2
          go_ret
          exact ⟨by rw [HR.out]; rfl, H1.out.2.1⟩
        | false =>
          rw [ht] at hE HR
          clear ht
          go_enter Tryz.func117, Tryz.ntmps117
          go_wp2_with fail
          refine (valid_any HB.out.2 HV.out.name).mono ?_
          rw [HN.out]
          rintro e w1 ⟨rfl, hb⟩
          have H1 := Lib.hid (HX.out w1 hb)
          have c1 := H1.out.2.2.1
          have c3 := H1.out.2.2.2
          clear hb
          go_wp2
          go_ret
          exact ⟨by rw [HR.out]; rfl, H1.out.2.1⟩
end Go.Proofs.YtcdeikhfmllkdaaGreatDoor
