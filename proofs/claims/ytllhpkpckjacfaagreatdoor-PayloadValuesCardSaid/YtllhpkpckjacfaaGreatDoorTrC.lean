/- template's rendering: nodes and one. -/
import Derived.Test.YtllhpkpckjacfaaGreatDoorTrB
namespace Go.Proofs.YtllhpkpckjacfaaGreatDoor
open Go.RowKit Go.Proofs.YtllhpkpckjacfaaGreatDoorW.PrintWords PTemplateFilters
set_option linter.unusedVariables false
set_option linter.unusedSimpArgs false

/-- What rendering leaves. -/
def RnPost (w0 w : World) (b : Nat) (pre : List Value) (al : List S40) (l : Bytes) (e : Ending) (w' : World) : Prop :=
  e = .returned (.int .i64 0) ∧ RunK w0 w' b pre al l ∧ Wf w0.heap.size b w w'
def RnC (w0 : World) (b : Nat) (pre : List Value) (m : MsgM) (d : Nat) : Prop :=
  ∀ (w : World) (al : List S40) (l : Bytes) (V : Value) (ns : List Nd), RunK w0 w b pre al l → NdsK (fun _ => True) w0 d V ns → (∀ x ∈ ns, goodM m d al x) → (l ++ rendsM m d al ns).length ≤ 65536 → ns.length ≤ 1000000 →
    Calls Tryz.prog 79 #[.pointer (some ⟨b, 0, none⟩), V] w (RnPost w0 w b pre al (l ++ rendsM m d al ns))
def RoC (w0 : World) (b : Nat) (pre : List Value) (m : MsgM) (d : Nat) : Prop :=
  ∀ (w : World) (al : List S40) (l : Bytes) (v : Value) (x : Nd), RunK w0 w b pre al l → NdK (fun _ => True) w0 d v x → goodM m d al x → (l ++ rendM m d al x).length ≤ 65536 →
    Calls Tryz.prog 106 #[.pointer (some ⟨b, 0, none⟩), v] w (RnPost w0 w b pre al (l ++ rendM m d al x))
/-- What the loop over nodes keeps. -/
def RnRel (w0 w : World) (b : Nat) (pre : List Value) (m : MsgM) (d : Nat) (al : List S40) (l : Bytes) (ns : List Nd) (v : Value) (wr : World) : Prop :=
  ∃ j : Nat, v = .int .i64 j ∧ j ≤ ns.length ∧ RunK w0 wr b pre al (l ++ rendsM m d al (ns.take j)) ∧ Wf w0.heap.size b w wr
theorem rends_take (m : MsgM) (d : Nat) (al : List S40) (ns : List Nd) {j : Nat} (h : j < ns.length) : rendsM m d al (ns.take (j + 1)) = rendsM m d al (ns.take j) ++ rendM m d al ns[j] := by
  unfold rendsM
  rw [List.take_add_one, List.getElem?_eq_getElem h]
  simp only [List.flatMap_append, Option.toList_some, List.flatMap_cons, List.flatMap_nil, List.append_nil]
theorem rends_le (m : MsgM) (d : Nat) (al : List S40) (ns : List Nd) (j : Nat) : (rendsM m d al (ns.take j)).length ≤ (rendsM m d al ns).length := by
  have : rendsM m d al ns = rendsM m d al (ns.take j) ++ rendsM m d al (ns.drop j) := by
    unfold rendsM
    rw [← List.flatMap_append, List.take_append_drop]
  rw [this, List.length_append]
  omega
set_option maxRecDepth 100000 in
set_option maxHeartbeats 800000 in
theorem rnodes_any {w0 : World} {b : Nat} {pre : List Value} {m : MsgM} {d : Nat} (HO : RoC w0 b pre m d) : RnC w0 b pre m d := by
  intro w al l V ns hR hN hg hlen hcount
  obtain ⟨A, c, rfl, hc⟩ := hN.form
  have HR := Lib.hid hR
  have HN := Lib.hid hN
  have HG := Lib.hid hg
  have HL := Lib.hid hlen
  clear hR hN hg hlen
  go_enter Tryz.func79, Tryz.ntmps79
  go_wp2_with fail
  go_loopw [10] (fun v wr => RnRel w0 w b pre m d al l ns v wr) (fun v _ => match v with | .int _ k => ns.length - k.toNat | _ => 0)
  case atStart => exact ⟨0, rfl, Nat.zero_le _, by simpa [rendsM] using HR.out, Wf.refl _ _ _⟩
  case round =>
    obtain ⟨j, rfl, hj, hRr, hf⟩ := hrel
    by_cases hjl : j < ns.length
    · have hji : (j : Int) < (ns.length : Int) := by omega
      have hj0 : (0 : Int) ≤ (j : Int) := by omega
      obtain ⟨ad1, c9, V9, hA9, _, hc9, hV9⟩ := (RowK.move HN.out (same_below hRr.bel (Nat.le_refl _))).at hjl
      injection hA9 with hA9 _ hcc
      subst hA9
      subst hcc
      have e1 := rends_take m d al ns hjl
      have hle := rends_le m d al ns (j + 1)
      have hl2 : (l ++ rendsM m d al (ns.take j) ++ rendM m d al ns[j]).length ≤ 65536 := by
        rw [List.append_assoc, ← e1]
        have := HL.out
        rw [List.length_append] at this ⊢
        omega
      have hone := HO wr al _ V9 ns[j] hRr hV9 (HG.out _ (List.getElem_mem hjl)) hl2
      rw [List.append_assoc, ← e1] at hone
      have HOne := Lib.hid hone
      have HF := Lib.hid hf
      have HJ := Lib.hid hjl
      have hw1 : IntKind.i64.wrap ((j : Int) + 1) = ((j + 1 : Nat) : Int) := by rw [IntKind.wrap_i64]; omega
      obtain ⟨T9, u9, rfl⟩ := NdK.iface hV9
      clear hone hf hjl hV9 e1 hle hl2 hRr
      go_wp2_with (first | (go_at_call 106; (refine HOne.out.mono ?_); rintro e w5 ⟨rfl, hr5, hf5⟩))
      go_roundw
      case rel => exact ⟨j + 1, rfl, HJ.out, hr5, HF.out.trans hf5⟩
      case measure => have := HJ.out; simp; omega
    · have hji : ¬ (j : Int) < (ns.length : Int) := by omega
      have ht : ns.take j = ns := List.take_of_length_le (by omega)
      rw [ht] at hRr
      have HRr := Lib.hid hRr
      have HF := Lib.hid hf
      clear hRr hf ht
      go_wp2
      go_ret
      exact ⟨rfl, HRr.out, HF.out⟩
theorem ta156_156 (u : Value) (w : World) : Sem.run Tryz.prog (Instr.typeAssert (.iface 156 u) 132 156 true) w = .ok (.tuple #[u, .bool true]) w := by
  kernel_rfl
theorem ta163_156 (u : Value) (w : World) : Sem.run Tryz.prog (Instr.typeAssert (.iface 163 u) 132 156 true) w = .ok (.tuple #[.string ⟨#[]⟩, .bool false]) w := by
  kernel_rfl
theorem ta163_163 (u : Value) (w : World) : Sem.run Tryz.prog (Instr.typeAssert (.iface 163 u) 132 163 true) w = .ok (.tuple #[u, .bool true]) w := by
  kernel_rfl
theorem ta159_156 (u : Value) (w : World) : Sem.run Tryz.prog (Instr.typeAssert (.iface 159 u) 132 156 true) w = .ok (.tuple #[.string ⟨#[]⟩, .bool false]) w := by
  kernel_rfl
theorem ta159_163 (u : Value) (w : World) : Sem.run Tryz.prog (Instr.typeAssert (.iface 159 u) 132 163 true) w = .ok (.tuple #[.agg #[.slice none 0 0, .slice none 0 0], .bool false]) w := by
  kernel_rfl
theorem ta159_159 (u : Value) (w : World) : Sem.run Tryz.prog (Instr.typeAssert (.iface 159 u) 132 159 true) w = .ok (.tuple #[u, .bool true]) w := by
  kernel_rfl
theorem ta167_156 (u : Value) (w : World) : Sem.run Tryz.prog (Instr.typeAssert (.iface 167 u) 132 156 true) w = .ok (.tuple #[.string ⟨#[]⟩, .bool false]) w := by
  kernel_rfl
theorem ta167_163 (u : Value) (w : World) : Sem.run Tryz.prog (Instr.typeAssert (.iface 167 u) 132 163 true) w = .ok (.tuple #[.agg #[.slice none 0 0, .slice none 0 0], .bool false]) w := by
  kernel_rfl
theorem ta167_159 (u : Value) (w : World) : Sem.run Tryz.prog (Instr.typeAssert (.iface 167 u) 132 159 true) w = .ok (.tuple #[.agg #[.string ⟨#[]⟩, .slice none 0 0], .bool false]) w := by
  kernel_rfl
theorem ta167_167 (u : Value) (w : World) : Sem.run Tryz.prog (Instr.typeAssert (.iface 167 u) 132 167 true) w = .ok (.tuple #[u, .bool true]) w := by
  kernel_rfl
theorem RunK.setAlert {w0 w : World} {b : Nat} {pre : List Value} {al al' : List S40} {l : Bytes} (h : RunK w0 w b pre al l) (hpre : pre.length = 5) {Va : Value} (hA : PairsC w0 Va al') (n : Int) : RunK w0 ((w.setCell ⟨b, 7, none⟩ Va).setCell ⟨b, 8, none⟩ (.int .i64 n)) b pre al' l := by
  obtain ⟨Va0, idx, hA0, hW⟩ := h.wb
  have h1 := (hW.setRest 0 Va).setRest 1 (.int .i64 n)
  exact ⟨⟨Va, n, hA, h1⟩, (h.bel.setCell h.ge _).setCell h.ge _⟩
theorem kept_box {w0 w w1 : World} {b q : Nat} {cs : Array Value} {t : TypeId} (hf : Wf w0.heap.size b w w1) (hb : w.heap[q]? = some (.cells cs t (0, 0))) (ht : t ≠ 5) (hq : q ≠ b) : w1.heap[q]? = some (.cells cs t (0, 0)) :=
  hf.others q _ hb (by intro e; injection e with e; exact hq e) (by intro c fz e; injection e with _ e _; exact ht e)
/-- What the loop over alerts keeps. -/
def LoRel (w0 W1 : World) (b : Nat) (pre : List Value) (m : MsgM) (d : Nat) (l : Bytes) (inn : List Nd) (L : List (List S40)) (v : Value) (wr : World) : Prop :=
  ∃ (j : Nat) (al' : List S40), v = .int .i64 j ∧ j ≤ L.length ∧ RunK w0 wr b pre al' (l ++ (L.take j).flatMap (fun z => rendsM m d z inn)) ∧ Wf w0.heap.size b W1 wr
set_option maxRecDepth 100000 in
set_option maxHeartbeats 800000 in
theorem rone_any {w0 : World} (hT : Tabs w0) {b : Nat} {pre : List Value} {m : MsgM} {d : Nat} (hM : MsgC w0 m pre) (HN : RnC w0 b pre m d) : RoC w0 b pre m (d + 1) := by
  intro w al l v x hR hx hg hlen
  have hpre : pre.length = 5 := by obtain ⟨_, _, _, rfl, _⟩ := hM; rfl
  cases x with
  | lit s =>
    have hv : v = .iface 156 (.string (str s)) := hx
    subst hv
    have hl : (l ++ s).length ≤ 65536 := hlen
    have HSay := Lib.hid (say_any hR hpre s hl)
    have a1 := ta156_156 (.string (str s))
    clear hx hg hlen hR hl
    go_enter Tryz.func106, Tryz.ntmps106
    go_wp2_with (first | (go_at_call 131; (refine HSay.out.mono ?_); rintro e w5 ⟨rfl, hr5, hf5⟩))
    go_ret
    exact ⟨rfl, hr5, hf5⟩
  | place a fl =>
    obtain ⟨V0, V1, rfl, h0, h1⟩ := hx
    have hl : (l ++ plM m al a fl).length ≤ 65536 := hlen
    obtain ⟨A0, c0, rfl, hc0⟩ := h0.form
    obtain ⟨A1, c1, rfl, hc1⟩ := h1.form
    have a1 := ta163_156 (.agg #[.slice A0 a.length c0, .slice A1 fl.length c1])
    have a2 := ta163_163 (.agg #[.slice A0 a.length c0, .slice A1 fl.length c1])
    have hb1 : Below w.heap.size w (w.alloc (.cells #[.slice A0 a.length c0, .slice A1 fl.length c1] 163)) := below_alloc (Below.refl _ _) _
    have HVa := Lib.hid (value_any hT (hR.below hb1) hM h0 h1 hg)
    have HR := Lib.hid hR
    have HB1 := Lib.hid hb1
    have HL := Lib.hid hl
    clear h0 h1 hg hlen hl hR hb1
    go_enter Tryz.func106, Tryz.ntmps106
    go_wp2_with (first | (go_at_call 132; (refine HVa.out.mono ?_); rintro e w5 ⟨rfl, hb5⟩) | (go_at_call 131; (refine (say_any ((HR.out.below HB1.out).below hb5) hpre (plM m al a fl) HL.out).mono ?_); rintro e w6 ⟨rfl, hr6, hf6⟩))
    go_ret
    exact ⟨rfl, hr6, (Wf.ofBelow HR.out.bel.size (HB1.out.trans (hb5.mono HB1.out.size))).trans hf6⟩
  | loop s inn =>
    obtain ⟨V, rfl, h0⟩ := hx
    obtain ⟨hal, hin, hL64, hgi⟩ := hg
    subst hal
    obtain ⟨A, c, rfl, hc⟩ := h0.form
    obtain ⟨L, hLe⟩ : ∃ L, listsM m s = L := ⟨_, rfl⟩
    have hlen2 : (l ++ L.flatMap (fun z => rendsM m d z inn)).length ≤ 65536 := by rw [← hLe]; exact hlen
    have HE : Hid (rendM m (d + 1) [] (.loop s inn) = L.flatMap (fun z => rendsM m d z inn)) := Lib.hid (by rw [← hLe]; rfl)
    rw [hLe] at hL64 hgi
    have a1 := ta159_156 (.agg #[.string (str s), .slice A inn.length c])
    have a2 := ta159_163 (.agg #[.string (str s), .slice A inn.length c])
    have a3 := ta159_159 (.agg #[.string (str s), .slice A inn.length c])
    obtain ⟨W1, hW1⟩ : ∃ W, w.alloc (.cells #[.string (str s), .slice A inn.length c] 159) = W := ⟨_, rfl⟩
    have hb1 : Below w.heap.size w W1 := by rw [← hW1]; exact below_alloc (Below.refl _ _) _
    have hbx : W1.heap[w.heap.size]? = some (.cells #[.string (str s), .slice A inn.length c] 159 (0, 0)) := by rw [← hW1]; exact heap_alloc_new w _
    have hli := list_any (hR.below hb1) hM s
    rw [hLe] at hli
    have q0 : W1.cell? ⟨w.heap.size, 0, none⟩ = some (.string (str s)) := (blk_cell hbx 0).trans rfl
    have hbq : w.heap.size ≠ b := by have := hR.lt; omega
    have HLi := Lib.hid hli
    have HR := Lib.hid hR
    have HB1 := Lib.hid hb1
    have HBx := Lib.hid hbx
    have HG := Lib.hid hgi
    have HLn := Lib.hid hlen2
    have H0 := Lib.hid h0
    have HLe := Lib.hid hLe
    obtain ⟨q, hq⟩ : ∃ q, w.heap.size = q := ⟨_, rfl⟩
    have HQ := Lib.hid hq
    rw [hq] at HBx hbq q0
    clear h0 hgi hlen hlen2 hR hb1 hbx hli hLe
    go_enter Tryz.func106, Tryz.ntmps106
    go_wp2_with (first | (go_at_call 133; (refine HLi.out.mono ?_); rintro e w2 ⟨VL, rfl, hVL, hb2⟩; obtain ⟨AL, cL, rfl, hcL⟩ := hVL.form))
    go_loopw [46] (fun v wr => LoRel w0 W1 b pre m d l inn L v wr) (fun v _ => match v with | .int _ k => L.length - k.toNat | _ => 0)
    case atStart => exact ⟨0, [], rfl, Nat.zero_le _, by simpa using (HR.out.below HB1.out).below hb2, Wf.ofBelow (HR.out.below HB1.out).bel.size hb2⟩
    case round =>
      obtain ⟨j, al', rfl, hj, hRr, hf⟩ := hrel
      obtain ⟨p9, v9, Va9, idx9, Vg9, Vf9, Vr9, hb, _, _, _, _⟩ := hRr.row hM
      have d7 : wr.cell? ⟨b, 7, none⟩ = some Va9 := (blk_cell hb 7).trans rfl
      have d8 : wr.cell? ⟨b, 8, none⟩ = some (.int .i64 idx9) := (blk_cell hb 8).trans rfl
      have f7 := blk_frozen hb 7
      have f8 := blk_frozen hb 8
      by_cases hjl : j < L.length
      · have hji : (j : Int) < (L.length : Int) := by omega
        have hj0 : (0 : Int) ≤ (j : Int) := by omega
        obtain ⟨ad1, c9, V9, hA9, _, hc9, hV9⟩ := (RowK.move hVL (same_below hRr.bel (Nat.le_refl _))).at hjl
        injection hA9 with hA9 _ hcc
        subst hA9
        subst hcc
        have hbq1 := kept_box hf HBx.out (by decide) hbq
        have q1 : wr.cell? ⟨q, 1, none⟩ = some (.slice A inn.length c) := (blk_cell hbq1 1).trans rfl
        have hP := hV9
        obtain ⟨Aj, cj, rfl, hcj, hCj⟩ := hV9
        have e1 : (L.take (j + 1)).flatMap (fun z => rendsM m d z inn) = (L.take j).flatMap (fun z => rendsM m d z inn) ++ rendsM m d L[j] inn := by
          rw [List.take_add_one, List.getElem?_eq_getElem hjl]
          simp only [List.flatMap_append, Option.toList_some, List.flatMap_cons, List.flatMap_nil, List.append_nil]
        have hle : ((L.take (j + 1)).flatMap (fun z => rendsM m d z inn)).length ≤ (L.flatMap (fun z => rendsM m d z inn)).length := by
          have : L.flatMap (fun z => rendsM m d z inn) = (L.take (j + 1)).flatMap (fun z => rendsM m d z inn) ++ (L.drop (j + 1)).flatMap (fun z => rendsM m d z inn) := by
            rw [← List.flatMap_append, List.take_append_drop]
          rw [this, List.length_append]
          omega
        have hnd := HN _ L[j] _ (.slice A inn.length c) inn (hRr.setAlert hpre hP ((j + 1 : Nat) : Int)) H0.out (HG.out _ (List.getElem_mem hjl)) (by
          rw [List.append_assoc, ← e1]
          have := HLn.out
          rw [List.length_append] at this ⊢
          omega) hin
        rw [List.append_assoc, ← e1] at hnd
        have hw1 : IntKind.i64.wrap ((j : Int) + 1) = ((j + 1 : Nat) : Int) := by rw [IntKind.wrap_i64]; omega
        have hwf : Wf w0.heap.size b W1 ((wr.setCell ⟨b, 7, none⟩ (.slice Aj L[j].length cj)).setCell ⟨b, 8, none⟩ (.int .i64 ((j + 1 : Nat) : Int))) := (hf.trans (Wf.set _ hRr.ge 7 _)).trans (Wf.set _ hRr.ge 8 _)
        have hq8 : b ≠ q := fun e => hbq e.symm
        have HNd := Lib.hid hnd
        have HWf := Lib.hid hwf
        have HJ := Lib.hid hjl
        clear hnd hwf hP hcj hCj e1 hle hb hf hRr hbq1
        go_wp2_with (first | (go_at_call 79; (refine HNd.out.mono ?_); rintro e w5 ⟨rfl, hr5, hf5⟩))
        go_roundw
        case rel => exact ⟨j + 1, _, rfl, HJ.out, hr5, HWf.out.trans hf5⟩
        case measure => have := HJ.out; simp; omega
      · have hji : ¬ (j : Int) < (L.length : Int) := by omega
        have ht : L.take j = L := List.take_of_length_le (by omega)
        rw [ht] at hRr
        have HRr := Lib.hid hRr
        have HF := Lib.hid hf
        clear hRr hf ht hb
        go_wp2
        go_ret
        rw [HE.out]
        exact ⟨rfl, HRr.out.setAlert hpre (PairsC.nil w0) 0, (Wf.ofBelow HR.out.bel.size HB1.out).trans ((HF.out.trans (Wf.set _ HRr.out.ge 7 _)).trans (Wf.set _ HRr.out.ge 8 _))⟩
  | choice a fl y n =>
    obtain ⟨V0, V1, V2, V3, rfl, h0, h1, h2, h3⟩ := hx
    obtain ⟨hgp, hcy, hcn, hgy, hgn⟩ := hg
    obtain ⟨A0, c0, rfl, hc0⟩ := h0.form
    obtain ⟨A1, c1, rfl, hc1⟩ := h1.form
    obtain ⟨A2, c2, rfl, hc2⟩ := h2.form
    obtain ⟨A3, c3, rfl, hc3⟩ := h3.form
    have a1 := ta167_156 (.agg #[.slice A0 a.length c0, .slice A1 fl.length c1, .slice A2 y.length c2, .slice A3 n.length c3])
    have a2 := ta167_163 (.agg #[.slice A0 a.length c0, .slice A1 fl.length c1, .slice A2 y.length c2, .slice A3 n.length c3])
    have a3 := ta167_159 (.agg #[.slice A0 a.length c0, .slice A1 fl.length c1, .slice A2 y.length c2, .slice A3 n.length c3])
    have a4 := ta167_167 (.agg #[.slice A0 a.length c0, .slice A1 fl.length c1, .slice A2 y.length c2, .slice A3 n.length c3])
    obtain ⟨W1, hW1⟩ : ∃ W, w.alloc (.cells #[.slice A0 a.length c0, .slice A1 fl.length c1, .slice A2 y.length c2, .slice A3 n.length c3] 167) = W := ⟨_, rfl⟩
    have hb1 : Below w.heap.size w W1 := by rw [← hW1]; exact below_alloc (Below.refl _ _) _
    have hbx : W1.heap[w.heap.size]? = some (.cells #[.slice A0 a.length c0, .slice A1 fl.length c1, .slice A2 y.length c2, .slice A3 n.length c3] 167 (0, 0)) := by rw [← hW1]; exact heap_alloc_new w _
    have q0 : W1.cell? ⟨w.heap.size, 0, none⟩ = some (.slice A0 a.length c0) := (blk_cell hbx 0).trans rfl
    have q1 : W1.cell? ⟨w.heap.size, 1, none⟩ = some (.slice A1 fl.length c1) := (blk_cell hbx 1).trans rfl
    have HVa := Lib.hid (value_any hT (hR.below hb1) hM h0 h1 hgp)
    have HR := Lib.hid hR
    have HB1 := Lib.hid hb1
    have HBx := Lib.hid hbx
    have HG := Lib.hid (And.intro hgy hgn)
    have H23 := Lib.hid (And.intro h2 h3)
    have HL := Lib.hid hlen
    clear h0 h1 h2 h3 hgp hlen hR hb1 hbx hgy hgn
    go_enter Tryz.func106, Tryz.ntmps106
    go_upto_region 27 with (first | (go_at_call 132; (refine HVa.out.mono ?_); rintro e w2 ⟨rfl, hb2⟩))
    obtain ⟨pl, hpl⟩ : ∃ o, plM m al a fl = o := ⟨_, rfl⟩
    have HPl := Lib.hid hpl
    have hbq2 := blk_below HBx.out hb2
    have q2 : w2.cell? ⟨w.heap.size, 2, none⟩ = some (.slice A2 y.length c2) := (blk_cell hbq2 2).trans rfl
    have q3 : w2.cell? ⟨w.heap.size, 3, none⟩ = some (.slice A3 n.length c3) := (blk_cell hbq2 3).trans rfl
    have HR2 := Lib.hid ((HR.out.below HB1.out).below hb2)
    have HB2 := Lib.hid (HB1.out.trans (hb2.mono HB1.out.size))
    clear hbq2 hb2
    go_cut [88] (fun v88 wx => v88 = .bool (!pl.isEmpty) ∧ wx = w2)
    case first =>
      have hE := str_empty (plM m al a fl)
      go_wp2
      go_meet
      case rel => exact ⟨by rw [str_empty], rfl⟩
    case rest =>
      obtain ⟨rfl, hwx⟩ := hcut
      rw [hwx]
      clear hwx hpl
      have hl := HL.out
      by_cases hp0 : pl = []
      · have hr : rendM m (d + 1) al (.choice a fl y n) = rendsM m d al n := by show (if plM m al a fl = [] then _ else _) = _; rw [HPl.out, if_pos hp0]; rfl
        rw [hr] at hl
        have HNd := Lib.hid (HN w2 al l _ n HR2.out H23.out.2 HG.out.2 hl hcn)
        have HRr := Lib.hid hr
        have hpe : pl.isEmpty = true := by rw [hp0]; rfl
        rw [hpe]
        clear hr hl hp0 hpe
        go_wp2_with (first | (go_at_call 79; (refine HNd.out.mono ?_); rintro e w5 ⟨rfl, hr5, hf5⟩))
        go_ret
        rw [HRr.out]
        exact ⟨rfl, hr5, (Wf.ofBelow HR.out.bel.size HB2.out).trans hf5⟩
      · have hr : rendM m (d + 1) al (.choice a fl y n) = rendsM m d al y := by show (if plM m al a fl = [] then _ else _) = _; rw [HPl.out, if_neg hp0]; rfl
        rw [hr] at hl
        have HNd := Lib.hid (HN w2 al l _ y HR2.out H23.out.1 HG.out.1 hl hcy)
        have HRr := Lib.hid hr
        have hpe : pl.isEmpty = false := by cases pl with | nil => exact absurd rfl hp0 | cons _ _ => rfl
        rw [hpe]
        clear hr hl hp0 hpe
        go_wp2_with (first | (go_at_call 79; (refine HNd.out.mono ?_); rintro e w5 ⟨rfl, hr5, hf5⟩))
        go_ret
        rw [HRr.out]
        exact ⟨rfl, hr5, (Wf.ofBelow HR.out.bel.size HB2.out).trans hf5⟩
theorem rend_ind {w0 : World} (hT : Tabs w0) {b : Nat} {pre : List Value} {m : MsgM} (hM : MsgC w0 m pre) : ∀ d, RnC w0 b pre m d
  | 0 => rnodes_any (fun w al l v x _ h => h.elim)
  | d + 1 => rnodes_any (rone_any hT hM (rend_ind hT hM d))
end Go.Proofs.YtllhpkpckjacfaaGreatDoor
