/- request: the reader, where all is as said. -/
import Derived.Test.YtcdeikhfmllkdaaGreatDoorRpE
import Derived.BigQuiet
import Derived.Deep.QuietTactic
namespace Go.Proofs.YtcdeikhfmllkdaaGreatDoor
open Go.RowKit
set_option linter.unusedVariables false
set_option linter.unusedSimpArgs false
theorem setIf_same {cs : Array Value} {i : Nat} {v : Value} (hi : cs[i]? = some v) : cs.setIfInBounds i v = cs := by
  apply Array.ext_getElem?
  intro k
  rw [Array.getElem?_setIfInBounds]
  split
  · rename_i e
    subst e
    rw [hi, if_pos (Array.getElem?_eq_some_iff.1 hi).1]
  · rfl
theorem set_same {w : World} {g i : Nat} {cs : Array Value} {t : TypeId} {v : Value} (h : w.heap[g]? = some (.cells cs t)) (hi : cs[i]? = some v) : w.setCell ⟨g, i, none⟩ v = w := by
  have e : (w.setCell ⟨g, i, none⟩ v).heap = w.heap := by
    apply Array.ext_getElem?
    intro k
    by_cases hk : k = g
    · subst hk
      rw [blk_set h, setIf_same hi, h]
    · exact Below.heap_setCell _ _ _ _ hk
  unfold World.setCell at e ⊢
  dsimp only at e
  rw [e]
/-- A reader to which nothing was bad. -/
structure Rdr (w : World) (q : Nat) (V : Value) (l : List Val) : Prop where
  row : w.heap[q]? = some (.cells #[V, .bool false] 83)
  lst : Lst w V l
theorem Rdr.lt {w : World} {q : Nat} {V : Value} {l : List Val} (R : Rdr w q V l) : q < w.heap.size := (Array.getElem?_eq_some_iff.1 R.row).1
theorem Rdr.below {w w' : World} {q : Nat} {V : Value} {l : List Val} (R : Rdr w q V l) (b : Below w.heap.size w w') : Rdr w' q V l := ⟨(b.block _ R.lt).trans R.row, R.lst.below b⟩
theorem Rdr.c0 {w : World} {q : Nat} {V : Value} {l : List Val} (R : Rdr w q V l) : w.cell? ⟨q, 0, none⟩ = some V := (cells_of R.row 0).1
theorem Rdr.c1 {w : World} {q : Nat} {V : Value} {l : List Val} (R : Rdr w q V l) : w.cell? ⟨q, 1, none⟩ = some (.bool false) := (cells_of R.row 1).1
theorem Rdr.f {w : World} {q : Nat} {V : Value} {l : List Val} (R : Rdr w q V l) (i : Nat) : w.frozen? ⟨q, i, none⟩ = false := (cells_of R.row i).2
set_option maxRecDepth 100000 in
theorem rneed_yes {w : World} {q : Nat} {V : Value} {l : List Val} (R : Rdr w q V l) : Calls Tryz.prog 45 #[.pointer (some ⟨q, 0, none⟩), .bool true] w fun e w' => e = .returned (.bool true) ∧ w' = w := by
  have c1 := R.c1
  have f1 := R.f 1
  have HE := Lib.hid (set_same (i := 1) R.row rfl)
  clear R
  go_enter Tryz.func45, Tryz.ntmps45
  go_wp2_with fail
  go_ret
  exact ⟨rfl, HE.out⟩
set_option maxRecDepth 100000 in
theorem text_any {w : World} {q : Nat} {V : Value} {l : List Val} (R : Rdr w q V l) {i : Nat} {v : Val} (hv : l[i]? = some v) (hk : v.kind = 4) : Calls Tryz.prog 95 #[.pointer (some ⟨q, 0, none⟩), .int .i64 i] w fun e w' => e = .returned (.string (str v.text)) ∧ w' = w := by
  have c0 := R.c0
  have HN := Lib.hid (rneed_yes R)
  obtain ⟨a, cap, rfl, k0, k1, k2, k3⟩ := R.lst.at hv
  have hi := (List.getElem?_eq_some_iff.1 hv).1
  rw [hk] at k1
  clear R hv
  go_enter Tryz.func95, Tryz.ntmps95
  go_wp2_with (first | (go_at_call 45; refine HN.out.mono ?_; rintro e w2 ⟨rfl, hw⟩; rw [hw]; clear hw))
  go_ret
  exact ⟨rfl, rfl⟩

/-- strconv.Atoi answers here, of a number's text. -/
def AtoiOk (w : World) : Prop := ∀ n : Int, (Lit.int .i64 n).wf = true → Calls Tryz.prog 138 #[.string (str (Lib.itoa n))] w fun e w' => e = .returned (.tuple #[.int .i64 n, .nilIface]) ∧ Below w.heap.size w w'
set_option maxRecDepth 100000 in
set_option maxHeartbeats 1000000 in
theorem rnumber_any {w : World} {q : Nat} {V : Value} {l : List Val} (R : Rdr w q V l) (HA : AtoiOk w) {i : Nat} {v : Val} {n : Int} (hv : l[i]? = some v) (hk : v.kind = 3) (ht : v.text = Lib.itoa n) (hn : (Lit.int .i64 n).wf = true) :
    Calls Tryz.prog 96 #[.pointer (some ⟨q, 0, none⟩), .int .i64 i] w fun e w' => e = .returned (.int .i64 n) ∧ Below w.heap.size w w' := by
  have c0 := R.c0
  have HAt := Lib.hid (HA n hn)
  have HR := Lib.hid R
  obtain ⟨a, cap, rfl, k0, k1, k2, k3⟩ := R.lst.at hv
  have hi := (List.getElem?_eq_some_iff.1 hv).1
  rw [hk] at k1
  rw [ht] at k3
  have HV := Lib.hid hv
  clear R hv HA
  go_enter Tryz.func96, Tryz.ntmps96
  go_upto_region 2 with (first | (go_at_call 138; refine HAt.out.mono ?_; rintro e w2 ⟨rfl, hb2⟩; have H2 := Lib.hid hb2; clear hb2))
  have HR2 := Lib.hid (HR.out.below H2.out)
  have d0 := HR2.out.c0
  obtain ⟨a', cap', e, j0, j1, j2, j3⟩ := HR2.out.lst.at HV.out
  simp only [Value.slice.injEq, Option.some.injEq] at e
  obtain ⟨rfl, -, -⟩ := e
  rw [hk] at j1
  have HN := Lib.hid (rneed_yes HR2.out)
  clear c0 k0 k1 k2 k3
  go_wp2_with (first | (go_at_call 45; refine HN.out.mono ?_; rintro e w3 ⟨rfl, hw⟩; rw [hw]; clear hw))
  go_ret
  exact ⟨rfl, H2.out⟩

/-- Members by their names, in order. -/
structure Mems (l : List Val) (i : Int) (ks : List Nat) (names : List Bytes) : Prop where
  kids : kidsM l i = ks
  len : ks.length = names.length
  at' : ∀ (j k : Nat) (x : Bytes), ks[j]? = some k → names[j]? = some x → ∃ v, l[k]? = some v ∧ v.name = x
theorem Ints.below {w w' : World} {B : Nat} {O : Value} {o : List Nat} (h : Ints w B O o) (b : Below w.heap.size w w') : Ints w' B O o := h.kept (fun k hk => b.block _ (World.ownsRow.lt h k hk).2)
theorem Ints.ne {w : World} {B : Nat} {O : Value} {o : List Nat} (h : Ints w B O o) (hne : o ≠ []) : ∃ g cap, O = .slice (some ⟨g, 0, none⟩) o.length cap ∧ ∀ (j n : Nat), o[j]? = some n → w.cell? ⟨g, j, none⟩ = some (.int .i64 n) := by
  obtain ⟨p, cap, e, -, hc⟩ := h.form
  obtain ⟨g, hg, hc'⟩ := hc hne
  subst hg
  exact ⟨g, cap, e, hc'⟩
set_option maxRecDepth 100000 in
set_option maxHeartbeats 2000000 in
theorem rkids_any {w : World} {q : Nat} {V : Value} {l : List Val} (R : Rdr w q V l) (hl : l.length ≤ 100000) {i N : Nat} {v : Val} {ks : List Nat} {names : List Bytes} (hv : l[i]? = some v) (hk : v.kind = 6) (M : Mems l i ks names) (hne : names ≠ [])
    (hN : ∀ (j : Nat) (x : Bytes), names[j]? = some x → w.cell? ⟨N, j, none⟩ = some (.string (str x))) :
    Calls Tryz.prog 94 #[.pointer (some ⟨q, 0, none⟩), .int .i64 i, .slice (some ⟨N, 0, none⟩) names.length names.length] w fun e w' => (∃ O, e = .returned O ∧ Ints w' w.heap.size O ks) ∧ Below w.heap.size w w' := by
  have c0 := R.c0
  have HK := Lib.hid (Kids_any R.lst hl i)
  rw [M.kids] at HK
  have HR := Lib.hid R
  have HV := Lib.hid hv
  have HM := Lib.hid M
  have HNn := Lib.hid hN
  have hne' : ks ≠ [] := by intro e; exact hne (List.eq_nil_of_length_eq_zero (by rw [← M.len, e]; rfl))
  have hlen := M.len
  have hkl : ks.length ≤ l.length := by rw [← M.kids]; exact kidsR_len _ _ _
  clear R hv M hN
  go_enter Tryz.func94, Tryz.ntmps94
  go_upto_region 2 with (first | (go_at_call 26; refine HK.out.mono ?_; rintro e w2 ⟨⟨O, rfl, hO⟩, hb2⟩; have H2 := Lib.hid (And.intro hO hb2); clear hO hb2))
  obtain ⟨g, cO, rfl, hg⟩ := H2.out.1.ne hne'
  have HR2 := Lib.hid (HR.out.below H2.out.2)
  have d0 := HR2.out.c0
  obtain ⟨a, cap, e, j0, j1, j2, j3⟩ := HR2.out.lst.at HV.out
  subst e
  rw [hk] at j1
  have hi := (List.getElem?_eq_some_iff.1 HV.out).1
  have hll : ((ks.length : Int) == (names.length : Int)) = true := by rw [beq_iff_eq]; omega
  have HN2 := Lib.hid (rneed_yes HR2.out)
  clear c0 hg
  go_wp2_with (first | (go_at_call 45; refine HN2.out.mono ?_; rintro e w3 ⟨rfl, hw⟩; rw [hw]; clear hw))
  clear d0 j0 j1 j2 j3
  go_loopw [40] (fun v wr => ∃ n : Nat, v = .int .i64 n ∧ n ≤ names.length ∧ Below w2.heap.size w2 wr) (fun v _ => names.length - (intOf v).toNat)
  case atStart => exact ⟨0, rfl, by omega, Below.refl _ _⟩
  case round =>
    obtain ⟨n, rfl, hn, hr⟩ := hrel
    have HB := Lib.hid hr
    clear hr
    by_cases hlt : n < names.length
    · obtain ⟨x, hx⟩ : ∃ x, names[n]? = some x := ⟨_, List.getElem?_eq_getElem hlt⟩
      obtain ⟨k, hk'⟩ : ∃ k, ks[n]? = some k := ⟨_, List.getElem?_eq_getElem (by omega)⟩
      obtain ⟨u, hu, hux⟩ := HM.out.at' n k x hk' hx
      have hkl' := (List.getElem?_eq_some_iff.1 hu).1
      have m0 := HNn.out n x hx
      have m1 : wr.cell? ⟨N, n, none⟩ = some (.string (str x)) := (HB.out.cell (Nat.lt_of_lt_of_le (World.block_lt_of_cell? w _ m0) H2.out.2.size)).trans ((H2.out.2.cell (World.block_lt_of_cell? w _ m0)).trans m0)
      have HR3 := Lib.hid (HR2.out.below HB.out)
      have d0 := HR3.out.c0
      obtain ⟨a', cap', e, j0, j1, j2, j3⟩ := HR3.out.lst.at hu
      simp only [Value.slice.injEq, Option.some.injEq] at e
      obtain ⟨rfl, -, -⟩ := e
      obtain ⟨g', cO', e, hg⟩ := (H2.out.1.below HB.out).ne hne'
      simp only [Value.slice.injEq, Option.some.injEq, Addr.mk.injEq] at e
      obtain ⟨⟨rfl, -, -⟩, -, -⟩ := e
      have g1 := hg n k hk'
      rw [hux] at j2
      have e1 : ((str x).toList == (str x).toList) = true := beq_self_eq_true _
      have HN3 : Hid (∀ m, Calls Tryz.prog 45 #[.pointer (some ⟨q, 0, none⟩), .bool true] (wr.drewN m) fun e w' => e = .returned (.bool true) ∧ w' = wr.drewN m) := Lib.hid (fun m => rneed_yes (HR3.out.below (below_drewN (Below.refl _ _) m)))
      clear hx hk' hu hux m0 hg
      go_upto_region 7 with fail
      go_quiet ((go_at_call 45; exact Calls.quiet_of_same (HN3.out _)))
      go_wp2_with fail
      go_roundw
      case measure => simp [intOf]; omega
      case rel => exact ⟨n + 1, by go_num, by omega, below_drewN HB.out _⟩
    · go_wp2_with fail
      go_ret
      refine ⟨⟨_, rfl, ?_⟩, H2.out.2.trans (HB.out.mono H2.out.2.size)⟩
      have h := H2.out.1.below HB.out
      rw [hlen] at h
      exact h
end Go.Proofs.YtcdeikhfmllkdaaGreatDoor
