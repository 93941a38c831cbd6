/- template.Parse. -/
import Derived.Test.YtllhpkpckjacfaaGreatDoorTmD
namespace Go.Proofs.YtllhpkpckjacfaaGreatDoor
open Go.RowKit Go.Proofs.YtllhpkpckjacfaaGreatDoorW.PrintWords PTemplateFilters
set_option linter.unusedVariables false
set_option linter.unusedSimpArgs false

theorem parse_ind {w0 : World} {g : Nat} {l : List Tok} (hl : l.length ≤ 100000) (hW : ∀ i, i < l.length → (l.getD i tok0).words.length ≤ 4096 ∧ ∀ b ∈ (l.getD i tok0).words, b.length ≤ 1000000) : ∀ F, (∀ f, f ≤ F → OneC w0 g l f) ∧ BlkC w0 g l F ∧ NdsC w0 g l F
  | 0 => ⟨fun f hf w s i A c _ _ _ h => by omega, fun w s i _ _ _ h => by omega, fun w s _ _ _ h => by omega⟩
  | F + 1 => by
    obtain ⟨h1, h2, h3⟩ := parse_ind hl hW F
    refine ⟨fun f hf => ?_, block_any h3, nodes_any hl (fun f hf => h1 f (by omega))⟩
    rcases Nat.lt_or_ge f (F + 1) with h | h
    · exact h1 f (by omega)
    · have : f = F + 1 := by omega
      subst this
      exact one_any hl hW h2
theorem splitK_all (sep : Bytes) : ∀ (k : Nat) (s : Bytes), (Lib.splitK sep 0 k s).length ≤ k + 1 ∧ ∀ x ∈ Lib.splitK sep 0 k s, x.length ≤ s.length
  | 0, s => by simp [Lib.splitK]
  | k + 1, s => by
    unfold Lib.splitK
    split
    · simp
    · obtain ⟨h1, h2⟩ := splitK_all sep k (s.drop ((Lib.index s sep).toNat + sep.length))
      refine ⟨by simp only [List.length_cons]; omega, fun x hx => ?_⟩
      rcases List.mem_cons.1 hx with rfl | hx
      · rw [List.length_take]; omega
      · have := h2 x hx
        rw [List.length_drop] at this
        omega
theorem words_len (s : Bytes) : (wordsM s).length ≤ s.length + 2 ∧ ∀ x ∈ wordsM s, x.length ≤ s.length := by
  have h := splitK_all [32] (Lib.count s [32]) s
  have hc := Lib.count_le s [32]
  unfold wordsM Lib.split
  refine ⟨Nat.le_trans (List.length_filter_le _ _) (by omega), fun x hx => h.2 x (List.mem_filter.1 hx).1⟩
def tokOk (t : Tok) : Prop := t.words.length ≤ 4096 ∧ ∀ b ∈ t.words, b.length ≤ 1000000
theorem splitM_ok (t : Bytes) (ht : t.length ≤ 4096) : ∀ (f p : Nat) (out : List Tok), (∀ x ∈ out, tokOk x) → ∀ x ∈ (splitM f t p out).1, tokOk x
  | 0, p, out, h => by simp [splitM]
  | f + 1, p, out, h => by
    unfold splitM
    split
    · obtain ⟨a, b, c, hc⟩ := cut_ex (t.drop p) [123, 123]
      obtain ⟨a2, b2, c2, hc2⟩ := cut_ex b [125, 125]
      simp only [hc, hc2]
      have ho : ∀ x ∈ (if a = [] then out else out ++ [⟨a, [], p⟩]), tokOk x := by
        intro x hx
        split at hx
        · exact h x hx
        · rcases List.mem_append.1 hx with hx | hx
          · exact h x hx
          · rw [List.mem_singleton.1 hx]; exact ⟨by simp, by simp⟩
      split
      · exact ho
      · rename_i hcc
        split
        · simp
        · refine splitM_ok t ht f _ _ ?_
          intro x hx
          rcases List.mem_append.1 hx with hx | hx
          · exact ho x hx
          · rw [List.mem_singleton.1 hx]
            have h1 := (cut_len hc).2 (by simpa using hcc)
            have h2 := (cut_len hc2).1
            have h3 := words_len a2
            have h4 : (t.drop p).length ≤ 4096 := by rw [List.length_drop]; omega
            simp only [List.length_cons, List.length_nil] at h1
            exact ⟨by show (wordsM a2).length ≤ 4096; omega, fun y hy => by have := h3.2 y hy; omega⟩
    · exact h
theorem split_ok (t : Bytes) (ht : t.length ≤ 4096) : ∀ i, i < (splitT t).1.length → ((splitT t).1.getD i tok0).words.length ≤ 4096 ∧ ∀ b ∈ ((splitT t).1.getD i tok0).words, b.length ≤ 1000000 := by
  intro i hi
  have h := splitM_ok t ht (t.length + 1) 0 [] (by simp)
  have e : splitT t = splitM (t.length + 1) t 0 [] := by unfold splitT; rw [if_neg (by omega)]
  rw [← e] at h
  rw [List.getD_eq_getElem?_getD, List.getElem?_eq_getElem hi]
  exact h _ (List.getElem_mem hi)

/-- A template, or where and why it is none. -/
def endM (l : List Tok) (r : List Nd × PS) : PS := if r.2.wrong < 0 ∧ r.2.pos < l.length then failM l r.2 r.2.pos else r.2
def parseM (t : Bytes) : Except (Int × Int) (List Nd) :=
  if (splitT t).2.2 ≠ 0 then .error ((splitT t).2.1, (splitT t).2.2)
  else if 256 < (splitT t).1.length then .error (0, 5)
  else
    let r := nodesM (3 * (splitT t).1.length + 1) (splitT t).1 ⟨0, 0, false, -1⟩
    if 0 ≤ (endM (splitT t).1 r).wrong then .error ((endM (splitT t).1 r).wrong, 9) else .ok r.1
/-- What Parse gives. -/
def PaPost (w : World) (r : Except (Int × Int) (List Nd)) (e : Ending) (w' : World) : Prop :=
  Below w.heap.size w w' ∧
  match r with
  | .error z => e = .returned (.tuple #[.pointer none, .int .i64 z.1, .int .i64 z.2])
  | .ok ns => ∃ h V d, e = .returned (.tuple #[.pointer (some ⟨h, 0, none⟩), .int .i64 0, .int .i64 0]) ∧ w.heap.size ≤ h ∧ w'.heap[h]? = some (.cells #[V] 110 (0, 0)) ∧ NdsK (fun _ => True) w' d V ns
theorem pa_ok {ok : Nat → Prop} {w w4 : World} {d : Nat} {V : Value} {ns : List Nd} (hb : Below w.heap.size w w4) (hv : NdsK ok w4 d V ns) (n : Nat) : PaPost w (.ok ns) (.returned (.tuple #[.pointer (some ⟨w4.heap.size, 0, none⟩), .int .i64 0, .int .i64 0])) ((w4.drewN n).alloc (.cells #[V] 110)) := by
  have hb2 : Below w4.heap.size w4 ((w4.drewN n).alloc (.cells #[V] 110)) := below_alloc (drawn_below (n := n)) _
  exact ⟨hb.trans (hb2.mono hb.size), w4.heap.size, V, d, rfl, hb.size, heap_alloc_new (w4.drewN n) _, NdsK.move (NdsK.swap hv (fun _ _ _ => trivial)) (same_below hb2 (Nat.le_refl _))⟩
set_option maxRecDepth 100000 in
set_option maxHeartbeats 800000 in
theorem parse_any {w : World} (hT : Tabs w) (t : Bytes) (ht : t.length ≤ 4096) : Calls Tryz.prog 36 #[.string (str t)] w (PaPost w (parseM t)) := by
  obtain ⟨r0, hr0⟩ : ∃ r, parseM t = r := ⟨_, rfl⟩
  rw [hr0]
  have HR := Lib.hid hr0
  have HSp := Lib.hid (split_any hT t ht)
  have hok := split_ok t ht
  obtain ⟨z, hz⟩ : ∃ z, splitT t = z := ⟨_, rfl⟩
  rw [hz] at HSp hok
  have HZ := Lib.hid hz
  have HOk := Lib.hid hok
  clear hr0 hok hz
  obtain ⟨l, at_, er⟩ := z
  go_enter Tryz.func36, Tryz.ntmps36
  go_upto_region 2 with (first | (go_at_call 70; (refine HSp.out.mono ?_); rintro e w2 ⟨A, c, rfl, hc, hC, hb2⟩; have H2 := Lib.hid (And.intro hc (And.intro hC hb2)); clear hc hC hb2))
  by_cases he : er = 0
  · subst he
    by_cases hl : l.length ≤ 256
    · have hl2 : ¬ ((256 : Int) < (l.length : Int)) := by omega
      go_upto_region 7 with (fail)
      generalize hW3 : w2.alloc _ = W3
      have hS : Sk w2 W3 W3 w2.heap.size l ⟨0, 0, false, -1⟩ := by
        have h := IsS106.new w2 w2 A c (l.map toS) 0 0 false (-1) (Below.refl _ _) H2.out.2.1
        rw [List.length_map] at h
        rw [← hW3]
        exact ⟨h, below_alloc (Below.refl _ _) _, KeepBut.refl _ _ _⟩
      have hb3 : Below w2.heap.size w2 W3 := by rw [← hW3]; exact below_alloc (Below.refl _ _) _
      have hnd := (parse_ind (w0 := w2) (g := w2.heap.size) (by omega) HOk.out (3 * l.length + 1)).2.2 W3 ⟨0, 0, false, -1⟩ hS (Nat.zero_le _) (by simp) (by simp)
      have hgo := (parse_goes l (3 * l.length + 1)).1 ⟨0, 0, false, -1⟩ (Nat.zero_le _)
      obtain ⟨r, hr⟩ : ∃ r, nodesM (3 * l.length + 1) l ⟨0, 0, false, -1⟩ = r := ⟨_, rfl⟩
      rw [hr] at hnd hgo
      obtain ⟨g, hg⟩ : ∃ g, w2.heap.size = g := ⟨_, rfl⟩
      rw [hg] at hnd hS
      have HNd := Lib.hid hnd
      have HGo := Lib.hid hgo
      have HS := Lib.hid hS
      have HB3 := Lib.hid (H2.out.2.2.trans (hb3.mono H2.out.2.2.size))
      have HP : Hid (r0 = (if 0 ≤ (endM l r).wrong then .error ((endM l r).wrong, 9) else .ok r.1)) := Lib.hid (by
        rw [← HR.out, parseM, HZ.out]
        dsimp only
        rw [if_neg (by simp), if_neg (by omega), hr])
      clear hnd hgo hS hr hb3 hW3
      go_upto_region 8 with (first | (go_at_call 71; (refine HNd.out.mono ?_); rintro e w4 ⟨V, rfl, hv, hs⟩; obtain ⟨B4, d4, rfl, hd4⟩ := hv.form; obtain ⟨A7, c7, m0, m1, m2, m3, m4, m5, hC7⟩ := hs.cells; have H4 := Lib.hid (And.intro hv hs); clear hv hs m5 hC7))
      by_cases hwr : r.2.wrong < 0
      · have hwi : decide (r.2.wrong < (0 : Int)) = true := decide_eq_true hwr
        by_cases hps : r.2.pos < l.length
        · have hpi : decide ((r.2.pos : Int) < (l.length : Int)) = true := decide_eq_true (by omega)
          have hpe : endM l r = failM l r.2 r.2.pos := by unfold endM; rw [if_pos ⟨hwr, hps⟩]
          have HPe := Lib.hid hpe
          have HPs := Lib.hid hps
          have hb9 : Below w4.heap.size w4 w4.drew := below_drew (Below.refl _ _)
          clear hpe
          go_wp2
          repeat (go_quiet (fail); try go_wp2_with fail)
          refine (fail_any (H4.out.2.below (by first | exact drawn_below | exact Below.refl _ _ | exact below_drew (Below.refl _ _))).start HPs.out).mono ?_
          rintro e w5 ⟨rfl, hs5⟩
          obtain ⟨A8, c8, n0, n1, n2, n3, n4, n5, hC8⟩ := hs5.cells
          have hb5 : Below w.heap.size w w5 := H2.out.2.2.trans (hs5.bel.mono H2.out.2.2.size)
          obtain ⟨q, hq⟩ : ∃ q, (failM l r.2 r.2.pos).wrong = q := ⟨_, rfl⟩
          have hq0 : 0 ≤ q := by rw [← hq]; simp [failM]
          rw [hq] at n4
          have hqi : decide (q ≥ (0 : Int)) = true := decide_eq_true hq0
          have hr : r0 = .error (q, 9) := by rw [HP.out, HPe.out, hq, if_pos hq0]
          have HRr := Lib.hid hr
          have HB5 := Lib.hid hb5
          clear hs5 n0 n1 n2 n3 n5 hC8 hr hq hb5
          go_wp2
          repeat (go_quiet (fail); try go_wp2)
          refine bodyPost_ret (results_tmp3 rfl _ _ _) rfl ⟨by first | exact HB5.out.drew | exact HB5.out | exact below_drewN HB5.out _, ?_⟩
          rw [HRr.out]
          rfl
        · have hpi : decide ((r.2.pos : Int) < (l.length : Int)) = false := decide_eq_false (by omega)
          have hr : r0 = .ok r.1 := by
            have hpe : endM l r = r.2 := by unfold endM; rw [if_neg (fun h => hps h.2)]
            rw [HP.out, hpe, if_neg (by omega)]
          have HRr := Lib.hid hr
          have hqi : decide (r.2.wrong ≥ (0 : Int)) = false := decide_eq_false (by omega)
          clear hr
          go_wp2
          repeat (go_quiet (fail); try go_wp2)
          refine bodyPost_ret (results_tmp3 rfl _ _ _) rfl ?_
          rw [HRr.out]
          exact pa_ok (H2.out.2.2.trans (H4.out.2.bel.mono H2.out.2.2.size)) H4.out.1 _
      · have hwi : decide (r.2.wrong < (0 : Int)) = false := decide_eq_false hwr
        have hr : r0 = .error (r.2.wrong, 9) := by
          have hpe : endM l r = r.2 := by unfold endM; rw [if_neg (fun h => hwr h.1)]
          rw [HP.out, hpe, if_pos (by omega)]
        have HRr := Lib.hid hr
        have hqi : decide (r.2.wrong ≥ (0 : Int)) = true := decide_eq_true (by omega)
        clear hr
        go_wp2
        repeat (go_quiet (fail); try go_wp2)
        have hb4 : Below w.heap.size w w4 := H2.out.2.2.trans (H4.out.2.bel.mono H2.out.2.2.size)
        refine bodyPost_ret (results_tmp3 rfl _ _ _) rfl ⟨by first | exact hb4.drew | exact hb4 | exact below_drewN hb4 _ | exact below_drewN (below_drewN hb4 _) _, ?_⟩
        rw [HRr.out]
        rfl
    · have hl2 : (256 : Int) < (l.length : Int) := by omega
      go_wp2
      refine bodyPost_ret (results_tmp3 rfl _ _ _) rfl ⟨H2.out.2.2, ?_⟩
      have hr : r0 = .error (0, 5) := by
        rw [← HR.out, parseM, HZ.out]
        dsimp only
        rw [if_neg (by simp), if_pos (by omega)]
      rw [hr]
      rfl
  · have he2 : ((er : Int) != 0) = true := by rw [bne_iff_ne]; omega
    go_wp2
    refine bodyPost_ret (results_tmp3 rfl _ _ _) rfl ⟨H2.out.2.2, ?_⟩
    have hr : r0 = .error (at_, er) := by
      rw [← HR.out, parseM, HZ.out]
      dsimp only
      rw [if_pos (by simpa using he)]
    rw [hr]
    rfl
end Go.Proofs.YtllhpkpckjacfaaGreatDoor
