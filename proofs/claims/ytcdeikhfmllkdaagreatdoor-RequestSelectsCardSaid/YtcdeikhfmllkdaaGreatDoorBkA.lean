/- Right texts, piece by piece; what is quoted is read as it was. -/
import Derived.Test.YtcdeikhfmllkdaaGreatDoorJh
import Derived.Lib.TrimUEq
namespace Go.Proofs.YtcdeikhfmllkdaaGreatDoor
open Go.RowKit
set_option linter.unusedVariables false
set_option linter.unusedSimpArgs false

/-- One code point's bytes. -/
structure Piece (p : Bytes) (r : Nat) : Prop where
  ne : p ≠ []
  dec : Lib.decodeL p = (r, p.length)
  good : ¬ (r = 65533 ∧ p.length = 1)

theorem decN_loc (n n' b0 b1 b2 b3 c1 c2 c3 : Nat) (hn : 1 ≤ n) (hnn : n ≤ n') (hw : (Lib.decodeN n b0 b1 b2 b3).2 = n) (hg : ¬ ((Lib.decodeN n b0 b1 b2 b3).1 = 65533 ∧ n = 1))
    (e1 : 1 < n → c1 = b1) (e2 : 2 < n → c2 = b2) (e3 : 3 < n → c3 = b3) : Lib.decodeN n' b0 c1 c2 c3 = Lib.decodeN n b0 b1 b2 b3 := by
  by_cases h2 : 2 ≤ n
  · exact Lib.decodeN_more n n' b0 b1 b2 b3 c1 c2 c3 h2 hnn hw e1 e2 e3
  · obtain rfl : n = 1 := by omega
    by_cases h : b0 < 128
    · unfold Lib.decodeN; rw [if_pos h, if_pos h]
    · exfalso
      rw [Lib.decodeN_alone 1 b0 b1 b2 b3 (by omega) (.inl (Nat.le_refl _))] at hg
      exact hg ⟨rfl, rfl⟩

theorem Piece.more {p : Bytes} {r : Nat} (h : Piece p r) (u : Bytes) : Lib.decodeL (p ++ u) = (r, p.length) := by
  have hd := h.dec
  have hl : 1 ≤ p.length := List.length_pos_iff.2 h.ne
  rw [Lib.decodeL_N] at hd ⊢
  have g0 : (p ++ u).getD 0 0 = p.getD 0 0 := by simp [List.getD, List.getElem?_append_left (show 0 < p.length by omega)]
  rw [g0]
  rw [← hd]
  refine decN_loc p.length _ _ _ _ _ _ _ _ hl (by simp) (by rw [hd]) (by rw [hd]; exact h.good) (fun e => ?_) (fun e => ?_) (fun e => ?_)
  · rw [show (p ++ u).getD 1 0 = p.getD 1 0 by simp [List.getD, List.getElem?_append_left (show 1 < p.length by omega)]]
  · rw [show (p ++ u).getD 2 0 = p.getD 2 0 by simp [List.getD, List.getElem?_append_left (show 2 < p.length by omega)]]
  · rw [show (p ++ u).getD 3 0 = p.getD 3 0 by simp [List.getD, List.getElem?_append_left (show 3 < p.length by omega)]]

theorem Piece.valid {p : Bytes} {r : Nat} (h : Piece p r) (u : Bytes) : Lib.validD (p ++ u) = Lib.validD u := by
  rw [Lib.validD_step _ (by simp [h.ne]), h.more u]
  rw [if_neg h.good]
  simp

/-- The shapes of a code point's bytes. -/
theorem decN_shape (n b0 b1 b2 b3 : Nat) (hn : 1 ≤ n) (h0 : b0 < 256) (h1 : b1 < 256) (h2 : b2 < 256) (h3 : b3 < 256) (hg : ¬ ((Lib.decodeN n b0 b1 b2 b3).1 = 65533 ∧ (Lib.decodeN n b0 b1 b2 b3).2 = 1)) :
    (Lib.decodeN n b0 b1 b2 b3).2 ≤ n ∧ (((Lib.decodeN n b0 b1 b2 b3).2 = 1 ∧ b0 < 128 ∧ (Lib.decodeN n b0 b1 b2 b3).1 = b0) ∨
      (2 ≤ (Lib.decodeN n b0 b1 b2 b3).2 ∧ (Lib.decodeN n b0 b1 b2 b3).2 ≤ 4 ∧ 128 ≤ b0 ∧ 128 ≤ b1 ∧ (2 < (Lib.decodeN n b0 b1 b2 b3).2 → 128 ≤ b2) ∧ (3 < (Lib.decodeN n b0 b1 b2 b3).2 → 128 ≤ b3) ∧
        ∀ m c1 c2 c3, 1 ≤ m → m < (Lib.decodeN n b0 b1 b2 b3).2 → Lib.decodeN m b0 c1 c2 c3 = (65533, 1))) := by
  unfold Lib.decodeN at hg ⊢
  split
  · refine ⟨by simp only; omega, .inl ⟨rfl, by omega, rfl⟩⟩
  split
  · split
    · refine ⟨by simp only; omega, .inr ⟨by simp only; omega, by simp only; omega, by omega, by omega, fun h => by simp only at h; omega, fun h => by simp only at h; omega, fun m c1 c2 c3 hm hm2 => ?_⟩⟩
      simp only at hm2
      repeat' split
      all_goals first | rfl | (exfalso; omega)
    · simp_all
  split
  · split
    · refine ⟨by simp only; omega, .inr ⟨by simp only; omega, by simp only; omega, by omega, by omega, fun h => by simp only at h; omega, fun h => by simp only at h; omega, fun m c1 c2 c3 hm hm2 => ?_⟩⟩
      simp only at hm2
      repeat' split
      all_goals first | rfl | (exfalso; omega)
    · simp_all
  split
  · split
    · refine ⟨by simp only; omega, .inr ⟨by simp only; omega, by simp only; omega, by omega, by omega, fun h => by omega, fun h => by omega, fun m c1 c2 c3 hm hm2 => ?_⟩⟩
      simp only at hm2
      repeat' split
      all_goals first | rfl | (exfalso; omega)
    · simp_all
  · simp_all

theorem decN_cut {N n r b0 b1 b2 b3 c1 c2 c3 : Nat} (h : Lib.decodeN N b0 b1 b2 b3 = (r, n)) (hg : ¬ (r = 65533 ∧ n = 1)) (e1 : 1 < n → c1 = b1) (e2 : 2 < n → c2 = b2) (e3 : 3 < n → c3 = b3) : Lib.decodeN n b0 c1 c2 c3 = (r, n) := by
  unfold Lib.decodeN at h
  split at h
  · rename_i g0
    simp only [Prod.mk.injEq] at h
    obtain ⟨rfl, rfl⟩ := h
    unfold Lib.decodeN; rw [if_pos g0]
  rename_i g0
  split at h
  · rename_i g1
    split at h <;> simp only [Prod.mk.injEq] at h
    · rename_i g2
      obtain ⟨rfl, rfl⟩ := h
      have E1 := e1 (by omega)
      subst E1
      unfold Lib.decodeN; rw [if_neg g0, if_pos ⟨g1.1, by omega, g1.2.2⟩, if_pos g2]
    · exact absurd ⟨h.1.symm, h.2.symm⟩ hg
  rename_i g1
  split at h
  · rename_i g2
    split at h <;> simp only [Prod.mk.injEq] at h
    · rename_i g3
      obtain ⟨rfl, rfl⟩ := h
      have E1 := e1 (by omega)
      have E2 := e2 (by omega)
      subst E1 E2
      unfold Lib.decodeN; rw [if_neg g0, if_neg (fun x => by omega), if_pos ⟨g2.1, ⟨by omega, g2.2.1.2⟩, ⟨by omega, g2.2.2.2⟩⟩, if_pos g3]
    · exact absurd ⟨h.1.symm, h.2.symm⟩ hg
  rename_i g2
  split at h
  · rename_i g3
    split at h <;> simp only [Prod.mk.injEq] at h
    · rename_i g4
      obtain ⟨rfl, rfl⟩ := h
      have E1 := e1 (by omega)
      have E2 := e2 (by omega)
      have E3 := e3 (by omega)
      subst E1 E2 E3
      unfold Lib.decodeN; rw [if_neg g0, if_neg (fun x => by omega), if_neg (fun x => by omega), if_pos ⟨g3.1, ⟨by omega, g3.2.1.2⟩, ⟨by omega, g3.2.2.1.2⟩, ⟨by omega, g3.2.2.2.2⟩⟩, if_pos g4]
    · exact absurd ⟨h.1.symm, h.2.symm⟩ hg
  · simp only [Prod.mk.injEq] at h
    exact absurd ⟨h.1.symm, h.2.symm⟩ hg

theorem getD_lt (l : Bytes) (k : Nat) : (l.getD k 0).toNat < 256 := UInt8.toNat_lt _

/-- The first code point of a text, where it is right. -/
theorem piece_of {l : Bytes} (hne : l ≠ []) (hg : ¬ ((Lib.decodeL l).1 = 65533 ∧ (Lib.decodeL l).2 = 1)) : (Lib.decodeL l).2 ≤ l.length ∧ Piece (l.take (Lib.decodeL l).2) (Lib.decodeL l).1 := by
  have hl : 1 ≤ l.length := List.length_pos_iff.2 hne
  have hs := decN_shape l.length _ _ _ _ hl (getD_lt l 0) (getD_lt l 1) (getD_lt l 2) (getD_lt l 3) (by rw [← Lib.decodeL_N]; exact hg)
  rw [← Lib.decodeL_N] at hs
  obtain ⟨h1, h2⟩ := hs
  have hw : 1 ≤ (Lib.decodeL l).2 := Lib.decodeL_width l
  obtain ⟨n, hn⟩ : ∃ n, (Lib.decodeL l).2 = n := ⟨_, rfl⟩
  obtain ⟨r, hr⟩ : ∃ r, (Lib.decodeL l).1 = r := ⟨_, rfl⟩
  rw [hn, hr] at hg h2
  rw [hn] at h1 hw
  rw [hn, hr]
  refine ⟨h1, ?_⟩
  have hlen : (l.take n).length = n := by rw [List.length_take]; omega
  have gk : ∀ k, k < n → (l.take n).getD k 0 = l.getD k 0 := fun k hk => by simp [List.getD, List.getElem?_take, hk]
  refine ⟨by intro e; rw [e] at hlen; simp at hlen; omega, ?_, by rw [hlen]; exact hg⟩
  rw [hlen]
  have hd : Lib.decodeL l = (r, n) := by rw [← hn, ← hr]
  rw [Lib.decodeL_N] at hd ⊢
  rw [hlen, gk 0 (by omega)]
  exact decN_cut hd hg (fun e => by rw [gk 1 e]) (fun e => by rw [gk 2 e]) (fun e => by rw [gk 3 e])

theorem valid_split {l : Bytes} (hne : l ≠ []) (hv : Lib.validD l = true) : ∃ p u r, l = p ++ u ∧ Piece p r ∧ Lib.validD u = true := by
  rw [Lib.validD_step l hne] at hv
  split at hv
  · cases hv
  · rename_i hg
    obtain ⟨h1, h2⟩ := piece_of hne hg
    exact ⟨_, _, _, (List.take_append_drop _ l).symm, h2, hv⟩

/-- A piece is one small byte, or two to four great ones. -/
theorem Piece.form {p : Bytes} {r : Nat} (h : Piece p r) : (∃ c : UInt8, p = [c] ∧ c.toNat < 128 ∧ r = c.toNat) ∨ (2 ≤ p.length ∧ p.length ≤ 4 ∧ (∀ c ∈ p, 128 ≤ c.toNat) ∧ ∀ q, q ≠ [] → q.length < p.length → q = p.take q.length → Lib.decodeL q = (65533, 1)) := by
  have hl : 1 ≤ p.length := List.length_pos_iff.2 h.ne
  have hd := h.dec
  have hs := decN_shape p.length _ _ _ _ hl (getD_lt p 0) (getD_lt p 1) (getD_lt p 2) (getD_lt p 3) (by rw [← Lib.decodeL_N, hd]; exact h.good)
  rw [← Lib.decodeL_N, hd] at hs
  obtain ⟨_, hs⟩ := hs
  rcases hs with ⟨h1, h2, h3⟩ | ⟨h1, h2, h3, h4, h5, h6, h7⟩
  · left
    simp only at h1 h2 h3
    obtain ⟨c, rfl⟩ := List.length_eq_one_iff.1 h1
    exact ⟨c, rfl, by simpa using h2, by simpa using h3⟩
  · right
    simp only at h1 h2 h3 h4 h5 h6 h7
    refine ⟨h1, h2, fun c hc => ?_, fun q hq hlt he => ?_⟩
    · obtain ⟨j, hj, rfl⟩ := List.mem_iff_getElem.1 hc
      have e : p[j] = p.getD j 0 := by simp [List.getD, hj]
      have hj4 : j = 0 ∨ j = 1 ∨ j = 2 ∨ j = 3 := by omega
      rcases hj4 with rfl | rfl | rfl | rfl
      · rw [e]; exact h3
      · rw [e]; exact h4
      · rw [e]; exact h5 (by omega)
      · rw [e]; exact h6 (by omega)
    · rw [Lib.decodeL_N]
      have : q.getD 0 0 = p.getD 0 0 := by
        have hq0 : 0 < q.length := List.length_pos_iff.2 hq
        rw [he]; simp [List.getD, List.getElem?_take, hq0]
      rw [this]
      exact h7 _ _ _ _ (List.length_pos_iff.2 hq) hlt

theorem dec_go (l : Bytes) (hne : l ≠ []) : Lib.decodeGo (str l) = Lib.decodeL l := by
  unfold Lib.decodeGo
  have h : (str l).size ≠ 0 := by rw [str_size]; exact fun e => hne (List.eq_nil_of_length_eq_zero e)
  first
    | rw [if_neg h]; rfl
    | (simp only [h, if_false]; rfl)
end Go.Proofs.YtcdeikhfmllkdaaGreatDoor
