/- request: alerts as values: what Put and Read ask of them. -/
import Derived.Test.YtcdeikhfmllkdaaGreatDoorRpB
import Derived.Test.YtcdeikhfmllkdaaGreatDoorBkD
import Derived.WalkArith
import Derived.DataShut
namespace Go.Proofs.YtcdeikhfmllkdaaGreatDoor
open Go.RowKit
set_option linter.unusedVariables false
set_option linter.unusedSimpArgs false
/-- An alert as it may come, of bulk at most B. -/
structure OkAl (B : Nat) (a : AlM) : Prop where
  s0 : (Lit.int .i64 a.start).wf = true
  s1 : (Lit.int .i64 a.stop).wf = true
  labs : ∀ p ∈ a.labels, p.1.length ≤ B ∧ p.2.length ≤ B
  len : a.labels.length ≤ B
theorem OkAl.mono {B C : Nat} {a : AlM} (h : OkAl B a) (hb : B ≤ C) : OkAl C a := ⟨h.s0, h.s1, fun p hp => ⟨Nat.le_trans (h.labs p hp).1 hb, Nat.le_trans (h.labs p hp).2 hb⟩, Nat.le_trans h.len hb⟩
theorem wf_i64' {n : Int} (h : (Lit.int .i64 n).wf = true) : -9223372036854775808 ≤ n ∧ n ≤ 9223372036854775807 := (Lit.wf_int_iff .i64 n).1 h
theorem OkAl.start_len {B : Nat} {a : AlM} (h : OkAl B a) : (Lib.itoa a.start).length ≤ 21 := itoa_len _ (wf_i64' h.s0).1 (wf_i64' h.s0).2
theorem OkAl.stop_len {B : Nat} {a : AlM} (h : OkAl B a) : (Lib.itoa a.stop).length ≤ 21 := itoa_len _ (wf_i64' h.s1).1 (wf_i64' h.s1).2
theorem alertV_mem {n : Nat} {a : AlM} {v : Val} (h : v ∈ alertV n a) : v = objV ∨ v = lobV n ∨ (∃ x ∈ a.labels, v = labV (n + 1) x) ∨ v = numV n nStart a.start ∨ v = numV n nEnd a.stop := by
  simp only [alertV, List.mem_cons, List.mem_append, List.mem_map, List.mem_nil_iff, or_false] at h
  rcases h with h | h | ⟨x, hx, rfl⟩ | h | h
  · exact .inl h
  · exact .inr (.inl h)
  · exact .inr (.inr (.inl ⟨x, hx, rfl⟩))
  · exact .inr (.inr (.inr (.inl h)))
  · exact .inr (.inr (.inr (.inr h)))
structure SmallV (N : Nat) (v : Val) : Prop where
  p0 : -1 ≤ v.parent
  p1 : v.parent ≤ N
  k : v.kind < 256
  name : v.name.length ≤ 1048576
  text : v.text.length ≤ 1048576
theorem small_alert {a : AlM} (h : OkAl 1048576 a) {n N : Nat} (hN : n + 1 ≤ N) {v : Val} (hv : v ∈ alertV n a) : SmallV N v := by
  rcases alertV_mem hv with rfl | rfl | ⟨x, hx, rfl⟩ | rfl | rfl
  · exact ⟨by simp [objV], by simp [objV], by simp [objV], by simp [objV], by simp [objV]⟩
  · exact ⟨by simp only [lobV]; omega, by simp only [lobV]; omega, by simp [lobV], by simp [lobV, nLabels], by simp [lobV]⟩
  · exact ⟨by simp only [labV]; omega, by simp only [labV]; omega, by simp [labV], (h.labs x hx).1, (h.labs x hx).2⟩
  · exact ⟨by simp only [numV]; omega, by simp only [numV]; omega, by simp [numV], by simp [numV, nStart], Nat.le_trans h.start_len (by omega)⟩
  · exact ⟨by simp only [numV]; omega, by simp only [numV]; omega, by simp [numV], by simp [numV, nEnd], Nat.le_trans h.stop_len (by omega)⟩
theorem small_blocks : ∀ (l : List AlM) (n N : Nat), (∀ a ∈ l, OkAl 1048576 a) → n + (blocks n l).length ≤ N → ∀ v ∈ blocks n l, SmallV N v
  | [], n, N, _, _ => by simp [blocks]
  | a :: l, n, N, h, hN => by
    intro v hv
    simp only [blocks, List.length_append, alertV_len] at hN
    simp only [blocks, List.mem_append] at hv
    rcases hv with hv | hv
    · exact small_alert (h a (by simp)) (by omega) hv
    · exact small_blocks l _ N (fun b hb => h b (by simp [hb])) (by omega) v hv
theorem small_alerts {l : List AlM} (h : ∀ a ∈ l, OkAl 1048576 a) : ∀ v ∈ alertsM l, SmallV (alertsM l).length v := by
  intro v hv
  rw [alertsM_eq] at hv ⊢
  rcases List.mem_cons.1 hv with rfl | hv
  · exact ⟨by simp [rootV], by simp [rootV]; omega, by simp [rootV], by simp [rootV], by simp [rootV]⟩
  · exact small_blocks l 1 _ h (by simp [List.length_cons]; omega) v hv
theorem SmallV.ok {N : Nat} {v : Val} (h : SmallV N v) (hN : N ≤ 1000000) : v.ok :=
  ⟨⟨Nat.le_trans h.name (by unfold maxLen; omega), Nat.le_trans h.text (by unfold maxLen; omega), h.k⟩, WalkArith.wf_i64 ⟨by have := h.p0; omega, by have := h.p1; omega⟩⟩
theorem wt_small : ∀ (l : List Val) (N : Nat), (∀ v ∈ l, SmallV N v) → wt l ≤ 12582932 * l.length
  | [], _, _ => by simp [wt]
  | v :: l, N, h => by
    have := wt_small l N (fun u hu => h u (by simp [hu]))
    have hv := h v (by simp)
    have h1 := hv.name
    have h2 := hv.text
    simp only [wt, List.map_cons, List.sum_cons, List.length_cons] at this ⊢
    omega
/-- What is asked of the alerts. -/
structure FewAl (l : List AlM) : Prop where
  few : l.length ≤ 30
  labs : ∀ a ∈ l, a.labels.length ≤ 12
  ok : ∀ a ∈ l, OkAl 1048576 a
theorem FewAl.len {l : List AlM} (h : FewAl l) : (alertsM l).length ≤ 481 := alertsM_len h.labs h.few
theorem FewAl.oks {l : List AlM} (h : FewAl l) : ∀ v ∈ alertsM l, v.ok := fun v hv => (small_alerts h.ok v hv).ok (Nat.le_trans h.len (by omega))
theorem FewAl.room {l : List AlM} (h : FewAl l) : wt (alertsM l) ≤ 140737488350000 := by
  have h1 := wt_small _ _ (small_alerts h.ok)
  have h2 := h.len
  have h3 : 12582932 * (alertsM l).length ≤ 12582932 * 481 := Nat.mul_le_mul_left _ h2
  omega
/-- What is written of the alerts is read as they were. -/
theorem alerts_back {l : List AlM} (h0 : checkM (alertsM l) = 0) (hl : (textM (alertsM l)).length ≤ 65536) : readM (textM (alertsM l)) = .ok (alertsM l) := by
  have := read_back h0 (a := []) (b := []) (by simp) (by simp) (by simpa using hl)
  simpa using this
def postB : Bytes := [80, 79, 83, 84, 32, 47, 97, 108, 101, 114, 116, 115]
theorem cut_post (s : Bytes) : Lib.cut (postB ++ 10 :: s) [10] = (postB, s, true) := by
  have h : Lib.index (postB ++ 10 :: s) [10] = 12 := by simp [postB, Lib.index, List.isPrefixOf]
  unfold Lib.cut
  rw [h]
  simp [postB]
end Go.Proofs.YtcdeikhfmllkdaaGreatDoor
