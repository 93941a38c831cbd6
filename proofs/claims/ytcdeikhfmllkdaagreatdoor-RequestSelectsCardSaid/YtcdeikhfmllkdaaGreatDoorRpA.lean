/- request: alerts as values, plainly. -/
import Derived.Test.YtcdeikhfmllkdaaGreatDoorJc
import Derived.Lib.AtoiAllCases
import Derived.Lib.ItoaNum
import Derived.Lib.ItoaMem
namespace Go.Proofs.YtcdeikhfmllkdaaGreatDoor
open Go.RowKit
set_option linter.unusedVariables false
set_option linter.unusedSimpArgs false
/-- An alert. -/
structure AlM where
  labels : List (Bytes × Bytes)
  start : Int
  stop : Int
def nLabels : Bytes := [108, 97, 98, 101, 108, 115]
def nStart : Bytes := [115, 116, 97, 114, 116]
def nEnd : Bytes := [101, 110, 100]
def labV (p : Nat) (x : Bytes × Bytes) : Val := ⟨(p : Int), 4, x.1, x.2⟩
def objV : Val := ⟨0, 6, [], []⟩
def lobV (n : Nat) : Val := ⟨(n : Int), 6, nLabels, []⟩
def numV (n : Nat) (name : Bytes) (k : Int) : Val := ⟨(n : Int), 3, name, Lib.itoa k⟩
def alertV (n : Nat) (a : AlM) : List Val := objV :: lobV n :: (a.labels.map (labV (n + 1)) ++ [numV n nStart a.start, numV n nEnd a.stop])
theorem alertV_len (n : Nat) (a : AlM) : (alertV n a).length = a.labels.length + 4 := by simp [alertV]
def alertsGo (acc : List Val) : List AlM → List Val
  | [] => acc
  | a :: l => alertsGo (acc ++ alertV acc.length a) l
def rootV : Val := ⟨-1, 5, [], []⟩
def alertsM (l : List AlM) : List Val := alertsGo [rootV] l
theorem alertsGo_snoc (acc : List Val) (l : List AlM) (a : AlM) : alertsGo acc (l ++ [a]) = alertsGo acc l ++ alertV (alertsGo acc l).length a := by
  induction l generalizing acc with
  | nil => rfl
  | cons b l ih => exact ih _
theorem alertsM_snoc (l : List AlM) (a : AlM) : alertsM (l ++ [a]) = alertsM l ++ alertV (alertsM l).length a := alertsGo_snoc _ _ _
/-- What stands in value i: places. -/
def kidsR (i : Int) : Nat → List Val → List Nat
  | _, [] => []
  | n, v :: l => (if v.parent = i then [n] else []) ++ kidsR i (n + 1) l
theorem kidsR_app (i : Int) : ∀ (a b : List Val) (n : Nat), kidsR i n (a ++ b) = kidsR i n a ++ kidsR i (n + a.length) b
  | [], b, n => by simp [kidsR]
  | v :: a, b, n => by
    simp only [List.cons_append, kidsR, List.length_cons]
    rw [kidsR_app i a b (n + 1), List.append_assoc, show n + 1 + a.length = n + (a.length + 1) by omega]
def kidsM (l : List Val) (i : Int) : List Nat := kidsR i 0 l
theorem kids_step {l : List Val} {n : Nat} {v : Val} (h : l[n]? = some v) (i : Int) : kidsM (l.take (n + 1)) i = kidsM (l.take n) i ++ (if v.parent = i then [n] else []) := by
  have hn := (List.getElem?_eq_some_iff.1 h).1
  have e : l.take (n + 1) = l.take n ++ [v] := by rw [List.take_add_one, h]; rfl
  unfold kidsM
  rw [e, kidsR_app]
  simp only [kidsR, List.append_nil, Nat.zero_add]
  rw [List.length_take, Nat.min_eq_left (by omega)]
theorem kidsR_low (i : Int) : ∀ (l : List Val) (n : Nat), ∀ k ∈ kidsR i n l, n ≤ k ∧ k < n + l.length
  | [], n => by simp [kidsR]
  | v :: l, n => by
    intro k hk
    simp only [kidsR, List.mem_append] at hk
    rcases hk with hk | hk
    · split at hk
      · simp at hk; subst hk; simp
      · simp at hk
    · have := kidsR_low i l (n + 1) k hk
      simp only [List.length_cons]; omega
theorem kidsR_len (i : Int) : ∀ (l : List Val) (n : Nat), (kidsR i n l).length ≤ l.length
  | [], n => by simp [kidsR]
  | v :: l, n => by
    have := kidsR_len i l (n + 1)
    simp only [kidsR, List.length_append, List.length_cons]
    split <;> simp <;> omega
/-- The blocks of alerts, the first at n. -/
def blocks : Nat → List AlM → List Val
  | _, [] => []
  | n, a :: l => alertV n a ++ blocks (n + (a.labels.length + 4)) l
def places : Nat → List AlM → List Nat
  | _, [] => []
  | n, a :: l => n :: places (n + (a.labels.length + 4)) l
theorem alertsGo_eq : ∀ (l : List AlM) (acc : List Val), alertsGo acc l = acc ++ blocks acc.length l
  | [], acc => by simp [alertsGo, blocks]
  | a :: l, acc => by
    simp only [alertsGo, blocks]
    rw [alertsGo_eq l, List.append_assoc]
    simp [alertV_len]
theorem alertsM_eq (l : List AlM) : alertsM l = rootV :: blocks 1 l := alertsGo_eq l [rootV]
theorem places_len : ∀ (l : List AlM) (n : Nat), (places n l).length = l.length
  | [], n => rfl
  | a :: l, n => by simp [places, places_len l]
theorem places_low : ∀ (l : List AlM) (n : Nat), ∀ p ∈ places n l, n ≤ p
  | [], n => by simp [places]
  | a :: l, n => by
    intro p hp
    simp only [places, List.mem_cons] at hp
    rcases hp with rfl | hp
    · exact Nat.le_refl _
    · have := places_low l _ p hp; omega
/-- What stands in i, of labels that stand in p. -/
theorem kids_labs (i : Int) (p : Nat) : ∀ (x : List (Bytes × Bytes)) (n : Nat), kidsR i n (x.map (labV p)) = if (p : Int) = i then List.range' n x.length else []
  | [], n => by simp [kidsR]
  | a :: x, n => by
    simp only [List.map_cons, kidsR]
    rw [kids_labs i p x (n + 1)]
    by_cases h : (p : Int) = i
    · simp [labV, h, List.range'_succ]
    · simp [labV, h]
theorem kids_nums (i : Int) (p n : Nat) (a : AlM) : kidsR i n [numV p nStart a.start, numV p nEnd a.stop] = if (p : Int) = i then [n, n + 1] else [] := by
  simp only [kidsR, numV]
  by_cases h : (p : Int) = i
  · simp [h]
  · simp [h]
theorem kids_alert (i : Int) (n : Nat) (a : AlM) : kidsR i n (alertV n a) = (if (0 : Int) = i then [n] else []) ++ ((if (n : Int) = i then [n + 1] else []) ++ ((if ((n + 1 : Nat) : Int) = i then List.range' (n + 2) a.labels.length else []) ++ (if (n : Int) = i then [n + 2 + a.labels.length, n + 2 + a.labels.length + 1] else []))) := by
  unfold alertV
  simp only [kidsR, objV, lobV]
  rw [kidsR_app, kids_labs, kids_nums]
  simp only [List.length_map]
  rfl
theorem kids_alert_0 {n : Nat} (hn : 1 ≤ n) (a : AlM) : kidsR 0 n (alertV n a) = [n] := by
  rw [kids_alert, if_pos rfl, if_neg (by omega), if_neg (by omega), if_neg (by omega)]; rfl
theorem kids_alert_n {n : Nat} (hn : 1 ≤ n) (a : AlM) : kidsR n n (alertV n a) = [n + 1, n + 2 + a.labels.length, n + 2 + a.labels.length + 1] := by
  rw [kids_alert, if_neg (by omega), if_pos rfl, if_neg (by omega), if_pos rfl]; rfl
theorem kids_alert_l {n : Nat} (hn : 1 ≤ n) (a : AlM) : kidsR ((n + 1 : Nat) : Int) n (alertV n a) = List.range' (n + 2) a.labels.length := by
  rw [kids_alert, if_neg (by omega), if_neg (by omega), if_pos rfl, if_neg (by omega)]; simp
theorem kids_alert_o {n : Nat} {i : Int} (a : AlM) (h0 : i ≠ 0) (h1 : i ≠ n) (h2 : i ≠ ((n + 1 : Nat) : Int)) : kidsR i n (alertV n a) = [] := by
  rw [kids_alert, if_neg (by omega), if_neg (by omega), if_neg (by omega), if_neg (by omega)]; rfl
theorem kids_blocks_0 : ∀ (l : List AlM) (n : Nat), 1 ≤ n → kidsR 0 n (blocks n l) = places n l
  | [], n, _ => rfl
  | a :: l, n, hn => by
    simp only [blocks, places]
    rw [kidsR_app, kids_alert_0 hn, alertV_len, kids_blocks_0 l _ (by omega)]; rfl
theorem kids_cons (i : Int) (l : List Val) (h : i ≠ -1) : kidsM (rootV :: l) i = kidsR i 1 l := by
  unfold kidsM
  have : ¬ rootV.parent = i := fun e => h e.symm
  simp only [kidsR, if_neg this, List.nil_append, Nat.zero_add]
/-- Values below stand in none of these. -/
theorem kids_blocks_low : ∀ (l : List AlM) (n : Nat) (i : Int), 0 < i → i < n → kidsR i n (blocks n l) = []
  | [], n, i, _, _ => rfl
  | a :: l, n, i, h0, h1 => by
    simp only [blocks]
    rw [kidsR_app, kids_alert_o a (by omega) (by omega) (by omega), alertV_len, kids_blocks_low l _ i h0 (by omega)]; rfl
theorem kids_blocks_at : ∀ (l : List AlM) (n j p : Nat) (a : AlM), 1 ≤ n → l[j]? = some a → (places n l)[j]? = some p → n ≤ p ∧ (∃ Y Z, blocks n l = Y ++ alertV p a ++ Z ∧ n + Y.length = p) ∧
    kidsR p n (blocks n l) = kidsR p p (alertV p a) ∧ kidsR ((p + 1 : Nat) : Int) n (blocks n l) = kidsR ((p + 1 : Nat) : Int) p (alertV p a)
  | [], n, j, p, a, _, h, _ => by simp at h
  | b :: l, n, 0, p, a, hn, h, hp => by
    simp [places] at h hp
    subst h; subst hp
    refine ⟨Nat.le_refl _, ⟨[], blocks (n + (b.labels.length + 4)) l, rfl, rfl⟩, ?_, ?_⟩
    · simp only [blocks]
      rw [kidsR_app, alertV_len, kids_blocks_low l _ _ (by omega) (by omega), List.append_nil]
    · simp only [blocks]
      rw [kidsR_app, alertV_len, kids_blocks_low l _ _ (by omega) (by omega), List.append_nil]
  | b :: l, n, j + 1, p, a, hn, h, hp => by
    simp [places] at h hp
    obtain ⟨h1, ⟨Y, Z, h2, h3⟩, h4, h5⟩ := kids_blocks_at l _ j p a (by omega) h hp
    refine ⟨by omega, ⟨alertV n b ++ Y, Z, by simp only [blocks]; rw [h2]; simp, by rw [List.length_append, alertV_len]; omega⟩, ?_, ?_⟩
    · simp only [blocks]
      rw [kidsR_app, alertV_len, h4, kids_alert_o b (by omega) (by omega) (by omega)]; rfl
    · simp only [blocks]
      rw [kidsR_app, alertV_len, h5, kids_alert_o b (by omega) (by omega) (by omega)]; rfl
/-- An alert's values at place p of a list. -/
structure AlAt (l : List Val) (p : Nat) (a : AlM) : Prop where
  v0 : l[p]? = some objV
  v1 : l[p + 1]? = some (lobV p)
  lab : ∀ j x, a.labels[j]? = some x → l[p + 2 + j]? = some (labV (p + 1) x)
  vs : l[p + 2 + a.labels.length]? = some (numV p nStart a.start)
  ve : l[p + 2 + a.labels.length + 1]? = some (numV p nEnd a.stop)
  kp : kidsM l p = [p + 1, p + 2 + a.labels.length, p + 2 + a.labels.length + 1]
  kl : kidsM l ((p + 1 : Nat) : Int) = List.range' (p + 2) a.labels.length
theorem kids_root (l : List AlM) : kidsM (alertsM l) 0 = places 1 l := by
  rw [alertsM_eq, kids_cons _ _ (by decide), kids_blocks_0 l 1 (Nat.le_refl _)]
theorem al_at {l : List AlM} {j p : Nat} {a : AlM} (h : l[j]? = some a) (hp : (places 1 l)[j]? = some p) : 1 ≤ p ∧ AlAt (alertsM l) p a := by
  obtain ⟨h1, ⟨Y, Z, h2, h3⟩, h4, h5⟩ := kids_blocks_at l 1 j p a (Nat.le_refl _) h hp
  have hl : alertsM l = (rootV :: Y) ++ (alertV p a ++ Z) := by rw [alertsM_eq, h2]; simp
  have hY : (rootV :: Y).length = p := by simp; omega
  have at' : ∀ k, (alertsM l)[p + k]? = (alertV p a ++ Z)[k]? := by
    intro k
    rw [hl, List.getElem?_append_right (by omega)]
    congr 1; omega
  have at2 : ∀ k, k < a.labels.length + 2 → (alertsM l)[p + 2 + k]? = (a.labels.map (labV (p + 1)) ++ [numV p nStart a.start, numV p nEnd a.stop])[k]? := by
    intro k hk
    rw [show p + 2 + k = p + (k + 2) by omega, at', List.getElem?_append_left (by rw [alertV_len]; omega)]
    rfl
  refine ⟨h1, by have := at' 0; simpa [alertV] using this, by have := at' 1; simpa [alertV] using this, ?_, ?_, ?_, ?_, ?_⟩
  · intro k x hx
    have hk := (List.getElem?_eq_some_iff.1 hx).1
    rw [at2 k (by omega), List.getElem?_append_left (by simpa using hk)]
    simp [hx]
  · rw [at2 _ (by omega), List.getElem?_append_right (by simp)]
    simp
  · rw [Nat.add_assoc (p + 2), at2 _ (by omega), List.getElem?_append_right (by simp)]
    simp
  · rw [alertsM_eq, kids_cons _ _ (by omega), h4, kids_alert_n h1]
  · rw [alertsM_eq, kids_cons _ _ (by omega), h5, kids_alert_l h1]
theorem alertsM_zero (l : List AlM) : (alertsM l)[0]? = some rootV := by rw [alertsM_eq]; rfl
theorem blocks_len : ∀ (l : List AlM) (n : Nat), (∀ a ∈ l, a.labels.length ≤ 12) → (blocks n l).length ≤ 16 * l.length
  | [], n, _ => by simp [blocks]
  | a :: l, n, h => by
    have := blocks_len l (n + (a.labels.length + 4)) (fun b hb => h b (by simp [hb]))
    have := h a (by simp)
    simp only [blocks, List.length_append, alertV_len, List.length_cons]; omega
theorem alertsM_len {l : List AlM} (h : ∀ a ∈ l, a.labels.length ≤ 12) (hl : l.length ≤ 30) : (alertsM l).length ≤ 481 := by
  rw [alertsM_eq]
  have := blocks_len l 1 h
  simp only [List.length_cons]; omega
/-- A number's text is read as it. -/
theorem parseU_app : ∀ (a b : List UInt8) (n u : Nat), Lib.parseUint10 n a = .ok u → Lib.parseUint10 n (a ++ b) = Lib.parseUint10 u b
  | [], b, n, u, h => by
    simp only [Lib.parseUint10] at h
    injection h with h
    subst h; rfl
  | c :: a, b, n, u, h => by
    simp only [Lib.parseUint10, List.cons_append] at h ⊢
    split at h
    · rename_i h1
      rw [if_pos h1]
      split at h
      · cases h
      · rename_i h2
        rw [if_neg h2]
        split at h
        · cases h
        · rename_i h3
          rw [if_neg h3]
          exact parseU_app a b _ u h
    · cases h
theorem digit_nat {d : Nat} (h : d < 10) : (UInt8.ofNat (48 + d)).toNat = 48 + d := by
  rw [UInt8.toNat_ofNat_of_lt']
  · show 48 + d < 2 ^ 8; omega
theorem parse_dec : ∀ (u : Nat), u < 18446744073709551616 → Lib.parseUint10 0 (Lib.decDigits u) = .ok u := by
  intro u
  induction u using Nat.strongRecOn with
  | _ u ih =>
    intro hu
    by_cases h : u < 10
    · rw [Lib.decDigits_one h]
      simp only [Lib.parseUint10]
      rw [digit_nat h, if_pos (by omega), if_neg (by omega), if_neg (by omega)]
      congr 1; omega
    · rw [Lib.decDigits, dif_neg h, parseU_app _ _ _ _ (ih (u / 10) (by omega) (by omega))]
      simp only [Lib.parseUint10]
      rw [digit_nat (by omega : u % 10 < 10), if_pos (by omega), if_neg (by omega), if_neg (by omega)]
      congr 1; omega
theorem dec_head (u : Nat) : ∃ c r, Lib.decDigits u = c :: r ∧ 48 ≤ c.toNat := by
  induction u using Nat.strongRecOn with
  | _ u ih =>
    by_cases h : u < 10
    · exact ⟨_, [], Lib.decDigits_one h, by rw [digit_nat h]; omega⟩
    · obtain ⟨c, r, e, hc⟩ := ih (u / 10) (by omega)
      exact ⟨c, r ++ [UInt8.ofNat (48 + u % 10)], by rw [Lib.decDigits, dif_neg h, e]; rfl, hc⟩
theorem atoi_itoa (n : Int) (h0 : -9223372036854775808 ≤ n) (h1 : n ≤ 9223372036854775807) : Lib.atoiAll (Lib.itoa n) = .ok n := by
  unfold Lib.itoa
  by_cases h : n < 0
  · rw [if_pos h, Lib.atoiAll_minus]
    obtain ⟨c, r, e, hc⟩ := dec_head n.natAbs
    have hp := parse_dec n.natAbs (by omega)
    have hm : Lib.parseMag (Lib.decDigits n.natAbs) = .ok n.natAbs := by unfold Lib.parseMag; rw [if_neg (by rw [e]; simp), hp]
    rw [hm]
    unfold Lib.signed
    dsimp only
    rw [if_neg (by omega)]
    congr 1; omega
  · rw [if_neg h]
    obtain ⟨c, r, e, hc⟩ := dec_head n.toNat
    have hp := parse_dec n.toNat (by omega)
    have hm : Lib.parseMag (Lib.decDigits n.toNat) = .ok n.toNat := by unfold Lib.parseMag; rw [if_neg (by rw [e]; simp), hp]
    rw [e] at hm ⊢
    rw [Lib.atoiAll_plain c r (by omega) (by omega), hm]
    unfold Lib.signless
    dsimp only
    rw [if_neg (by omega)]
    congr 1; omega
theorem nDigits_le : ∀ (k u : Nat), u < 10 ^ (k + 1) → Lib.nDigits u ≤ k + 1
  | 0, u, h => by rw [Lib.nDigits_small (by omega)]; omega
  | k + 1, u, h => by
    by_cases hu : u < 10
    · rw [Lib.nDigits_small hu]; omega
    · rw [Lib.nDigits_big hu]
      rw [Nat.pow_succ] at h
      have := nDigits_le k (u / 10) (by omega)
      omega
theorem itoa_len (n : Int) (h0 : -9223372036854775808 ≤ n) (h1 : n ≤ 9223372036854775807) : (Lib.itoa n).length ≤ 21 := by
  unfold Lib.itoa
  split
  · rw [List.length_cons, Lib.decDigits_length]
    have := nDigits_le 19 n.natAbs (by omega)
    omega
  · rw [Lib.decDigits_length]
    have := nDigits_le 19 n.toNat (by omega)
    omega
end Go.Proofs.YtcdeikhfmllkdaaGreatDoor
