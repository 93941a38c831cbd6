/- request: a target's part, plain. -/
import Derived.Test.YtcdeikhfmllkdaaGreatDoorJe
import Derived.Lib.Bytealg
namespace Go.Proofs.YtcdeikhfmllkdaaGreatDoor
open Go.RowKit
set_option linter.unusedVariables false
set_option linter.unusedSimpArgs false

theorem u8_every (P : UInt8 → Prop) (h : ∀ n, n < 256 → P (UInt8.ofNat n)) (c : UInt8) : P c := by
  have := h c.toNat c.toNat_lt
  rwa [UInt8.ofNat_toNat] at this
/-- Hex digits. -/
def HEXDs : Bytes := [48, 49, 50, 51, 52, 53, 54, 55, 56, 57, 65, 66, 67, 68, 69, 70]
/-- A hex digit's number; below 0: it is none. -/
def hexI (c : UInt8) : Int := Lib.indexByte HEXDs c
theorem hexI_lo (c : UInt8) : -1 ≤ hexI c := Lib.indexByte_ge _ _
theorem hexI_hi (c : UInt8) : hexI c < 16 := u8_every (fun c => hexI c < 16) (by decide +kernel) c
theorem hexI_dig {d : Nat} (h : d < 16) : hexI (HEXDs.getD d 0) = (d : Int) := by
  have : ∀ d, d < 16 → hexI (HEXDs.getD d 0) = (d : Int) := by decide +kernel
  exact this d h
def unhex (a b : UInt8) : UInt8 := UInt8.ofNat (16 * (hexI a).toNat + (hexI b).toNat)
theorem unhex_hex (c : UInt8) : unhex (HEXDs.getD (c.toNat / 16) 0) (HEXDs.getD (c.toNat % 16) 0) = c := by
  have hc := c.toNat_lt
  unfold unhex
  rw [hexI_dig (by omega), hexI_dig (by omega), Int.toNat_natCast, Int.toNat_natCast, Nat.div_add_mod, UInt8.ofNat_toNat]
theorem unhex_toNat {a b : UInt8} (ha : 0 ≤ hexI a) (hb : 0 ≤ hexI b) : ((unhex a b).toNat : Int) = 16 * hexI a + hexI b := by
  have h1 := hexI_hi a
  have h2 := hexI_hi b
  unfold unhex
  rw [UInt8.toNat_ofNat']
  omega
/-- A digit is the one of its number. -/
theorem dig_hexI (c : UInt8) : 0 ≤ hexI c → HEXDs.getD (hexI c).toNat 0 = c := u8_every (fun c => 0 ≤ hexI c → HEXDs.getD (hexI c).toNat 0 = c) (by decide +kernel) c
theorem hex_unhex {a b : UInt8} (ha : 0 ≤ hexI a) (hb : 0 ≤ hexI b) : HEXDs.getD ((unhex a b).toNat / 16) 0 = a ∧ HEXDs.getD ((unhex a b).toNat % 16) 0 = b := by
  have h := unhex_toNat ha hb
  have h1 := hexI_hi a
  have h2 := hexI_hi b
  have d1 := dig_hexI a ha
  have d2 := dig_hexI b hb
  rw [show (unhex a b).toNat / 16 = (hexI a).toNat by omega, show (unhex a b).toNat % 16 = (hexI b).toNat by omega]
  exact ⟨d1, d2⟩
/-- A byte that stands as it is. -/
def freeB (c : UInt8) : Bool := (97 ≤ c.toNat && c.toNat ≤ 122) || (65 ≤ c.toNat && c.toNat ≤ 90) || (48 ≤ c.toNat && c.toNat ≤ 57) || c.toNat == 45 || c.toNat == 46 || c.toNat == 95 || c.toNat == 126
def pctB (c : UInt8) : Bytes := [37, HEXDs.getD (c.toNat / 16) 0, HEXDs.getD (c.toNat % 16) 0]
def percB (c : UInt8) : Bytes := if freeB c = true then [c] else pctB c
def percM (s : Bytes) : Bytes := s.flatMap percB
theorem percB_free {c : UInt8} (h : freeB c = true) : percB c = [c] := if_pos h
theorem percB_pct {c : UInt8} (h : ¬ freeB c = true) : percB c = [37, HEXDs.getD (c.toNat / 16) 0, HEXDs.getD (c.toNat % 16) 0] := if_neg h
theorem percM_cons (c : UInt8) (r : Bytes) : percM (c :: r) = percB c ++ percM r := by unfold percM; rw [List.flatMap_cons]
theorem percB_len (c : UInt8) : (percB c).length ≤ 3 := by unfold percB; split <;> simp [pctB]
theorem percB_pos (c : UInt8) : 1 ≤ (percB c).length := by unfold percB; split <;> simp [pctB]
theorem percM_len (s : Bytes) : s.length ≤ (percM s).length ∧ (percM s).length ≤ 3 * s.length := by
  induction s with
  | nil => simp [percM]
  | cons c r ih =>
    have h1 := percB_len c
    have h2 := percB_pos c
    unfold percM at *
    rw [List.flatMap_cons, List.length_append, List.length_cons]
    omega
/-- Read, as far as may be. -/
def unpM : Bytes → Bytes
  | [] => []
  | c :: r =>
    if c = 37 ∧ 2 ≤ r.length ∧ 0 ≤ hexI (r.getD 0 0) ∧ 0 ≤ hexI (r.getD 1 0) then unhex (r.getD 0 0) (r.getD 1 0) :: unpM (r.drop 2)
    else c :: unpM r
termination_by s => s.length
decreasing_by all_goals (simp <;> omega)
/-- Read, or not. -/
def strM : Bytes → Option Bytes
  | [] => some []
  | c :: r =>
    if freeB c = true then (strM r).map (c :: ·)
    else if c = 37 ∧ 2 ≤ r.length ∧ 0 ≤ hexI (r.getD 0 0) ∧ 0 ≤ hexI (r.getD 1 0) ∧ freeB (unhex (r.getD 0 0) (r.getD 1 0)) = false then (strM (r.drop 2)).map (unhex (r.getD 0 0) (r.getD 1 0) :: ·)
    else none
termination_by s => s.length
decreasing_by all_goals (simp <;> omega)
theorem free_ne (c : UInt8) : freeB c = true → c ≠ 37 := u8_every (fun c => freeB c = true → c ≠ 37) (by decide +kernel) c
theorem unp_free {c : UInt8} (r : Bytes) (h : c ≠ 37) : unpM (c :: r) = c :: unpM r := by
  rw [unpM, if_neg (by simp [h])]
theorem unp_hex {a b : UInt8} (r : Bytes) (ha : 0 ≤ hexI a) (hb : 0 ≤ hexI b) : unpM (37 :: a :: b :: r) = unhex a b :: unpM r := by
  rw [unpM, if_pos ⟨rfl, by simp, ha, hb⟩]; rfl
theorem unp_perc (s : Bytes) : unpM (percM s) = s := by
  induction s with
  | nil => rw [percM, List.flatMap_nil, unpM]
  | cons c r ih =>
    have hc := c.toNat_lt
    rw [percM_cons]
    by_cases h : freeB c = true
    · rw [percB_free h, List.singleton_append, unp_free _ (free_ne c h), ih]
    · have h1 := hexI_dig (d := c.toNat / 16) (by omega)
      have h2 := hexI_dig (d := c.toNat % 16) (by omega)
      have hx := unhex_hex c
      rw [percB_pct h, List.cons_append, List.cons_append, List.cons_append, List.nil_append, unp_hex _ (by omega) (by omega), hx, ih]
theorem str_hexs {a b : UInt8} (r : Bytes) (ha : 0 ≤ hexI a) (hb : 0 ≤ hexI b) (hf : freeB (unhex a b) = false) : strM (37 :: a :: b :: r) = (strM r).map (unhex a b :: ·) := by
  rw [strM, if_neg (by decide), if_pos ⟨rfl, by simp, ha, hb, hf⟩]
  rfl
theorem str_perc (s : Bytes) : strM (percM s) = some s := by
  induction s with
  | nil => rw [percM, List.flatMap_nil, strM]
  | cons c r ih =>
    have hc := c.toNat_lt
    rw [percM_cons]
    by_cases h : freeB c = true
    · rw [percB_free h, List.singleton_append, strM, if_pos h, ih]; rfl
    · have h1 := hexI_dig (d := c.toNat / 16) (by omega)
      have h2 := hexI_dig (d := c.toNat % 16) (by omega)
      have hx := unhex_hex c
      rw [percB_pct h, List.cons_append, List.cons_append, List.cons_append, List.nil_append, str_hexs _ (by omega) (by omega) (by rw [hx]; simpa using h), hx, ih]
      rfl
theorem str_some (n : Nat) : ∀ s : Bytes, s.length ≤ n → ∀ x, strM s = some x → percM x = s := by
  induction n with
  | zero =>
    intro s h x hx
    obtain rfl : s = [] := List.eq_nil_of_length_eq_zero (by omega)
    rw [strM] at hx
    cases hx
    rfl
  | succ n ih =>
    intro s h x hx
    cases s with
    | nil => rw [strM] at hx; cases hx; rfl
    | cons c r =>
      rw [List.length_cons] at h
      rw [strM] at hx
      split at hx
      · rename_i hf
        obtain ⟨y, hy, rfl⟩ := Option.map_eq_some_iff.1 hx
        rw [percM_cons, ih r (by omega) y hy, percB_free hf]; rfl
      split at hx
      · rename_i hf hh
        obtain ⟨rfl, hl, ha, hb, hff⟩ := hh
        obtain ⟨y, hy, rfl⟩ := Option.map_eq_some_iff.1 hx
        obtain ⟨u1, u2⟩ := hex_unhex ha hb
        rw [percM_cons, ih (r.drop 2) (by rw [List.length_drop]; omega) y hy, percB_pct (by rw [hff]; simp), u1, u2]
        match r, hl with
        | a :: b :: r, _ => rfl
      · cases hx
/-- What Unpercent tells. -/
def unpR (s : Bytes) : Bytes × Nat := if percM (unpM s) = s then (unpM s, 0) else ([], 4)
theorem str_is (s : Bytes) : strM s = if percM (unpM s) = s then some (unpM s) else none := by
  by_cases h : percM (unpM s) = s
  · rw [if_pos h]
    have := str_perc (unpM s)
    rwa [h] at this
  · rw [if_neg h]
    cases hx : strM s with
    | none => rfl
    | some x =>
      have h1 := str_some s.length s (Nat.le_refl _) x hx
      have h2 := unp_perc x
      rw [h1] at h2
      rw [h2] at h
      exact absurd h1 h
theorem unpR_some {s x : Bytes} (h : strM s = some x) : unpR s = (x, 0) := by
  rw [str_is] at h
  unfold unpR
  split at h
  · rename_i hp; rw [if_pos hp]; cases h; rfl
  · cases h
theorem unpR_none {s : Bytes} (h : strM s = none) : unpR s = ([], 4) := by
  rw [str_is] at h
  unfold unpR
  split at h
  · cases h
  · rename_i hp; rw [if_neg hp]
theorem unpR_perc (s : Bytes) : unpR (percM s) = (s, 0) := unpR_some (str_perc s)
theorem unp_len (n : Nat) : ∀ s : Bytes, s.length ≤ n → (unpM s).length ≤ s.length := by
  induction n with
  | zero => intro s h; obtain rfl : s = [] := List.eq_nil_of_length_eq_zero (by omega); rw [unpM]; simp
  | succ n ih =>
    intro s h
    cases s with
    | nil => rw [unpM]; simp
    | cons c r =>
      rw [List.length_cons] at h
      rw [unpM]
      split
      · have := ih (r.drop 2) (by rw [List.length_drop]; omega); rw [List.length_drop] at this; rw [List.length_cons, List.length_cons]; omega
      · have := ih r (by omega); rw [List.length_cons, List.length_cons]; omega
/-- None of the bytes that part targets. -/
def partB (c : UInt8) : Bool := c.toNat == 38 || c.toNat == 61 || c.toNat == 63 || c.toNat == 47 || c.toNat == 32 || c.toNat == 10
theorem free_part (c : UInt8) : freeB c = true → partB c = false := u8_every (fun c => freeB c = true → partB c = false) (by decide +kernel) c
theorem dig_part (d : Nat) (h : d < 16) : partB (HEXDs.getD d 0) = false := by
  have : ∀ d, d < 16 → partB (HEXDs.getD d 0) = false := by decide +kernel
  exact this d h
theorem perc_part (s : Bytes) : ∀ x ∈ percM s, partB x = false := by
  intro x hx
  obtain ⟨c, _, hc⟩ := List.mem_flatMap.1 hx
  have hl := c.toNat_lt
  unfold percB at hc
  split at hc
  · rename_i hf
    rw [List.mem_singleton.1 hc]
    exact free_part c hf
  · unfold pctB at hc
    simp only [List.mem_cons, List.not_mem_nil, or_false] at hc
    rcases hc with rfl | rfl | rfl
    · rfl
    · exact dig_part _ (by omega)
    · exact dig_part _ (by omega)
/-- Unpercent's steps, at a place. -/
theorem str_free {s : Bytes} {i : Nat} (h : i < s.length) (hf : freeB s[i] = true) : strM (s.drop i) = (strM (s.drop (i + 1))).map (s[i] :: ·) := by
  rw [List.drop_eq_getElem_cons h, strM, if_pos hf]
theorem str_hex {s : Bytes} {i : Nat} (h : i + 2 < s.length) (hc : s[i] = 37) (ha : 0 ≤ hexI s[i + 1]) (hb : 0 ≤ hexI s[i + 2]) (hf : freeB (unhex s[i + 1] s[i + 2]) = false) : strM (s.drop i) = (strM (s.drop (i + 3))).map (unhex s[i + 1] s[i + 2] :: ·) := by
  rw [List.drop_eq_getElem_cons (show i < s.length by omega), List.drop_eq_getElem_cons (show i + 1 < s.length by omega), List.drop_eq_getElem_cons h, hc, str_hexs _ ha hb hf]
theorem str_no {s : Bytes} {i : Nat} (h : i < s.length) (hf : freeB s[i] = false) (hn : s[i] = 37 → ∀ h2 : i + 2 < s.length, ¬ (0 ≤ hexI s[i + 1] ∧ 0 ≤ hexI s[i + 2] ∧ freeB (unhex s[i + 1] s[i + 2]) = false)) : strM (s.drop i) = none := by
  rw [List.drop_eq_getElem_cons h, strM, if_neg (by rw [hf]; simp), if_neg]
  rintro ⟨hc, hl, ha, hb, hff⟩
  rw [List.length_drop] at hl
  have h2 : i + 2 < s.length := by omega
  refine hn hc h2 ?_
  rw [List.drop_eq_getElem_cons (show i + 1 < s.length by omega), List.drop_eq_getElem_cons h2] at ha hb hff
  exact ⟨ha, hb, hff⟩
end Go.Proofs.YtcdeikhfmllkdaaGreatDoor
