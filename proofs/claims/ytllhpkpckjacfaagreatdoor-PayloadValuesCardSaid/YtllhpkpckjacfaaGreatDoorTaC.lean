/- template's turn and Filter. -/
import Derived.Test.YtllhpkpckjacfaaGreatDoorTaB
import Derived.Lib.ConvBytes
import Derived.Laws.IdiomStrings
import Derived.Outline
namespace Go.Proofs.YtllhpkpckjacfaaGreatDoor
open Go.RowKit
set_option linter.unusedVariables false
set_option linter.unusedSimpArgs false

def turnB (f t : Nat) (c : UInt8) : UInt8 := if f ≤ c.toNat ∧ c.toNat < f + 26 then (c.toNat - f + t).toUInt8 else c
def turnM (f t : Nat) (s : Bytes) : Bytes := s.map (turnB f t)
/-- The new row: what has been turned, what has not, and what the row has more. -/
structure TuAt (w wr : World) (f t : Nat) (s : Bytes) (k : Nat) : Prop where
  bel : Below w.heap.size w wr
  row : ∃ rest fz, wr.heap[w.heap.size]? = some (.cells (Lib.byteCells ((s.take k).map (turnB f t) ++ s.drop k) ++ rest).toArray 5 fz) ∧ s.length ≤ fz.1
  le : k ≤ s.length
theorem cellF {w : World} {p : Nat} {cs : Array Value} {t : TypeId} {fz : Nat × Nat} (h : w.heap[p]? = some (.cells cs t fz)) (i : Nat) (hi : i < fz.1) : w.cell? ⟨p, i, none⟩ = cs[i]? ∧ w.frozen? ⟨p, i, none⟩ = false := by
  constructor
  · simp [World.cell?, h]
  · simp [World.frozen?, h]; omega
theorem blk_setF {w : World} {g : Nat} {t : TypeId} {cs : Array Value} {fz : Nat × Nat} (h : w.heap[g]? = some (.cells cs t fz)) (i : Nat) (u : Value) : (w.setCell ⟨g, i, none⟩ u).heap[g]? = some (.cells (cs.setIfInBounds i u) t fz) := by
  simp [World.setCell, Array.getElem?_modify, h]
theorem tu_start (w : World) (f t : Nat) (s : Bytes) : TuAt w (Lib.bytesWorld w 5 (str s)) f t s 0 := by
  refine ⟨Lib.bytesWorld_below w 5 (str s), ?_, Nat.zero_le _⟩
  have h := Lib.bytesWorld_at_new w 5 (str s)
  refine ⟨List.replicate (grownCap w (str s).size 0 5 - (str s).size) (.int .u8 0), ((Lib.bytesCells w 5 (str s)).size, (Lib.bytesCells w 5 (str s)).size + 1), ?_, ?_⟩
  · rw [h]
    congr 2
    simp [Lib.bytesCells, Lib.byteCells, str]
  · simp only [Lib.bytesCells, Array.size_append, Array.size_map, Array.size_replicate]
    have : (str s).data.size = s.length := str_size s
    omega
theorem TuAt.cell {w wr : World} {f t : Nat} {s : Bytes} {k : Nat} (h : TuAt w wr f t s k) {c : UInt8} (hk : k < s.length) (hc : s[k] = c) : wr.cell? ⟨w.heap.size, k, none⟩ = some (.int .u8 c.toNat) ∧ wr.frozen? ⟨w.heap.size, k, none⟩ = false := by
  obtain ⟨rest, fz, hr, hf⟩ := h.row
  obtain ⟨h1, h2⟩ := cellF hr k (by omega)
  refine ⟨h1.trans ?_, h2⟩
  have hlen : ((s.take k).map (turnB f t)).length = k := by simp; omega
  have e : ((s.take k).map (turnB f t) ++ s.drop k)[k]? = some c := by
    rw [List.getElem?_append_right (by omega), hlen, Nat.sub_self, List.getElem?_drop, Nat.add_zero, List.getElem?_eq_getElem hk, hc]
  have e2 : (Lib.byteCells ((s.take k).map (turnB f t) ++ s.drop k))[k]? = some (.int .u8 c.toNat) := by
    simp only [Lib.byteCells, List.getElem?_map]
    rw [e]; rfl
  rw [List.getElem?_toArray, List.getElem?_append_left (List.getElem?_eq_some_iff.1 e2).1, e2]
theorem TuAt.step {w wr : World} {f t : Nat} {s : Bytes} {k : Nat} (h : TuAt w wr f t s k) {c : UInt8} (hk : k < s.length) (hc : s[k] = c) {x : Int} (hx : x = ((turnB f t c).toNat : Int)) : TuAt w (wr.setCell ⟨w.heap.size, k, none⟩ (.int .u8 x)) f t s (k + 1) := by
  obtain ⟨rest, fz, hr, hf⟩ := h.row
  refine ⟨h.bel.setCell (p := ⟨w.heap.size, k, none⟩) (Nat.le_refl _) _, ⟨rest, fz, ?_, hf⟩, by omega⟩
  have := blk_setF hr k (.int .u8 x)
  rw [this]
  have hlen : ((s.take k).map (turnB f t)).length = k := by simp; omega
  have hd : s.drop k = c :: s.drop (k + 1) := by rw [List.drop_eq_getElem_cons hk, hc]
  have ht : s.take (k + 1) = s.take k ++ [c] := by rw [List.take_succ_eq_append_getElem hk, hc]
  congr 2
  rw [hd, ht, hx]
  have hl2 : (Lib.byteCells ((s.take k).map (turnB f t))).length = k := by simp only [Lib.byteCells, List.length_map]; simp; omega
  have e : ∀ y : UInt8, Lib.byteCells ((s.take k).map (turnB f t) ++ y :: s.drop (k + 1)) ++ rest = Lib.byteCells ((s.take k).map (turnB f t)) ++ (.int .u8 (y.toNat : Int)) :: (Lib.byteCells (s.drop (k + 1)) ++ rest) := by
    intro y; simp [Lib.byteCells]
  have e3 : (s.take k ++ [c]).map (turnB f t) ++ s.drop (k + 1) = (s.take k).map (turnB f t) ++ (turnB f t c) :: s.drop (k + 1) := by simp
  rw [e, e3, e]
  simp only [List.setIfInBounds_toArray]
  congr 1
  rw [List.set_append_right _ _ (by omega), hl2, Nat.sub_self, List.set_cons_zero]
theorem TuAt.skip {w wr : World} {f t : Nat} {s : Bytes} {k : Nat} (h : TuAt w wr f t s k) {c : UInt8} (hk : k < s.length) (hc : s[k] = c) (hx : turnB f t c = c) : TuAt w wr f t s (k + 1) := by
  obtain ⟨rest, fz, hr, hf⟩ := h.row
  refine ⟨h.bel, ⟨rest, fz, ?_, hf⟩, by omega⟩
  rw [hr]
  have hd : s.drop k = c :: s.drop (k + 1) := by rw [List.drop_eq_getElem_cons hk, hc]
  have ht : s.take (k + 1) = s.take k ++ [c] := by rw [List.take_succ_eq_append_getElem hk, hc]
  rw [hd, ht]
  simp [hx]
set_option maxRecDepth 100000 in
set_option maxHeartbeats 2000000 in
theorem turn_any {w : World} (s : Bytes) (hs : s.length ≤ 140737488355328) (f t : Nat) (hf : f + 26 ≤ 255) (ht : t + 26 ≤ 255) :
    Calls Tryz.prog 38 #[.string (str s), .int .u8 f, .int .u8 t] w fun e w' => e = .returned (.string (str (turnM f t s))) ∧ Below w.heap.size w w' := by
  have hsz := str_size s
  have hconv := Lib.run_convert_string_bytes (P := Tryz.prog) w 9 84 5 (str s) Tryz.underlying9 Tryz.underlying84 Tryz.underlying5
  have H0 := Lib.hid (tu_start w f t s)
  obtain ⟨S, hS⟩ : ∃ S, str s = S := ⟨_, rfl⟩
  rw [hS] at hsz hconv H0 ⊢
  obtain ⟨cap, hcap⟩ : ∃ cap, grownCap w S.size 0 5 = cap := ⟨_, rfl⟩
  rw [hcap] at hconv
  obtain ⟨w1, hw1⟩ : ∃ w1, Lib.bytesWorld w 5 S = w1 := ⟨_, rfl⟩
  rw [hw1] at hconv H0
  have HSZ := Lib.hid hsz
  clear hsz hS hcap hw1
  go_enter Tryz.func38, Tryz.ntmps38
  go_wp2_with fail
  have hfn : (0 : Int) ≤ (f : Int) := by omega
  have htn : (0 : Int) ≤ (t : Int) := by omega
  have hw0 : IntKind.u8.wrap ((f : Int) + 26) = (f : Int) + 26 := by rw [IntKind.wrap_u8]; omega
  have hS1 : (S.size : Int) ≤ 140737488355328 := by have := HSZ.out; omega
  go_loopw [14] (fun v wr => ∃ k : Nat, v = .int .i64 k ∧ TuAt w wr f t s k) (fun v _ => s.length - (intOf v).toNat)
  case atStart => exact ⟨0, rfl, H0.out⟩
  case round =>
    obtain ⟨k, rfl, hT⟩ := hrel
    have hle := hT.le
    have HT := Lib.hid hT
    clear hT
    by_cases hlt : k < s.length
    · obtain ⟨c, hc⟩ : ∃ c, s[k] = c := ⟨_, rfl⟩
      obtain ⟨c0, f0⟩ := HT.out.cell hlt hc
      have HC := Lib.hid hc
      have hks : (k : Int) < (S.size : Int) := by have := HSZ.out; omega
      have hcn := UInt8.toNat_lt c
      clear hc
      by_cases hin : f ≤ c.toNat ∧ c.toNat < f + 26
      · have h1 : decide ((f : Int) ≤ (c.toNat : Int)) = true := by simp; omega
        have h2 : decide ((c.toNat : Int) < (f : Int) + 26) = true := by simp; omega
        have hw1 : IntKind.u8.wrap ((c.toNat : Int) - (f : Int)) = (c.toNat : Int) - f := by rw [IntKind.wrap_u8]; omega
        have hw2 : IntKind.u8.wrap ((c.toNat : Int) - (f : Int) + t) = (c.toNat : Int) - f + t := by rw [IntKind.wrap_u8]; omega
        have hx : ((c.toNat : Int) - f + t) = ((turnB f t c).toNat : Int) := by
          unfold turnB
          rw [if_pos hin]
          have : (c.toNat - f + t).toUInt8.toNat = c.toNat - f + t := by simp [Nat.toUInt8]; omega
          rw [this]; omega
        have HX := Lib.hid hx
        have hin1 := hin.1
        clear hx hin
        go_wp2
        go_roundw
        case measure => simp [intOf]; omega
        case rel => exact ⟨k + 1, by go_num, HT.out.step hlt HC.out HX.out⟩
      · have hx : turnB f t c = c := by unfold turnB; rw [if_neg hin]
        have HX := Lib.hid hx
        clear hx
        by_cases h1 : f ≤ c.toNat
        · have h1' : decide ((f : Int) ≤ (c.toNat : Int)) = true := by simp; omega
          have h2 : decide ((c.toNat : Int) < (f : Int) + 26) = false := by simp; omega
          clear hin
          go_wp2
          go_roundw
          case measure => simp [intOf]; omega
          case rel => exact ⟨k + 1, by go_num, HT.out.skip hlt HC.out HX.out⟩
        · have h1' : decide ((f : Int) ≤ (c.toNat : Int)) = false := by simp; omega
          clear hin
          go_wp2
          go_roundw
          case measure => simp [intOf]; omega
          case rel => exact ⟨k + 1, by go_num, HT.out.skip hlt HC.out HX.out⟩
    · have hk : k = s.length := by omega
      have hback : (convert 84 9 (.slice (some ⟨w.heap.size, 0, none⟩) S.size cap)).run Tryz.prog wr = .ok (.string (str (turnM f t s))) wr := by
        obtain ⟨rest, fz, hr, hf⟩ := HT.out.row
        subst hk
        rw [List.take_length, List.drop_length, List.append_nil] at hr
        have hlen : S.size = (turnM f t s).length := by have := HSZ.out; simp [turnM]; omega
        rw [hlen]
        refine run_convert_bytes_back wr 84 9 5 ⟨w.heap.size, 0, none⟩ cap (turnM f t s) Tryz.underlying84 Tryz.underlying5 Tryz.underlying9 (fun j hj => ?_)
        have hjs : j < s.length := by simpa [turnM] using hj
        have e : (⟨w.heap.size, 0, none⟩ : Addr).add j = ⟨w.heap.size, j, none⟩ := by unfold Addr.add; split <;> simp_all
        rw [e, (cellF hr j (by omega)).1, List.getElem?_toArray]
        have e2 : (Lib.byteCells (s.map (turnB f t)))[j]? = some (.int .u8 ((turnM f t s)[j].toNat : Int)) := by
          simp only [Lib.byteCells, List.getElem?_map, turnM, List.getElem_map]
          rw [List.getElem?_eq_getElem hjs]; rfl
        rw [List.getElem?_append_left (List.getElem?_eq_some_iff.1 e2).1, e2]
      have HSz := HSZ.out
      clear HSz
      have HK := Lib.hid hk
      have hnk : ¬ ((k : Int) < (S.size : Int)) := by have := HSZ.out; omega
      clear hk hlt
      go_wp2
      go_ret
      exact ⟨rfl, HT.out.bel⟩

/-! ### Filter -/
def filtersM (w : List Bytes) : Bool :=
  match w with
  | [a] => a == [117, 112, 112, 101, 114] || a == [108, 111, 119, 101, 114] || a == [113, 117, 111, 116, 101]
  | [a, b] => if a = wLimit then (numberM b).isSome else a == [100, 101, 102, 97, 117, 108, 116]
  | _ => false
def filterM (s : Bytes) (w : List Bytes) : Bytes × Nat :=
  if filtersM w then
    match w with
    | [a] => if a = wUpper then (turnM 97 65 s, 0) else if a = wLower then (turnM 65 97 s, 0) else quoteP s
    | [a, b] => if a = wLimit then (s.take ((numberM b).getD 0), 0) else (if s = [] then b else s, 0)
    | _ => ([], 2)
  else ([], 2)
set_option maxRecDepth 100000 in
set_option maxHeartbeats 2000000 in
theorem filters_other {w : World} {A : Option Addr} {n c : Nat} (h1 : n ≠ 1) (h2 : n ≠ 2) :
    Calls Tryz.prog 37 #[.slice A n c] w fun e w' => e = .returned (.bool false) ∧ w' = w := by
  have e1 : ((n : Int) == 1) = false := by rw [beq_eq_false_iff_ne]; omega
  have e2 : ((n : Int) == 2) = false := by rw [beq_eq_false_iff_ne]; omega
  clear h1 h2
  go_enter Tryz.func37, Tryz.ntmps37
  go_wp2
  go_ret
  exact ⟨rfl, rfl⟩
theorem filters_any {w : World} {V : Value} {l : List Bytes} (h : Ss w V l) (hm : ∀ b ∈ l, b.length ≤ maxLen) : Calls Tryz.prog 37 #[V] w fun e w' => e = .returned (.bool (filtersM l)) ∧ Below w.heap.size w w' := by
  obtain ⟨A, c, hV, hc⟩ := h.form
  match l, h, hV, hc, hm with
  | [], h, hV, hc, hm =>
    subst hV
    exact (filters_other (by simp) (by simp)).mono (fun e w' ⟨he, hw⟩ => ⟨he, hw ▸ Below.refl _ _⟩)
  | [a], h, hV, hc, hm =>
    obtain ⟨ad, n, c', e, h0⟩ := h.cells 0 a rfl
    rw [hV] at e
    cases e
    subst hV
    exact (filters_one hc h0).mono (fun e w' ⟨he, hw⟩ => ⟨he, hw ▸ Below.refl _ _⟩)
  | [a, b], h, hV, hc, hm =>
    obtain ⟨ad, n, c', e, h0⟩ := h.cells 0 a rfl
    obtain ⟨ad', n', c'', e', h1⟩ := h.cells 1 b rfl
    rw [hV] at e e'
    cases e
    cases e'
    subst hV
    exact filters_two hc h0 h1 (hm b (by simp))
  | a :: b :: d :: r, h, hV, hc, hm =>
    subst hV
    exact (filters_other (by simp) (by simp)).mono (fun e w' ⟨he, hw⟩ => ⟨he, hw ▸ Below.refl _ _⟩)
set_option maxRecDepth 100000 in
set_option maxHeartbeats 2000000 in
theorem filter_no {w : World} {V : Value} {l : List Bytes} (h : Ss w V l) (hm : ∀ b ∈ l, b.length ≤ maxLen) (s : ByteArray) (hf : filtersM l = false) :
    Calls Tryz.prog 14 #[.string s, V] w fun e w' => e = .returned (.tuple #[.string (str []), .int .i64 2]) ∧ Below w.heap.size w w' := by
  obtain ⟨A, c, rfl, hc⟩ := h.form
  have hfl := filters_any h hm
  rw [hf] at hfl
  have HF := Lib.hid hfl
  clear hfl hf h
  go_enter Tryz.func14, Tryz.ntmps14
  go_wp2_with fail
  refine HF.out.mono ?_
  rintro e w1 ⟨rfl, hb⟩
  have HB := Lib.hid hb
  clear hb
  go_wp2
  go_ret2
  exact ⟨rfl, HB.out⟩
set_option maxRecDepth 100000 in
set_option maxHeartbeats 2000000 in
theorem filter_one {w : World} (hT : Tabs w) {ad : Addr} {c : Nat} {a : Bytes} (hc : 1 ≤ c) (h0 : w.cell? ad = some (.string (str a))) (s : Bytes) (hs : 6 * s.length + 2 ≤ 140737488355328) (hf : filtersM [a] = true) :
    Calls Tryz.prog 14 #[.string (str s), .slice (some ad) 1 c] w fun e w' => e = .returned (.tuple #[.string (str (filterM s [a]).1), .int .i64 (filterM s [a]).2]) ∧ Below w.heap.size w w' := by
  have hfl := filters_one hc h0
  rw [show (a == [117, 112, 112, 101, 114] || a == [108, 111, 119, 101, 114] || a == [113, 117, 111, 116, 101]) = true from hf] at hfl
  have HF := Lib.hid hfl
  have HT := Lib.hid hT
  have ht := str_tl a
  have hcases : a = wUpper ∨ a = wLower ∨ a = wQuote := by
    simp only [filtersM, Bool.or_eq_true, beq_iff_eq] at hf
    rcases hf with (h | h) | h
    · exact .inl h
    · exact .inr (.inl h)
    · exact .inr (.inr h)
  clear hfl
  rcases hcases with rfl | rfl | rfl
  · have e : filterM s [wUpper] = (turnM 97 65 s, 0) := by unfold filterM; rw [if_pos hf]; rfl
    rw [e]
    have ht2 : (str wUpper).toList = [117, 112, 112, 101, 114] := ht
    clear e hf ht hT
    go_enter Tryz.func14, Tryz.ntmps14
    go_wp2_with fail
    refine HF.out.mono ?_
    rintro e w1 ⟨rfl, rfl⟩
    go_wp2_with fail
    refine (turn_any s (by omega) 97 65 (by omega) (by omega)).mono ?_
    rintro e w2 ⟨rfl, hb⟩
    have HB := Lib.hid hb
    clear hb
    go_wp2
    go_ret2
    exact ⟨rfl, HB.out⟩
  · have e : filterM s [wLower] = (turnM 65 97 s, 0) := by unfold filterM; rw [if_pos hf]; rfl
    rw [e]
    have ht2 : (str wLower).toList = [108, 111, 119, 101, 114] := ht
    clear e hf ht hT
    go_enter Tryz.func14, Tryz.ntmps14
    go_wp2_with fail
    refine HF.out.mono ?_
    rintro e w1 ⟨rfl, rfl⟩
    go_wp2_with fail
    refine (turn_any s (by omega) 65 97 (by omega) (by omega)).mono ?_
    rintro e w2 ⟨rfl, hb⟩
    have HB := Lib.hid hb
    clear hb
    go_wp2
    go_ret2
    exact ⟨rfl, HB.out⟩
  · have e : filterM s [wQuote] = quoteP s := by unfold filterM; rw [if_pos hf]; rfl
    rw [e]
    have ht2 : (str wQuote).toList = [113, 117, 111, 116, 101] := ht
    clear e hf ht hT
    go_enter Tryz.func14, Tryz.ntmps14
    go_wp2_with fail
    refine HF.out.mono ?_
    rintro e w1 ⟨rfl, rfl⟩
    go_wp2_with fail
    refine (Quote_any HT.out s hs).mono ?_
    rintro e w2 ⟨rfl, hb⟩
    have HB := Lib.hid hb
    clear hb
    go_wp2
    go_ret2
    exact ⟨rfl, HB.out⟩
theorem mn_take {n m : Nat} : (if (n : Int) ≤ (m : Int) then (n : Int) else m) = ((min n m : Nat) : Int) := by split <;> omega
set_option maxRecDepth 100000 in
set_option maxHeartbeats 2000000 in
theorem filter_two {w : World} {ad : Addr} {c : Nat} {a b : Bytes} (hc : 2 ≤ c) (h0 : w.cell? ad = some (.string (str a))) (h1 : w.cell? ⟨ad.block, ad.off + 1, none⟩ = some (.string (str b))) (hb : b.length ≤ maxLen) (s : Bytes) (hs : s.length ≤ 140737488355328) (hf : filtersM [a, b] = true) :
    Calls Tryz.prog 14 #[.string (str s), .slice (some ad) 2 c] w fun e w' => e = .returned (.tuple #[.string (str (filterM s [a, b]).1), .int .i64 (filterM s [a, b]).2]) ∧ Below w.heap.size w w' := by
  have hfl := filters_two hc h0 h1 hb
  rw [show (if a = wLimit then (numberM b).isSome else a == [100, 101, 102, 97, 117, 108, 116]) = true from hf] at hfl
  have HF := Lib.hid hfl
  have HC1 := Lib.hid h1
  have HC0 := Lib.hid h0
  clear hfl h0 h1
  by_cases hl : a = wLimit
  · subst hl
    have ht2 : (str wLimit).toList = [108, 105, 109, 105, 116] := str_tl _
    obtain ⟨n, hn⟩ : ∃ n, numberM b = some n := by
      simp only [filtersM, if_pos] at hf
      exact Option.isSome_iff_exists.1 hf
    have e : filterM s [wLimit, b] = (s.take n, 0) := by unfold filterM; rw [if_pos hf]; simp [hn]
    rw [e]
    have HN := Lib.hid hn
    have hsz := str_size s
    obtain ⟨S, hS⟩ : ∃ S, str s = S := ⟨_, rfl⟩
    have HS := Lib.hid (And.intro hS hsz)
    rw [hS] at hsz ⊢
    have hS1 : (S.size : Int) ≤ 140737488355328 := by omega
    clear e hf hn hS hsz hb
    go_enter Tryz.func14, Tryz.ntmps14
    go_wp2_with fail
    refine HF.out.mono ?_
    rintro e w1 ⟨rfl, hb⟩
    have HB := Lib.hid hb
    have c0 := (hb.cell (p := ad) (World.block_lt_of_cell? w _ HC0.out)).trans HC0.out
    have c1 := (hb.cell (p := ⟨ad.block, ad.off + 1, none⟩) (World.block_lt_of_cell? w _ HC1.out)).trans HC1.out
    clear hb
    go_wp2_with fail
    refine (number_yes b HN.out).mono ?_
    rintro e w2 ⟨rfl, hb⟩
    have HB2 : Hid (Below w.heap.size w w2) := Lib.hid (HB.out.trans (hb.mono HB.out.size))
    clear hb c0 c1
    obtain ⟨k, hk⟩ : ∃ k, min n S.size = k := ⟨_, rfl⟩
    have hmin : min (n : Int) (S.size : Int) = (k : Int) := by omega
    have hk0 : (0 : Int) ≤ (k : Int) := by omega
    have hk1 : (k : Int) ≤ (S.size : Int) := by omega
    have HK := Lib.hid hk
    clear hk
    go_wp2
    go_ret2
    refine ⟨?_, HB2.out⟩
    have h1 := HS.out.1
    have h2 := HS.out.2
    have hk := HK.out
    have e : S.extract 0 k = str (s.take n) := by
      rw [← h1]
      have : s.take n = s.take k := by rw [← hk, ← h1, h2]; exact (List.take_eq_take_min ..)
      rw [this]
      apply ByteArray.ext; simp [str]
    exact congrArg (fun x => Ending.returned (.tuple #[.string x, .int .i64 0])) e
  · have hne : ((str a).toList == [108, 105, 109, 105, 116]) = false := by rw [str_tl, beq_eq_false_iff_ne]; exact hl
    have hd : a = wDefault := by
      simp only [filtersM, if_neg hl, beq_iff_eq] at hf
      exact hf
    subst hd
    have e : filterM s [wDefault, b] = (if s = [] then b else s, 0) := by unfold filterM; rw [if_pos hf]; simp [hl]
    rw [e]
    have ht2 : (str wDefault).toList = [100, 101, 102, 97, 117, 108, 116] := str_tl _
    clear e hf hl hb hne
    by_cases h0 : s = []
    · subst h0
      have hE : (str []).toList.isEmpty = true := by rw [str_empty]; rfl
      rw [if_pos rfl]
      go_enter Tryz.func14, Tryz.ntmps14
      go_wp2_with fail
      refine HF.out.mono ?_
      rintro e w1 ⟨rfl, hb⟩
      have HB := Lib.hid hb
      have c0 := (hb.cell (p := ad) (World.block_lt_of_cell? w _ HC0.out)).trans HC0.out
      have c1 := (hb.cell (p := ⟨ad.block, ad.off + 1, none⟩) (World.block_lt_of_cell? w _ HC1.out)).trans HC1.out
      clear hb
      go_wp2
      go_ret2
      exact ⟨rfl, HB.out⟩
    · have hE : (str s).toList.isEmpty = false := by rw [str_empty]; cases s <;> simp_all
      have hE3 : ¬ (str s).toList = [] := by rw [str_tl]; exact h0
      have hE4 : ((str s).toList == []) = false := by rw [beq_eq_false_iff_ne]; exact hE3
      rw [if_neg h0]
      clear h0
      go_enter Tryz.func14, Tryz.ntmps14
      go_wp2_with fail
      refine HF.out.mono ?_
      rintro e w1 ⟨rfl, hb⟩
      have HB := Lib.hid hb
      have c0 := (hb.cell (p := ad) (World.block_lt_of_cell? w _ HC0.out)).trans HC0.out
      have c1 := (hb.cell (p := ⟨ad.block, ad.off + 1, none⟩) (World.block_lt_of_cell? w _ HC1.out)).trans HC1.out
      clear hb
      go_wp2
      go_ret2
      exact ⟨rfl, HB.out⟩
theorem Filter_any {w : World} (hT : Tabs w) {V : Value} {l : List Bytes} (h : Ss w V l) (hm : ∀ b ∈ l, b.length ≤ maxLen) (s : Bytes) (hs : 6 * s.length + 2 ≤ 140737488355328) :
    Calls Tryz.prog 14 #[.string (str s), V] w fun e w' => e = .returned (.tuple #[.string (str (filterM s l).1), .int .i64 (filterM s l).2]) ∧ Below w.heap.size w w' := by
  cases hf : filtersM l with
  | false =>
    have e : filterM s l = ([], 2) := by unfold filterM; rw [hf]; simp
    rw [e]
    exact filter_no h hm (str s) hf
  | true =>
    obtain ⟨A, c, hV, hc⟩ := h.form
    match l, h, hV, hc, hm, hf with
    | [], h, hV, hc, hm, hf => simp [filtersM] at hf
    | [a], h, hV, hc, hm, hf =>
      obtain ⟨ad, n, c', e, h0⟩ := h.cells 0 a rfl
      rw [hV] at e
      cases e
      subst hV
      exact filter_one hT hc h0 s hs hf
    | [a, b], h, hV, hc, hm, hf =>
      obtain ⟨ad, n, c', e, h0⟩ := h.cells 0 a rfl
      obtain ⟨ad', n', c'', e', h1⟩ := h.cells 1 b rfl
      rw [hV] at e e'
      cases e
      cases e'
      subst hV
      exact filter_two hc h0 h1 (hm b (by simp)) s (by omega) hf
    | a :: b :: d :: r, h, hV, hc, hm, hf => simp [filtersM] at hf
end Go.Proofs.YtllhpkpckjacfaaGreatDoor
