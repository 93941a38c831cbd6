/- request: Unpercent. -/
import Derived.Test.YtcdeikhfmllkdaaGreatDoorRqB
import Derived.Laws.BytesArg
namespace Go.Proofs.YtcdeikhfmllkdaaGreatDoor
open Go.RowKit
set_option linter.unusedVariables false
set_option linter.unusedSimpArgs false

def nums (k : IntKind) (xs : List Int) : List Value := xs.map fun x => .int k x
theorem own_string {P : Program} {w : World} {base n : Nat} {e' src dst e : TypeId} {v : Value} {xs : List Int} (hs : P.underlying src = some (.slice e)) (he : P.underlying e = some (.int .u8)) (hd : P.underlying dst = some .string)
    (h : w.ownsRow base e' 1 v n (nums .u8 xs)) : (convert src dst v).run P w = .ok (.string (strOfNums xs)) w := by
  have hl : xs.length = n := by have := h.1; simp [nums] at this; exact this
  rcases h.2 with ⟨rfl, rfl⟩ | ⟨g, cap, cur, rfl, _⟩
  · obtain rfl : xs = [] := List.eq_nil_of_length_eq_zero hl
    exact run_convert_bytes_nil w src e hs he 0 0 dst hd
  · refine run_convert_bytes_arg w src e hs he g 0 n cap xs hl (fun i hi => ?_) dst hd
    have hc := h.cells (g := g) rfl i (.int .u8 (xs.getD i 0)) (by simp [nums, List.getElem?_eq_getElem (show i < xs.length by omega), List.getD_eq_getElem?_getD])
    have ha : (⟨g, 0, none⟩ : Addr).add i = ⟨g, 0 + i, none⟩ := by unfold Addr.add; split <;> simp_all
    rwa [ha] at hc
def numsP (l : Bytes) : List Int := l.map fun b => (b.toNat : Int)
theorem numsP_app (a b : Bytes) : numsP (a ++ b) = numsP a ++ numsP b := by simp [numsP]
theorem numsP_str (l : Bytes) : strOfNums (numsP l) = str l := by
  simp [strOfNums, numsP, str, Function.comp_def]
theorem rq_own_base {w : World} {B : Nat} {e : TypeId} {size n : Nat} {v : Value} {xs : List Value} (h : w.ownsRow B e size v n xs) (k : Nat) (hk : v.ownBlock = some k) : B ≤ k := by
  rcases h.2 with ⟨rfl, _⟩ | ⟨g, cap, cur, rfl, hb, _⟩
  · simp [Value.ownBlock] at hk
  · have : g = k := by simpa [Value.ownBlock] using hk
    omega
theorem below_grown_own {B : Nat} {w0 w w' : World} {e : TypeId} {size n : Nat} {v : Value} {xs : List Value} {o : Obj} (hb : Below B w0 w) (hB : B ≤ w.heap.size) (ho : w.ownsRow B e size v n xs) (hg : (w.alloc o).grownBy w' v.ownBlock) : Below B w0 w' :=
  Below.grown (hb.alloc hB o) hg (by simp; omega) (fun k hk => rq_own_base ho k hk)
/-- What the loop keeps. -/
structure UqR (w : World) (s : Bytes) (B : Nat) (v4 : Value) (wr : World) (acc : Bytes) (i : Nat) : Prop where
  le : i ≤ s.length
  len : acc.length ≤ i
  eq : strM s = (strM (s.drop i)).map (acc ++ ·)
  own : wr.ownsRow B 5 1 v4 acc.length (nums .u8 (numsP acc))
  bel : Below B w wr
theorem UqR.step {w wr w3 : World} {s : Bytes} {B : Nat} {v4 V : Value} {acc : Bytes} {i j : Nat} {c : UInt8} {z : Int} {o : Obj} (h : UqR w s B v4 wr acc i) (hB : B ≤ wr.heap.size) (hj : j ≤ s.length) (hij : i < j)
    (he : strM (s.drop i) = (strM (s.drop j)).map (c :: ·)) (hz : z = (c.toNat : Int)) (ho : w3.ownsRow B 5 1 V (acc.length + 1) (nums .u8 (numsP acc) ++ [.int .u8 z])) (hg : (wr.alloc o).grownBy w3 v4.ownBlock) : UqR w s B V w3 (acc ++ [c]) j := by
  refine ⟨hj, by have := h.len; simp; omega, ?_, ?_, below_grown_own h.bel hB h.own hg⟩
  · rw [h.eq, he, Option.map_map]
    congr 1
    funext x
    simp
  · subst hz
    rw [numsP_app, List.length_append]
    simpa [nums, numsP] using ho
theorem UqR.drewN {w wr : World} {s : Bytes} {B : Nat} {v4 : Value} {acc : Bytes} {i : Nat} (h : UqR w s B v4 wr acc i) (n : Nat) : UqR w s B v4 (wr.drewN n) acc i := ⟨h.le, h.len, h.eq, h.own, below_drewN h.bel n⟩
theorem or_nib {x y : Int} (hx : 0 ≤ x) (hx1 : x < 16) (hy : 0 ≤ y) (hy1 : y < 16) : bits BinOp.or IntKind.i64 (x * 16) y = 16 * x + y := by
  obtain ⟨a, rfl⟩ := Int.eq_ofNat_of_zero_le hx
  obtain ⟨b, rfl⟩ := Int.eq_ofNat_of_zero_le hy
  have h : ∀ a, a < 16 → ∀ b, b < 16 → bits BinOp.or IntKind.i64 ((a : Nat) * 16 : Int) ((b : Nat) : Int) = 16 * ((a : Nat) : Int) + ((b : Nat) : Int) := by decide +kernel
  exact h a (by omega) b (by omega)
theorem info5' : (Tryz.prog.info? 5).map (fun i => (i.zero, i.size, i.bytes)) = some (some (.int .u8 0), 1, 1) := by kernel_rfl
theorem ix_run {S : ByteArray} {k : Nat} {c : UInt8} (h : k < S.size) (hc : S[k]'h = c) (w : World) : Sem.run Tryz.prog (Instr.index 9 (.string S) (.int .i64 (k : Int))) w = .ok (.int .u8 (c.toNat : Int)) w := by
  rw [run_index_string (h := Tryz.underlying9)]
  subst hc
  simp [h]
set_option maxRecDepth 100000 in
set_option maxHeartbeats 4000000 in
theorem Unpercent_any (w : World) (s : Bytes) (hs : s.length ≤ 100000) : Calls Tryz.prog 21 #[.string (str s)] w fun e w' => e = .returned (.tuple #[.string (str (unpR s).1), .int .i64 (unpR s).2]) ∧ Below w.heap.size w w' := by
  obtain ⟨B, hB⟩ : ∃ B, w.heap.size = B := ⟨_, rfl⟩
  have HB := Lib.hid hB
  rw [hB]
  have hsz := str_size s
  obtain ⟨S, hS⟩ : ∃ S, str s = S := ⟨_, rfl⟩
  have HGet : Hid (∀ n (hn : n < s.length) (hn2 : n < S.size), S[n]'hn2 = s[n]'hn) := by
    subst hS; exact Lib.hid (fun n hn hn2 => str_get s n hn hn2)
  rw [hS] at hsz ⊢
  clear hB hS
  obtain ⟨i0, hi, hz0, hz1, hz2⟩ := info_parts info5'
  go_enter Tryz.func21, Tryz.ntmps21
  go_wp2_with fail
  go_loopw [4, 5] (fun v4 v5 wr => ∃ acc i, v5 = .int .i64 (i : Nat) ∧ UqR w s B v4 wr acc i) (fun _ v5 _ => s.length - (intOf v5).toNat)
  case atStart => exact ⟨[], 0, rfl, by omega, by simp, by simp only [List.drop_zero, List.nil_append]; cases strM s <;> rfl, World.ownsRow_nil _ _ _ _, Below.refl _ _⟩
  case round =>
    obtain ⟨acc, i, rfl, hr⟩ := hrel
    have HR := Lib.hid hr
    have hle := hr.le
    have hlen := hr.len
    have hwB : B ≤ wr.heap.size := by have := hr.bel.size; rw [HB.out] at this; exact this
    clear hr
    by_cases hl : i < s.length
    · obtain ⟨c, hc⟩ : ∃ c, s[i] = c := ⟨_, rfl⟩
      have hn2 : i < S.size := by omega
      have hsc := (HGet.out i hl hn2).trans hc
      have HHc := Lib.hid hc
      clear hc
      have HF := Lib.hid (free_any c wr)
      by_cases hf : freeB c = true
      · have HEq := Lib.hid (str_free hl (by rw [HHc.out]; exact hf))
        rw [HHc.out] at HEq
        rw [hf] at HF
        clear hf
        go_wp2_with (first | (go_at_call 65; (refine HF.out.mono ?_); rintro e w2 ⟨rfl, rfl⟩) | (refine wpList_append_lies _ rfl _ _ _ rfl B 5 i0 _ 1 1 Tryz.underlying105 hi hz0 hz1 hz2 rfl (by omega) u4 acc.length (nums .u8 (numsP acc)) (by rfl) (HR.out.own.alloc _) ⟨w2.heap.size, 0, none⟩ 1 1 [.int .u8 c.toNat] (by rfl) (by rfl) (World.news_of_block (cs := #[.int .u8 c.toNat]) (t := 5) (fr := (0, 0)) (heap_alloc_new w2 _)) (by simp [Value.oneCell']) (by omega) (by unfold maxLen; omega) (by omega) (by simp; omega) (w2.heap.size + 1) (by simp) ?_; intro g6 cap6 w3 hown3 hgrow3 hat3 hlt3; have H3 := Lib.hid (And.intro hown3 hgrow3); clear hown3 hgrow3 hat3 hlt3))
        go_roundw
        case rel => exact ⟨acc ++ [c], i + 1, by go_num, UqR.step HR.out hwB (by omega) (by omega) HEq.out rfl H3.out.1 H3.out.2⟩
        case measure => simp [intOf]; omega
      · have hf' : freeB c = false := by simpa using hf
        rw [hf'] at HF
        have hc256 := c.toNat_lt
        by_cases h37 : c = 37
        · have hn : ((c.toNat : Int) != 37) = false := by subst h37; rfl
          by_cases h2 : i + 2 < s.length
          · obtain ⟨a, ha⟩ : ∃ a, s[i + 1] = a := ⟨_, rfl⟩
            obtain ⟨b, hb⟩ : ∃ b, s[i + 2] = b := ⟨_, rfl⟩
            have hn1 : i + 1 < S.size := by omega
            have hn22 : i + 2 < S.size := by omega
            have hsa := (HGet.out (i + 1) (by omega) hn1).trans ha
            have hsb := (HGet.out (i + 2) h2 hn22).trans hb
            have FA := Lib.hid (hexi_any a)
            have FB := Lib.hid (hexi_any b)
            have HAB := Lib.hid (And.intro ha hb)
            clear ha hb
            obtain ⟨x, hx⟩ : ∃ x, hexI a = x := ⟨_, rfl⟩
            obtain ⟨y, hy⟩ : ∃ y, hexI b = y := ⟨_, rfl⟩
            have hx0 := hexI_lo a
            have hx1 := hexI_hi a
            have hy0 := hexI_lo b
            have hy1 := hexI_hi b
            rw [hx] at FA hx0 hx1
            rw [hy] at FB hy0 hy1
            have HXY := Lib.hid (And.intro hx hy)
            have H37 := Lib.hid h37
            have HFC := Lib.hid hf'
            clear hx hy h37 hf hf'
            have hw1 : IntKind.i64.wrap ((i : Int) + 1) = (i : Int) + 1 := by rw [IntKind.wrap_i64]; omega
            have hw2 : IntKind.i64.wrap ((i : Int) + 2) = (i : Int) + 2 := by rw [IntKind.wrap_i64]; omega
            have ix1 : ∀ w1, Sem.run Tryz.prog (Instr.index 9 (.string S) (.int .i64 ((i : Int) + 1))) w1 = .ok (.int .u8 (a.toNat : Int)) w1 := fun w1 => ix_run hn1 hsa w1
            have ix2 : ∀ w1, Sem.run Tryz.prog (Instr.index 9 (.string S) (.int .i64 ((i : Int) + 2))) w1 = .ok (.int .u8 (b.toNat : Int)) w1 := fun w1 => ix_run hn22 hsb w1
            clear hsa hsb hn1 hn22
            have hi2 : decide ((s.length : Int) ≤ (i : Int) + 2) = false := decide_eq_false (by omega)
            by_cases hxy : 0 ≤ x ∧ 0 ≤ y
            · obtain ⟨hx, hy⟩ := hxy
              have HZ : Hid (((unhex a b).toNat : Int) = 16 * x + y) := Lib.hid (by have := unhex_toNat (a := a) (b := b) (by rw [HXY.out.1]; exact hx) (by rw [HXY.out.2]; exact hy); rw [HXY.out.1, HXY.out.2] at this; exact this)
              have HG := Lib.hid (fun w1 => HZ.out ▸ free_any (unhex a b) w1)
              obtain ⟨fz, hfz⟩ : ∃ fz, freeB (unhex a b) = fz := ⟨_, rfl⟩
              rw [hfz] at HG
              have HFZ := Lib.hid hfz
              clear hfz
              have hs1 : IntKind.i64.wrap (x * 16) = x * 16 := by rw [IntKind.wrap_i64]; omega
              have hs2 := or_nib hx hx1 hy hy1
              have hs3 : IntKind.u8.wrap (16 * x + y) = 16 * x + y := by rw [IntKind.wrap_u8]; omega
              go_upto_region 10 with (first | (go_at_call 65; (refine HF.out.mono ?_); rintro e w2 ⟨rfl, rfl⟩))
              go_quiet ((go_at_call 66; first | exact Calls.quiet_of_same (FA.out _) | exact Calls.quiet_of_same (FB.out _)))
              go_upto_region 11 with fail
              have HR5 := Lib.hid (HR.out.drewN nq)
              have hwB5 : B ≤ (w2.drewN nq).heap.size := hwB
              clear hwB
              have HRx := HR
              clear HR HF
              generalize w2.drewN nq = w5 at HR5 hwB5 ⊢
              cases fz with
              | true =>
                have HEq := Lib.hid (str_no hl (by rw [HHc.out]; exact HFC.out) (fun _ _ k => by have := k.2.2; rw [HAB.out.1, HAB.out.2, HFZ.out] at this; cases this))
                have hnone : strM s = none := by rw [HR5.out.eq, HEq.out]; rfl
                have HU := Lib.hid (unpR_none hnone)
                clear hnone
                go_wp2_with (first | (go_at_call 65; (refine (HG.out _).mono ?_); rintro e w6 ⟨rfl, rfl⟩))
                go_ret2
                exact ⟨by rw [HU.out]; rfl, HR5.out.bel⟩
              | false =>
                have HEq := Lib.hid (str_hex h2 (by rw [HHc.out]; exact H37.out) (by rw [HAB.out.1, HXY.out.1]; exact hx) (by rw [HAB.out.2, HXY.out.2]; exact hy) (by rw [HAB.out.1, HAB.out.2]; exact HFZ.out))
                rw [HAB.out.1, HAB.out.2] at HEq
                go_wp2_with (first | (go_at_call 65; (refine (HG.out _).mono ?_); rintro e w6 ⟨rfl, rfl⟩) | (refine wpList_append_lies _ rfl _ _ _ rfl B 5 i0 _ 1 1 Tryz.underlying105 hi hz0 hz1 hz2 rfl (by omega) u4 acc.length (nums .u8 (numsP acc)) (by rfl) (HR5.out.own.alloc _) ⟨w6.heap.size, 0, none⟩ 1 1 [.int .u8 (16 * x + y)] (by rfl) (by rfl) (World.news_of_block (cs := #[.int .u8 (16 * x + y)]) (t := 5) (fr := (0, 0)) (heap_alloc_new w6 _)) (by simp [Value.oneCell']) (by omega) (by unfold maxLen; omega) (by omega) (by simp; omega) (w6.heap.size + 1) (by simp) ?_; intro g6 cap6 w3 hown3 hgrow3 hat3 hlt3; have H3 := Lib.hid (And.intro hown3 hgrow3); clear hown3 hgrow3 hat3 hlt3))
                go_roundw
                case rel => exact ⟨acc ++ [unhex a b], i + 3, by go_num, UqR.step HR5.out hwB5 (by omega) (by omega) HEq.out HZ.out.symm H3.out.1 H3.out.2⟩
                case measure => simp [intOf]; omega
            · have HEq := Lib.hid (str_no hl (by rw [HHc.out]; exact HFC.out) (fun _ _ k => by have h1 := k.1; have h2 := k.2.1; rw [HAB.out.1, HXY.out.1] at h1; rw [HAB.out.2, HXY.out.2] at h2; exact hxy ⟨h1, h2⟩))
              have hnone : strM s = none := by rw [HR.out.eq, HEq.out]; rfl
              have HU := Lib.hid (unpR_none hnone)
              clear hnone
              by_cases hx : 0 ≤ x
              · have hy : y < 0 := by omega
                clear hxy
                go_upto_region 10 with (first | (go_at_call 65; (refine HF.out.mono ?_); rintro e w2 ⟨rfl, rfl⟩))
                go_quiet ((go_at_call 66; first | exact Calls.quiet_of_same (FA.out _) | exact Calls.quiet_of_same (FB.out _)))
                go_wp2_with fail
                go_ret2
                exact ⟨by rw [HU.out]; rfl, below_drewN HR.out.bel _⟩
              · have hx' : x < 0 := by omega
                clear hxy hx
                go_upto_region 10 with (first | (go_at_call 65; (refine HF.out.mono ?_); rintro e w2 ⟨rfl, rfl⟩))
                go_quiet ((go_at_call 66; first | exact Calls.quiet_of_same (FA.out _) | exact Calls.quiet_of_same (FB.out _)))
                go_wp2_with fail
                go_ret2
                exact ⟨by rw [HU.out]; rfl, below_drewN HR.out.bel _⟩
          · have HEq := Lib.hid (str_no hl (by rw [HHc.out]; exact hf') (fun _ k => absurd k h2))
            have hnone : strM s = none := by rw [HR.out.eq, HEq.out]; rfl
            have HU := Lib.hid (unpR_none hnone)
            clear hnone hf hf' h37
            go_wp2_with (first | (go_at_call 65; (refine HF.out.mono ?_); rintro e w2 ⟨rfl, rfl⟩))
            go_ret2
            exact ⟨by rw [HU.out]; rfl, HR.out.bel⟩
        · have hn : ((c.toNat : Int) != 37) = true := by have h2 : ((c.toNat : Int) == 37) = false := beq_no (k := 37) (by decide) h37; simp only [bne, h2, Bool.not_false]
          have HEq := Lib.hid (str_no hl (by rw [HHc.out]; exact hf') (fun k => absurd (HHc.out.symm.trans k) h37))
          have hnone : strM s = none := by rw [HR.out.eq, HEq.out]; rfl
          have HU := Lib.hid (unpR_none hnone)
          clear hnone hf hf' h37
          go_wp2_with (first | (go_at_call 65; (refine HF.out.mono ?_); rintro e w2 ⟨rfl, rfl⟩))
          go_ret2
          exact ⟨by rw [HU.out]; rfl, HR.out.bel⟩
    · have hend : i = s.length := by omega
      have he : strM s = some acc := by have := HR.out.eq; rw [List.drop_eq_nil_of_le (by omega), strM] at this; simpa using this
      have HU := Lib.hid (unpR_some he)
      have hc1 := own_string (P := Tryz.prog) Tryz.underlying105 Tryz.underlying5 Tryz.underlying9 HR.out.own
      rw [numsP_str] at hc1
      clear he
      go_wp2_with fail
      go_ret2
      exact ⟨by rw [HU.out]; rfl, HR.out.bel⟩
end Go.Proofs.YtcdeikhfmllkdaaGreatDoor
