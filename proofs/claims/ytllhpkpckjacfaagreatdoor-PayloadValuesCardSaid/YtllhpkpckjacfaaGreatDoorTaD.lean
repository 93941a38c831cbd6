/- template's Split. -/
import Derived.Test.YtllhpkpckjacfaaGreatDoorTaC
import Derived.Test.YtllhpkpckjacfaaGreatDoorPTemplateFiltersx0
import Derived.Outline
namespace Go.Proofs.YtllhpkpckjacfaaGreatDoor
open Go.RowKit Go.Proofs.YtllhpkpckjacfaaGreatDoorW.PrintWords PTemplateFilters
set_option linter.unusedVariables false
set_option linter.unusedSimpArgs false

theorem str_drop (l : Bytes) (k : Nat) : (str l).extract k (str l).size = str (l.drop k) := by
  apply ByteArray.ext
  simp [str, ByteArray.size]
  exact List.take_of_length_le (by simp)
structure Tok where
  text : Bytes
  words : List Bytes
  pos : Nat
def toS (t : Tok) : S129 := ⟨str t.text, t.words.map str, t.pos⟩
def wordsM (s : Bytes) : List Bytes := (Lib.split s [32]).filter (fun w => !w.isEmpty)
/-- The tokens of a text, from a place on. -/
def splitM : Nat → Bytes → Nat → List Tok → List Tok × Nat × Nat
  | 0, _, _, _ => ([], 0, 0)
  | f + 1, t, p, out =>
    if p < t.length then
      let c := Lib.cut (t.drop p) [123, 123]
      let o := if c.1 = [] then out else out ++ [⟨c.1, [], p⟩]
      if c.2.2 = false then (o, 0, 0)
      else
        let d := Lib.cut c.2.1 [125, 125]
        if d.2.2 = false ∨ wordsM d.1 = [] then ([], p + c.1.length, 9)
        else splitM f t (p + c.1.length + (2 + d.1.length + 2)) (o ++ [⟨[], wordsM d.1, p + c.1.length⟩])
    else (out, 0, 0)
def splitT (t : Bytes) : List Tok × Nat × Nat := if 4096 < t.length then ([], 0, 5) else splitM (t.length + 1) t 0 []

/-- What the loop keeps. -/
def SpRel (w : World) (t : Bytes) (res : List Tok × Nat × Nat) (v5 v6 : Value) (wr : World) : Prop :=
  ∃ (p : Nat) (out : List Tok) (f : Nat), v6 = .int .i64 p ∧ p ≤ t.length ∧ t.length < p + f ∧ out.length ≤ 2 * p ∧ Below w.heap.size w wr ∧ Kd.R k129 129 wr w.heap.size (fun _ => True) v5 (out.map toS) ∧ splitM f t p out = res
/-- What comes back. -/
def SpPost (w : World) (res : List Tok × Nat × Nat) (e : Ending) (w' : World) : Prop :=
  ∃ A c, e = .returned (.tuple #[.slice A res.1.length c, .int .i64 res.2.1, .int .i64 res.2.2]) ∧ res.1.length ≤ c ∧ Kd.C k129 w' A (res.1.map toS).length (res.1.map toS) ∧ Below w.heap.size w w'

theorem info129 : (Tryz.prog.info? 129).map (fun i => (i.zero, i.size, i.bytes)) = some (some (.agg #[.string ⟨#[]⟩, .slice none 0 0, .int .i64 0]), 3, 48) := by kernel_rfl
theorem info9 : (Tryz.prog.info? 9).map (fun i => (i.zero, i.size, i.bytes)) = some (some (.string ⟨#[]⟩), 1, 16) := by kernel_rfl
theorem cut_ex (s sep : Bytes) : ∃ a b c, Lib.cut s sep = (a, b, c) := by
  obtain ⟨z, hz⟩ : ∃ z, Lib.cut s sep = z := ⟨_, rfl⟩
  obtain ⟨a, b, c⟩ := z
  exact ⟨a, b, c, hz⟩
/-- strings.Cut, at a separator. -/
theorem cut_any {w : World} (hT : Tabs w) (s : ByteArray) (sep : ByteArray) (hs : s.size ≤ 4096) {a b : Bytes} {c : Bool} (h : Lib.cut s.data.toList sep.data.toList = (a, b, c)) :
    Calls Tryz.prog 89 #[.string s, .string sep] w fun e w' => e = .returned (.tuple #[.string (str a), .string (str b), .bool c]) ∧ ∃ n, w' = w.drewN n := by
  obtain ⟨mx, hmx⟩ := hT.max
  have := Any.strings_Cut Tryz.laysCut s sep mx w (by omega) hmx
  rw [h] at this
  exact this
theorem cut_len {s sep a b : Bytes} {c : Bool} (h : Lib.cut s sep = (a, b, c)) : a.length + b.length ≤ s.length ∧ (c = true → a.length + sep.length + b.length = s.length) := by
  unfold Lib.cut at h
  split at h
  · rename_i h0
    have hr := Lib.index_room s sep h0
    have h1 := congrArg (fun z => z.1.length) h
    have h2 := congrArg (fun z => z.2.1.length) h
    simp only [List.length_take, List.length_drop] at h1 h2
    exact ⟨by omega, fun _ => by omega⟩
  · injection h with h1 h
    injection h with h2 h3
    subst h1 h2 h3
    simp
theorem filter_take {pcs : List Bytes} {k : Nat} {q : Bytes} (h : pcs[k]? = some q) : (pcs.take (k + 1)).filter (fun w => !w.isEmpty) = if q = [] then (pcs.take k).filter (fun w => !w.isEmpty) else (pcs.take k).filter (fun w => !w.isEmpty) ++ [q] := by
  rw [List.take_add_one, h, List.filter_append]
  cases q <;> simp
/-- strings.Split at a space. -/
theorem split_call {w : World} (hT : Tabs w) (s : Bytes) (hs : s.length ≤ 4096) {pcs : List Bytes} (hp : Lib.split s [32] = pcs) :
    Calls Tryz.prog 90 #[.string (str s), .string ⟨#[32]⟩] w fun e w' => ∃ B, e = .returned (.slice (some ⟨B, 0, none⟩) pcs.length pcs.length) ∧ pcs.length ≤ 4097 ∧ Below w.heap.size w w' ∧ ∀ j q, pcs[j]? = some q → w'.cell? ⟨B, j, none⟩ = some (.string (str q)) := by
  obtain ⟨mx, hmx⟩ := hT.max
  have h0 := Any.strings_Split Tryz.laysSplit info9 (str s) ⟨#[32]⟩ mx w (by rw [str_size]; omega) hmx (by decide)
  refine h0.mono ?_
  rintro e w' ⟨rfl, rfl⟩
  have hd := Lib.splitB_data ⟨#[32]⟩ 0 (Lib.countB (str s) ⟨#[32]⟩) (str s)
  have hc : Lib.countB (str s) ⟨#[32]⟩ = Lib.count s [32] := by unfold Lib.countB; rw [str_toList]
  have hd2 : (Lib.splitB ⟨#[32]⟩ 0 (Lib.countB (str s) ⟨#[32]⟩) (str s)).map (·.data.toList) = pcs := by rw [hd, hc, str_toList]; exact hp
  have hl := Lib.splitB_all ⟨#[32]⟩ (by decide) 0 _ (str s) rfl
  have hcl := Lib.countB_le ⟨#[32]⟩ (by decide) (str s).size (str s) (Nat.le_refl _)
  have hl2 : pcs.length = Lib.countB (str s) ⟨#[32]⟩ + 1 := by rw [← hd2, List.length_map, hl]
  refine ⟨w.heap.size, by rw [hl2], by rw [str_size] at hcl; omega, below_alloc (Below.refl _ _) _, fun j q hj => ?_⟩
  rw [World.cell?_alloc_new]
  rw [← hd2, List.getElem?_map] at hj
  obtain ⟨z, hz, rfl⟩ := Option.map_eq_some_iff.1 hj
  simp only [List.getElem?_toArray, List.getElem?_map, hz, Option.map_some]
  congr 2
theorem splitM_bad {f p : Nat} {t ah rs inn rs2 : Bytes} {cl : Bool} {out : List Tok} (hlt : p < t.length) (h1 : Lib.cut (t.drop p) [123, 123] = (ah, rs, true)) (h2 : Lib.cut rs [125, 125] = (inn, rs2, cl)) (h : cl = false ∨ wordsM inn = []) :
    splitM (f + 1) t p out = ([], p + ah.length, 9) := by
  rw [splitM, if_pos hlt, h1]
  simp only [h2]
  rw [if_neg (by decide), if_pos h]
theorem splitM_go {f p : Nat} {t ah rs inn rs2 : Bytes} {out : List Tok} (hlt : p < t.length) (h1 : Lib.cut (t.drop p) [123, 123] = (ah, rs, true)) (h2 : Lib.cut rs [125, 125] = (inn, rs2, true)) (h : ¬ wordsM inn = []) :
    splitM (f + 1) t p out = splitM f t (p + ah.length + (2 + inn.length + 2)) ((if ah = [] then out else out ++ [⟨ah, [], p⟩]) ++ [⟨[], wordsM inn, p + ah.length⟩]) := by
  rw [splitM, if_pos hlt, h1]
  simp only [h2]
  rw [if_neg (by decide), if_neg (by simp [h])]
theorem filt_room (k : Nat) (pcs : List Bytes) (h : k ≤ 4097) : ((((pcs.take k).filter (fun w => !w.isEmpty)).map str).length + 1) * 16 ≤ 140737488355328 := by
  rw [List.length_map]
  have h1 := List.length_filter_le (fun w : Bytes => !w.isEmpty) (pcs.take k)
  have h2 : (pcs.take k).length ≤ k := by rw [List.length_take]; omega
  have h3 := Nat.le_trans h1 h2
  revert h3
  generalize ((pcs.take k).filter _).length = z
  intro h3
  omega
theorem lit_len (ah : Bytes) (out : List Tok) (x : Tok) : (if ah = [] then out else out ++ [x]).length ≤ out.length + 1 := by
  split <;> simp
/-- What the inner loop keeps. -/
def InRel (w : World) (pcs : List Bytes) (v13 v54 : Value) (wr : World) : Prop :=
  ∃ k : Nat, v54 = .int .i64 k ∧ k ≤ pcs.length ∧ Below w.heap.size w wr ∧ Kd.string.R 9 wr w.heap.size (fun _ => True) v13 (((pcs.take k).filter (fun w => !w.isEmpty)).map str)
theorem SpRel.step {w w4 : World} {t : Bytes} {res : List Tok × Nat × Nat} {v1 : Value} {q a f : Nat} {out : List Tok} {ws : List Bytes} (hq : q ≤ t.length) (hf : t.length < q + f) (hol : out.length + 1 ≤ 2 * q) (hb : Below w.heap.size w w4)
    (hR : k129.R 129 w4 w.heap.size (fun _ => True) v1 (out.map toS ++ [⟨str [], ws.map str, ((a : Nat) : Int)⟩])) (h : splitM f t q (out ++ [⟨[], ws, a⟩]) = res) : SpRel w t res v1 (.int .i64 (q : Nat)) w4 := by
  refine ⟨q, out ++ [⟨[], ws, a⟩], f, rfl, hq, hf, by rw [List.length_append, List.length_singleton]; exact hol, hb, ?_, h⟩
  rw [List.map_append]
  exact hR
theorem w64_in (n : Int) (h : -9223372036854775808 ≤ n ∧ n ≤ 9223372036854775807) : wrap64 n = n := by unfold wrap64; omega
theorem split_nums {p a i f T o : Nat} (h1 : p + a + (2 + i + 2) ≤ T) (hpf : T < p + (f + 1)) (hol2 : o ≤ 2 * p + 1) : T < (p + a + (2 + i + 2)) + f ∧ o + 1 ≤ 2 * (p + a + (2 + i + 2)) ∧ T - (p + a + (2 + i + 2)) < T - p := by omega
theorem split_room {p a i r r2 : Nat} {t : Bytes} (h1 : a + 2 + r = (t.drop p).length) (h2 : i + 2 + r2 = r) (hp : p < t.length) : p + a + (2 + i + 2) ≤ t.length := by rw [List.length_drop] at h1; omega
theorem wrap_sum {x y : Int} {a b n : Nat} (hx : x = a) (hy : y = b) (hn : a + (2 + b + 2) = n) (h : n ≤ 4096) : wrap64 (x + wrap64 (wrap64 (2 + y) + 2)) = (n : Nat) := by
  subst hx hy hn
  rw [w64_in (2 + (b : Int)) (by omega), w64_in (2 + (b : Int) + 2) (by omega), w64_in _ (by omega)]
  omega
set_option maxRecDepth 100000 in
set_option maxHeartbeats 4000000 in
theorem split_any {w : World} (hT : Tabs w) (t : Bytes) (hl : t.length ≤ 4096) : Calls Tryz.prog 70 #[.string (str t)] w (SpPost w (splitT t)) := by
  have hres : splitT t = splitM (t.length + 1) t 0 [] := by unfold splitT; rw [if_neg (by omega)]
  obtain ⟨res, hr⟩ : ∃ res, splitT t = res := ⟨_, rfl⟩
  rw [hr] at hres ⊢
  have HRes := Lib.hid hres.symm
  have HT := Lib.hid hT
  have hsz := str_size t
  obtain ⟨S, hS⟩ : ∃ S, str t = S := ⟨_, rfl⟩
  rw [hS] at hsz ⊢
  have HS := Lib.hid (And.intro hS hsz)
  have hS1 : (S.size : Int) ≤ 4096 := by omega
  have hS2 : decide ((4096 : Int) < (S.size : Int)) = false := by simp; omega
  clear hres hr hT hsz hS
  go_enter Tryz.func70, Tryz.ntmps70
  go_wp2_with fail
  go_loopw [5, 6] (fun v5 v6 wr => SpRel w t res v5 v6 wr) (fun _ v _ => t.length - (intOf v).toNat)
  case atStart => exact ⟨0, [], _, rfl, Nat.zero_le _, by omega, by simp, Below.refl _ _, Kd.R_nil _ _ _ _ _, HRes.out⟩
  case round =>
    obtain ⟨p, out, f, rfl, hp, hpf, hol, hb, hR, hsp⟩ := hrel
    have HB := Lib.hid hb
    have HR := Lib.hid hR
    have HSp := Lib.hid hsp
    clear hb hR hsp
    have hp0 : (0 : Int) ≤ (p : Int) := by omega
    by_cases hlt : p < t.length
    · have hps : (p : Int) < (S.size : Int) := by have := HS.out.2; omega
      have hps2 : (p : Int) ≤ (S.size : Int) := by omega
      go_wp2_with fail
      have hex := cut_ex (t.drop p) [123, 123]
      obtain ⟨ah, rs, pl, hcc⟩ := hex
      have hSp : S.extract p S.size = str (t.drop p) := by rw [← HS.out.1, str_drop]
      have HCut := Lib.hid (cut_any (a := ah) (b := rs) (c := pl) (HT.out.below HB.out) (S.extract p S.size) ⟨#[123, 123]⟩ (by rw [ByteArray.size_extract]; omega) (by rw [hSp, str_toList]; exact hcc))
      have HCC := Lib.hid hcc
      clear hcc hSp
      refine HCut.out.mono ?_
      rintro e w1 ⟨rfl, nd, rfl⟩
      have HB1 : Hid (Below w.heap.size w (wr.drewN nd)) := Lib.hid (HB.out.trans (drawn_below.mono HB.out.size))
      have HR1 : Hid (Kd.R k129 129 (wr.drewN nd) w.heap.size (fun _ => True) u5 (out.map toS)) := Lib.hid (Kd.R_drewN HR.out nd)
      go_upto_if 32 with (fail)
      go_cut [5] (fun v5 wc => Below w.heap.size w wc ∧ Kd.R k129 129 wc w.heap.size (fun _ => True) v5 ((if ah = [] then out else out ++ [⟨ah, [], p⟩]).map toS))
      case first =>
        by_cases hah : ah = []
        · subst hah
          have hE : (str []).toList.isEmpty = true := by rw [str_empty]; rfl
          rw [hE]
          try rw [Bool.not_true]
          go_wp2
          go_meet
          case rel => exact ⟨HB1.out, HR1.out⟩
        · have hE : (str ah).toList.isEmpty = false := by rw [str_empty]; cases ah <;> simp_all
          have hE3 : ¬ (str ah).toList = [] := by rw [str_tl]; exact hah
          have hE4 : ((str ah).toList == []) = false := by rw [beq_eq_false_iff_ne]; exact hE3
          rw [hE]
          try rw [Bool.not_false]
          go_wp2_with (first | ((with_reducible refine gate_builtin (b := .append) (xs := #[.tmp 33, .tmp 37]) rfl ?_); at_builtin; refine Kd.R_append k129 (w0 := w) (W := wr.drewN nd) w.heap.size rfl (.tmp 33) (.tmp 37) 101 129 (.agg #[.string ⟨#[]⟩, .slice none 0 0, .int .i64 0]) 48 rfl Tryz.underlying101 info129 rfl (by decide) (by omega) _ (out.map toS) (⟨str ah, [], p⟩ : S129) [.string (str ah), .slice none 0 0, .int .i64 p] (fun _ => True) (fun _ => False) rfl rfl ?aP (fun _ hk => hk.elim) (fun _ _ => trivial) ?aO ?aB ?aS ?aL ?_))
          case aP => exact k129_mkM _ _ _ _ (Kd.R_nil _ _ _ _ _)
          case aO => exact HR1.out
          case aB => exact HB1.out
          case aS => exact HB1.out.size
          case aL => rw [List.length_map]; omega
          intro v1 w2 hR2 hb2 _ _
          have H2 := Lib.hid (And.intro hR2 hb2)
          clear hR2 hb2
          go_wp2
          go_meet
          case rel => exact ⟨H2.out.2, by rw [if_neg hah, List.map_append]; exact H2.out.1⟩
      case rest =>
        obtain ⟨hb, hR⟩ := hcut
        have HB2 := Lib.hid hb
        have HR2 := Lib.hid hR
        clear hb hR HB1 HR1
        cases pl with
        | false =>
          have hfin : res = (if ah = [] then out else out ++ [⟨ah, [], p⟩], 0, 0) := by
            have h := HSp.out
            obtain ⟨f, rfl⟩ : ∃ g, f = g + 1 := ⟨f - 1, by omega⟩
            rw [splitM, if_pos hlt, HCC.out] at h
            simpa using h.symm
          have HF := Lib.hid hfin
          clear hfin
          obtain ⟨A5, c5, hu5, hc5, hC5⟩ := Kd.R_reads HR2.out
          have H5 := Lib.hid (And.intro hu5 (And.intro hc5 hC5))
          clear hu5 hc5 hC5
          go_wp2_with fail
          refine bodyPost_end (v := .tuple #[u5, .int .i64 0, .int .i64 0]) (by simp [results, Tryz.results70]) rfl ⟨A5, c5, ?_, ?_, ?_, HB2.out⟩
          · rw [HF.out, H5.out.1, List.length_map]; rfl
          · rw [HF.out]; simpa using H5.out.2.1
          · rw [HF.out]; exact H5.out.2.2
        | true =>
          have hlen := (cut_len HCC.out).2 rfl
          have hrs : rs.length ≤ 4096 := by rw [List.length_drop] at hlen; omega
          have HLen := Lib.hid hlen
          clear hlen
          go_wp2_with fail
          obtain ⟨inn, rs2, cl, hcc2⟩ := cut_ex rs [125, 125]
          have HCut2 := Lib.hid (cut_any (a := inn) (b := rs2) (c := cl) (HT.out.below HB2.out) (str rs) ⟨#[125, 125]⟩ (by rw [str_size]; omega) (by rw [str_toList]; exact hcc2))
          have hin : inn.length ≤ 4096 := by have := (cut_len hcc2).1; omega
          have HCC2 := Lib.hid hcc2
          clear hcc2
          refine HCut2.out.mono ?_
          rintro e w1 ⟨rfl, nd2, rfl⟩
          have HB3 : Hid (Below w.heap.size w (wc.drewN nd2)) := Lib.hid (HB2.out.trans (drawn_below.mono HB2.out.size))
          have HR3 : Hid (Kd.R k129 129 (wc.drewN nd2) w.heap.size (fun _ => True) u5 ((if ah = [] then out else out ++ [⟨ah, [], p⟩]).map toS)) := Lib.hid (Kd.R_drewN HR2.out nd2)
          obtain ⟨pcs, hpc⟩ : ∃ l, Lib.split inn [32] = l := ⟨_, rfl⟩
          have HSpl := Lib.hid (split_call (HT.out.below HB3.out) inn hin hpc)
          have HPc := Lib.hid hpc
          clear hpc hin
          go_wp2_with fail
          refine HSpl.out.mono ?_
          rintro e w2 ⟨B, rfl, hpl, hb, hcell⟩
          have HCell := Lib.hid hcell
          have HB4 := Lib.hid hb
          clear hcell hb
          go_wp2_with fail
          go_loopw [13, 54] (fun v13 v54 wr => InRel w2 pcs v13 v54 wr) (fun _ v _ => pcs.length - (intOf v).toNat)
          case atStart => exact ⟨0, rfl, Nat.zero_le _, Below.refl _ _, by simpa using Kd.R_nil _ _ _ _ _⟩
          case round =>
            obtain ⟨k, rfl, hk, hb, hR⟩ := hrel
            have HB5 := Lib.hid hb
            have HR5 := Lib.hid hR
            clear hb hR
            by_cases hlt2 : k < pcs.length
            · obtain ⟨q, hq⟩ : ∃ q, pcs[k]? = some q := ⟨_, List.getElem?_eq_getElem hlt2⟩
              have hcq := HCell.out k q hq
              have hcq2 := (HB5.out.cell (World.block_lt_of_cell? w2 _ hcq)).trans hcq
              have HQ := Lib.hid (filter_take hq)
              clear hq hcq
              go_upto_if 59 with (fail)
              by_cases hqe : q = []
              · subst hqe
                have hE : (str []).toList.isEmpty = true := by rw [str_empty]; rfl
                rw [hE]
                try rw [Bool.not_true]
                go_wp2
                go_roundw
                case rel => exact ⟨k + 1, by go_num, by omega, HB5.out, by rw [HQ.out, if_pos rfl]; exact HR5.out⟩
                case measure => simp [intOf]; omega
              · have hE : (str q).toList.isEmpty = false := by rw [str_empty]; cases q <;> simp_all
                rw [hE]
                try rw [Bool.not_false]
                go_wp2_with (first | ((with_reducible refine gate_builtin (b := .append) (xs := #[.tmp 60, .tmp 62]) rfl ?_); at_builtin; refine Kd.R_append Kd.string (w0 := w2) (W := wr) w2.heap.size rfl (.tmp 60) (.tmp 62) 22 9 (.string ⟨#[]⟩) 16 rfl Tryz.underlying22 info9 rfl (by decide) (by omega) _ (((pcs.take k).filter (fun w => !w.isEmpty)).map str) (str q) [.string (str q)] (fun _ => True) (fun _ => False) rfl rfl ?aP (fun _ hk => hk.elim) (fun _ _ => trivial) ?aO ?aB ?aS ?aL ?_))
                case aP => exact rfl
                case aO => exact HR5.out
                case aB => exact HB5.out
                case aS => exact HB5.out.size
                case aL => exact filt_room k pcs (by omega)
                intro v1 w3 hR3 hb3 _ _
                have H3 := Lib.hid (And.intro hR3 hb3)
                clear hR3 hb3
                go_wp2
                go_roundw
                case rel => exact ⟨k + 1, by go_num, by omega, H3.out.2, by rw [HQ.out, if_neg hqe, List.map_append]; exact H3.out.1⟩
                case measure => simp [intOf]; omega
            · have hk2 : k = pcs.length := by omega
              have hw : (pcs.take k).filter (fun w => !w.isEmpty) = wordsM inn := by rw [hk2, List.take_length]; unfold wordsM; rw [HPc.out]
              obtain ⟨ws, hws⟩ : ∃ l, wordsM inn = l := ⟨_, rfl⟩
              have hR := HR5.out
              rw [hw, hws] at hR
              have HWs := Lib.hid hws
              have HR6 := Lib.hid hR
              clear hw hws hR
              obtain ⟨A13, c13, hu, hc13, _⟩ := Kd.R_reads HR6.out
              subst hu
              have hwl : (ws.map str).length = ws.length := List.length_map _
              have hqw : wrap64 ((p : Int) + ((str ah).size : Int)) = ((p + ah.length : Nat) : Int) := by rw [str_size]; unfold wrap64; have := HLen.out; rw [List.length_drop] at this; omega
              have HQw := Lib.hid hqw
              clear hqw
              have HB7 : Hid (Below w.heap.size w wr) := Lib.hid (HB3.out.trans ((HB4.out.trans (HB5.out.mono HB4.out.size)).mono HB3.out.size))
              obtain ⟨f, rfl⟩ : ∃ g, f = g + 1 := ⟨f - 1, by omega⟩
              cases cl with
              | false =>
                have hfin : res = ([], p + ah.length, 9) := by rw [← HSp.out]; exact splitM_bad hlt HCC.out HCC2.out (Or.inl rfl)
                have HF := Lib.hid hfin
                clear hfin
                go_wp2_with fail
                refine bodyPost_end (v := .tuple #[.slice none 0 0, .int .i64 (wrap64 ((p : Int) + ((str ah).size : Int))), .int .i64 9]) (by simp [results, Tryz.results70]) rfl ⟨none, 0, ?_, ?_, ?_, HB7.out⟩
                · rw [HF.out, HQw.out]; rfl
                · rw [HF.out]; exact Nat.le_refl _
                · rw [HF.out]; exact Kd.C_nil _ _
              | true =>
                by_cases hwe : ws = []
                · subst hwe
                  have hfin : res = ([], p + ah.length, 9) := by rw [← HSp.out]; exact splitM_bad hlt HCC.out HCC2.out (Or.inr HWs.out)
                  have HF := Lib.hid hfin
                  clear hfin hwl
                  go_wp2_with fail
                  refine bodyPost_end (v := .tuple #[.slice none 0 0, .int .i64 (wrap64 ((p : Int) + ((str ah).size : Int))), .int .i64 9]) (by simp [results, Tryz.results70]) rfl ⟨none, 0, ?_, ?_, ?_, HB7.out⟩
                  · rw [HF.out, HQw.out]; rfl
                  · rw [HF.out]; exact Nat.le_refl _
                  · rw [HF.out]; exact Kd.C_nil _ _
                · have hsp := HSp.out
                  rw [splitM_go hlt HCC.out HCC2.out (by rw [HWs.out]; exact hwe), HWs.out] at hsp
                  have HSp2 := Lib.hid hsp
                  have hwl2 : ¬ (ws.length = 0) := by rw [List.length_eq_zero_iff]; exact hwe
                  have hwl3 : (((ws.map str).length : Nat) == 0) = false := by rw [beq_eq_false_iff_ne, List.length_map]; exact hwl2
                  have hwl4 : ¬ (((ws.map str).length : Nat) = 0) := by rw [List.length_map]; exact hwl2
                  clear hsp
                  have hE := Kd.R_mono (ok' := fun _ => True) (Kd.R_elder (Kd.R_below HR3.out HB4.out) HR6.out HB5.out) (fun _ _ => trivial)
                  have hW := Kd.R_lower (Kd.R_newR HR6.out (Kd.R_below HR3.out HB4.out)) (Nat.le_trans HB3.out.size HB4.out.size)
                  rw [hwl] at hW
                  have HE := Lib.hid hE
                  have HW := Lib.hid hW
                  clear hE hW
                  obtain ⟨out2, ho2⟩ : ∃ l, (if ah = [] then out else out ++ [⟨ah, [], p⟩]) = l := ⟨_, rfl⟩
                  rw [ho2] at HE HSp2
                  have hol2 : out2.length ≤ 2 * p + 1 := by rw [← ho2]; have := lit_len ah out ⟨ah, [], p⟩; omega
                  clear ho2
                  go_wp2_with (first | ((with_reducible refine gate_builtin (b := .append) (xs := #[.tmp 73, .tmp 77]) rfl ?_); at_builtin; refine Kd.R_append k129 (w0 := w) (W := wr) w.heap.size rfl (.tmp 73) (.tmp 77) 101 129 (.agg #[.string ⟨#[]⟩, .slice none 0 0, .int .i64 0]) 48 rfl Tryz.underlying101 info129 rfl (by decide) (by omega) u5 (out2.map toS) (⟨str [], ws.map str, wrap64 ((p : Int) + ((str ah).size : Int))⟩ : S129) [.string ⟨#[]⟩, .slice A13 ws.length c13, .int .i64 (wrap64 ((p : Int) + ((str ah).size : Int)))] (fun _ => True) (fun k => True ∧ some k ≠ u5.ownBlock) rfl rfl ?aP2 (fun _ hk => ⟨trivial, hk.2⟩) (fun _ _ => trivial) ?aO2 ?aB2 ?aS2 ?aL2 ?_))
                  case aP2 => exact k129_mkM _ _ _ _ HW.out
                  case aO2 => exact HE.out
                  case aB2 => exact HB7.out
                  case aS2 => exact HB7.out.size
                  case aL2 => rw [List.length_map]; omega
                  intro v1 w4 hR4 hb4 _ _
                  have H4 := Lib.hid (And.intro hR4 hb4)
                  clear hR4 hb4
                  go_wp2
                  have hB1 : p + ah.length + (2 + inn.length + 2) ≤ t.length := by
                    exact split_room HLen.out ((cut_len HCC2.out).2 rfl) hlt
                  have hF : wrap64 (wrap64 ((p : Int) + ((str ah).size : Int)) + wrap64 (wrap64 (2 + ((str inn).size : Int)) + 2)) = ((p + ah.length + (2 + inn.length + 2) : Nat) : Int) := by
                    exact wrap_sum HQw.out (by rw [str_size]) rfl (Nat.le_trans hB1 hl)
                  rw [hF]
                  go_roundw
                  case rel =>
                    have h := H4.out.1
                    rw [HQw.out] at h
                    exact SpRel.step hB1 (split_nums hB1 hpf hol2).1 (split_nums hB1 hpf hol2).2.1 H4.out.2 h HSp2.out
                  case measure => simp only [intOf, Int.toNat_natCast]; exact (split_nums hB1 hpf hol2).2.2
    · have hpe : p = t.length := by omega
      obtain ⟨f, rfl⟩ : ∃ g, f = g + 1 := ⟨f - 1, by omega⟩
      have hfin : res = (out, 0, 0) := by
        have h := HSp.out
        rw [splitM, if_neg hlt] at h
        exact h.symm
      have HF := Lib.hid hfin
      obtain ⟨A5, c5, hu5, hc5, hC5⟩ := Kd.R_reads HR.out
      have H5 := Lib.hid (And.intro hu5 (And.intro hc5 hC5))
      have hps : ¬ ((p : Int) < (S.size : Int)) := by have := HS.out.2; omega
      have hps2 : decide ((p : Int) < (S.size : Int)) = false := by simp; omega
      clear hu5 hc5 hC5 hfin
      go_wp2_with fail
      refine bodyPost_end (v := .tuple #[u5, .int .i64 0, .int .i64 0]) (by simp [results, Tryz.results70]) rfl ⟨A5, c5, ?_, ?_, ?_, HB.out⟩
      · rw [HF.out, H5.out.1, List.length_map]; rfl
      · rw [HF.out]; simpa using H5.out.2.1
      · rw [HF.out]; exact H5.out.2.2
end Go.Proofs.YtllhpkpckjacfaaGreatDoor
