/- layer 28's awake. -/
import Derived.Test.YtllhpkpckjacfaaGreatDoorTrF
import Derived.Test.YtllhpkpckjacfaaGreatDoorTsQ
namespace Go.Proofs.YtllhpkpckjacfaaGreatDoor
open Go.RowKit Go.Proofs.YtllhpkpckjacfaaGreatDoorW.PrintWords PTemplateFilters
set_option linter.unusedVariables false
set_option linter.unusedSimpArgs false

theorem lists_ofC {w : World} {A : Option Addr} {c : Nat} {L : List (List S40)} (hc : L.length ≤ c) (h : Kd.C (Kd.slice 40 k40) w A L.length L) : ListsC w (.slice A L.length c) L := by
  refine ⟨⟨A, c, rfl, hc⟩, fun j x hj => ?_⟩
  have hlt := (List.getElem?_eq_some_iff.1 hj).1
  obtain ⟨ad, cs, e, _, hK, hc0⟩ := Kd.C_get h [] (j : Int) (by omega) (by omega)
  rw [Int.toNat_natCast] at hK hc0
  rw [List.getD_eq_getElem?_getD, hj] at hK
  obtain ⟨A1, c1, rfl, hl1, hC1⟩ := hK
  have h1 := hc0 0 _ rfl
  exact ⟨ad, _, c, _, by rw [e], trivial, by simpa [Kd.slice] using h1, A1, c1, rfl, hl1, hC1⟩
theorem pairs_ofR {w : World} {e base : Nat} {ok : Nat → Prop} {v : Value} {l : List S40} (h : Kd.R k40 e w base ok v l) : PairsC w v l := by
  obtain ⟨A, c, he, hl, hC⟩ := Kd.R_reads h
  exact ⟨A, c, he, hl, hC⟩
theorem lists_ofN {w : World} {e base : Nat} {ok : Nat → Prop} {v : Value} {L : List (List S40)} (h : Kd.N (Kd.slice 40 k40) e w base ok v L) : ListsC w v L := by
  obtain ⟨A, c, rfl⟩ := Kd.N_slice h
  obtain ⟨_, hc, hC⟩ := Kd.N_reads' h
  exact lists_ofC hc hC
def twoM : MsgM := ⟨[114], [107], [], [[⟨⟨#[97]⟩, ⟨#[49]⟩⟩], [⟨⟨#[97]⟩, ⟨#[50]⟩⟩]], []⟩
theorem two_any (w : World) : Calls Tryz.prog 35 #[] w fun e w' => ∃ pre, e = .returned (.agg pre.toArray) ∧ MsgC w' twoM pre ∧ Below w.heap.size w w' := by
  refine (watchfirelaw28_two.calls _ _ _ _ _ w rfl).mono ?_
  rintro e w' ⟨v2, v3, v4, rfl, h2, h3, h4, hb⟩
  exact ⟨[_, _, _, _, _], rfl, ⟨v2, v3, v4, rfl, pairs_ofR h2, lists_ofN h3, lists_ofN h4⟩, hb⟩
def aw1 : Bytes := [123, 123, 32, 114, 101, 99, 101, 105, 118, 101, 114, 32, 124, 32, 117, 112, 112, 101, 114, 32, 125, 125, 58, 32, 123, 123, 32, 114, 97, 110, 103, 101, 32].append [102, 105, 114, 105, 110, 103, 32, 125, 125, 91, 123, 123, 32, 108, 97, 98, 101, 108, 32, 97, 32, 125, 125, 93, 123, 123, 32, 101, 110, 100, 32, 125, 125]
def aw2 : Bytes := [120, 123, 123, 32, 101, 110, 100, 32, 125, 125]
def awN : List Nd := [.place [wReceiver] [[wUpper]], .lit [58, 32], .loop wFiring [.lit [91], .place [wLabel, [97]] [], .lit [93]]]
theorem aw2_parse : parseM aw2 = .error (1, 9) := by kernel_rfl
theorem aw1_parse : parseM aw1 = .ok awN := by kernel_rfl
theorem checkM_nil : checkM [] = 0 := by
  unfold checkM
  rw [if_neg (by decide), if_pos (show sortedTo [] _ from fun j h => by simp at h)]
theorem checkM_one (p : S40) (h : partsM [p] = 0) : checkM [p] = 0 := by
  unfold checkM
  rw [if_neg (by rw [h]; simp), if_pos (show sortedTo [p] _ from fun j h h0 hj => by simp at hj; omega)]
theorem two_chk : chkM twoM = 0 := by
  have h1 : chkAll twoM.firing = 0 := by
    refine chkAll_zero (fun i hi => ?_)
    have : i = 0 ∨ i = 1 := by have : i < 2 := hi; omega
    rcases this with rfl | rfl
    · exact checkM_one _ (by kernel_rfl)
    · exact checkM_one _ (by kernel_rfl)
  unfold chkM
  rw [if_neg (by decide), if_neg (by decide), show twoM.group = [] from rfl, checkM_nil, if_neg (by simp), h1, if_neg (by simp)]
  rfl
theorem aw_good : ∀ x ∈ awN, goodM twoM 2 [] x := by
  intro x hx
  simp only [awN, List.mem_cons, List.not_mem_nil, or_false] at hx
  rcases hx with rfl | rfl | rfl
  · exact ⟨by kernel_rfl, by kernel_rfl, by decide, by decide, by decide, by decide⟩
  · trivial
  · refine ⟨rfl, by decide, by decide, fun b hb x hx => ?_⟩
    simp only [List.mem_cons, List.not_mem_nil, or_false] at hx
    rcases hx with rfl | rfl | rfl
    · trivial
    · refine ⟨by kernel_rfl, rfl, ?_, by decide, by simp, by simp⟩
      have hb2 : b = [⟨⟨#[97]⟩, ⟨#[49]⟩⟩] ∨ b = [⟨⟨#[97]⟩, ⟨#[50]⟩⟩] := by simpa [listsM, twoM, wFiring] using hb
      rcases hb2 with rfl | rfl
      · decide
      · decide
    · trivial
theorem aw_rend : rendsM twoM 2 [] awN = [82, 58, 32, 91, 49, 93, 91, 50, 93] := by kernel_rfl
set_option maxRecDepth 100000 in
set_option maxHeartbeats 800000 in
theorem awake_any {w : World} (hT : Tabs w) : Calls Tryz.prog 13 #[] w fun e w' => e = .returned (.bool true) ∧ Below w.heap.size w w' := by
  have HTwo := Lib.hid (two_any w)
  have HR := Lib.hid (fun (w1 : World) (pre : List Value) (hb : Below w.heap.size w w1) (hM : MsgC w1 twoM pre) => Render_any (hT.below hb) hM aw1 (by decide) aw1_parse two_chk aw_good (by rw [aw_rend]; decide) (by decide))
  have HP := Lib.hid (fun (w1 : World) (hb : Below w.heap.size w w1) => parse_any (hT.below hb) aw2 (by decide))
  rw [aw_rend] at HR
  rw [aw2_parse] at HP
  go_enter Tryz.func13, Tryz.ntmps13
  go_wp2_with (first | (go_at_call 35; (refine HTwo.out.mono ?_); rintro e w2 ⟨pre, rfl, hM2, hb2⟩))
  refine (HR.out w2 pre hb2 hM2).mono ?_
  rintro e w3 ⟨rfl, hb3⟩
  have hb4 := hb2.trans (hb3.mono hb2.size)
  have HB4 := Lib.hid hb4
  have hse : ((str [82, 58, 32, 91, 49, 93, 91, 50, 93]).toList == [82, 58, 32, 91, 49, 93, 91, 50, 93]) = true := by rw [str_tl]; rfl
  have hse2 : (str [82, 58, 32, 91, 49, 93, 91, 50, 93]).toList = [82, 58, 32, 91, 49, 93, 91, 50, 93] := by rw [str_tl]
  clear hb4 hb3
  go_wp2_with (first | (go_at_call 36; (refine (HP.out w3 HB4.out).mono ?_); rintro e w5 ⟨hb5, rfl⟩))
  go_ret
  exact ⟨rfl, HB4.out.trans (hb5.mono HB4.out.size)⟩
end Go.Proofs.YtllhpkpckjacfaaGreatDoor
