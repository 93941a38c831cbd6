/-
  For any two lists of values and any place and name the law JsonKids answers true, and its arguments read behind the call as they read before: the tied card.
  Conditions: none beyond the form's own.
-/
import Derived.Test.YtbjidmijbphhgaaDoorLd
import Derived.Test.YtbjidmijbphhgaaDoorKiW
import Derived.Test.YtbjidmijbphhgaaDoorTie
import Derived.Test.YtbjidmijbphhgaaDoorCards
import Derived.OpenShut
import Derived.ShutString
import Derived.ChangeOld
import Derived.SizedLaws
import Derived.SevenTiedAt
namespace Go.Proofs.YtbjidmijbphhgaaDoor.jsonKids
open Go.ChangeShapes Go.WideShapes Go.ChangeAt Go.RowKit Go.Proofs.YtbjidmijbphhgaaDoorW.PrintWords PJsonKids Go.Proofs.YtbjidmijbphhgaaDoorOp
open Go.ChangeMaps (open_string shut_string)
set_option linter.unusedVariables false

theorem own : ownKnob Tryd.prog.godebug = none := by kernel_rfl
theorem laidOut : laidOutB Tryd.prog = true := by kernel_rfl

theorem kids_holds {W : World} (hT : Tabs W) (A : Option Addr) (c : Nat) (l : List S36) (B : Option Addr) (d : Nat) (m : List S36) (i : Int) (name : ByteArray)
    (hC : Kd.C k36 W A l.length l) (hc : l.length ≤ c) (hD : Kd.C k36 W B m.length m) (hd : m.length ≤ d) (hok : ∀ x ∈ l, okV x) :
    Calls Tryd.prog 8 #[.slice A l.length c, .slice B m.length d, .agg #[.int .i64 i, .string name]] W fun e w' => e = .returned (.bool true) ∧ Below W.heap.size W w' := by
  obtain ⟨k, r, hk, hr⟩ := light_f l
  obtain ⟨k2, r2, hk2, hr2⟩ := light_f m
  cases r with
  | false => exact kids_bad hT A c l B d m i name hC hc hD hd k hk
  | true =>
    cases r2 with
    | false => exact kids_bad2 hT A c l B d m i name hC hc hD hd k hk k2 hk2
    | true =>
      have h := kids_main hT A c l B d m i name.data.toList hC hc hD hd hok k hk k2 hk2 (hr rfl).1
      rw [str_of] at h
      exact h

set_option maxRecDepth 100000 in
set_option maxHeartbeats 2000000 in
theorem lifted (os : Os) (started : os.Started) (H : Type) (enc : TypeId × Value → H) :
    ReturnsInHanded {} Tryd.checked os 8 .any (fun w args => (Rows.jsonKidsSpec.pre enc Tryd.prog Tryd.f8 [] false w args ∧ laidMetH Tryd.prog laidL w) ∧ sizedMet enc Tryd.prog Tryd.f8 (OpenSpec.ofChange Rows.jsonKidsSpec) false w args)
      (Rows.jsonKidsSpec.post enc Tryd.prog Tryd.f8 false true false false) := by
  refine returnsInHanded_of_change_and (C := Tryd.checked) (X := fun w _ => laidMetH Tryd.prog laidL w) (fun _ _ _ hh h => h.of_heap hh) own started (by kernel_rfl) Tryd.func8
    (ChangeSpec.witness_at (enc := enc) (C := Tryd.checked) (os := os) (X := fun w _ => laidMetH Tryd.prog laidL w) false (laidWorld os) #[.slice none 0 0, .slice none 0 0, .agg #[.int .i64 0, .string ByteArray.empty]] 8 rfl (by kernel_rfl) (by kernel_rfl) (by kernel_rfl) (by kernel_rfl) (by kernel_rfl) (laidWorld_met os _)) ?_
  intro W base args ds gs before hval0 hW _ _ hL _
  have hval : ∀ (j : Nat) t v, Tryd.f8.params[j]? = some t → args[j]? = some v → Value.okWide Tryd.prog W .any base t v := hval0
  have hW' := hW
  obtain ⟨p, q, hA0, hV, rfl, hfz, hnd⟩ := hW
  have hA : DataW.TrodAll enc Tryd.prog W 0 (fun _ => true) true Tryd.f8.params.toList args.toList ds p := hA0
  rw [Tryd.params8] at hA hval
  obtain ⟨v0, vs0, d0, ds0, p0, q0, hargs, rfl, rfl, h0, r0⟩ := trodAll_cons hA
  obtain ⟨v1, vs1, d1, ds1, p1, q1, rfl, rfl, rfl, h1, r1⟩ := trodAll_cons r0
  obtain ⟨v2, vs2, d2, ds2, p2, q2, rfl, rfl, rfl, h2, r2⟩ := trodAll_cons r1
  obtain ⟨rfl, rfl, rfl⟩ := trodAll_nil r2
  obtain rfl : args = #[v0, v1, v2] := by cases args; simp_all
  obtain ⟨rfl, rfl⟩ := trodVars_none hV
  obtain ⟨a0, len0, cap0, rfl⟩ := okWide_slice Tryd.underlying22 (hval 0 22 v0 rfl rfl)
  have k0 := h0
  have lt0 : ∀ x ∈ p0, x.block < W.heap.size := by obtain ⟨m, hm⟩ := k0; exact DataW.trod_lt m _ _ _ hm
  obtain ⟨xs0, c0, rfl, l0, o0⟩ := opens_values.slice_arg h0
  obtain ⟨a1, len1, cap1, rfl⟩ := okWide_slice Tryd.underlying22 (hval 1 22 v1 rfl rfl)
  have k1 := h1
  have lt1 : ∀ x ∈ p1, x.block < W.heap.size := by obtain ⟨m, hm⟩ := k1; exact DataW.trod_lt m _ _ _ hm
  obtain ⟨xs1, c1, rfl, l1, o1⟩ := opens_values.slice_arg h1
  have k2 := h2
  have lt2 : ∀ x ∈ p2, x.block < W.heap.size := by obtain ⟨m, hm⟩ := k2; exact DataW.trod_lt m _ _ _ hm
  obtain ⟨i2, s2, rfl, y2⟩ := spot_arg (okWide_struct Tryd.underlying45 (hval 2 45 v2 rfl rfl)) k2
  clear hA0 hval0
  have hT := tabs_of_laid hL
  refine (kids_holds hT a0 cap0 xs0 a1 cap1 xs1 i2 s2 c0 l0 c1 l1 o0.1).mono fun e W' ⟨he, bel⟩ => ?_
  subst he
  exact ⟨_, rfl, _, _, _, [], _, [], hW', trodAll_mk1 (shut_bool Tryd.underlying4 _),
    (trodAll_cons_mk (Below.trod laidOut (by kernel_rfl) (of_decide_eq_true (by kernel_rfl)) k0 bel lt0) (trodAll_cons_mk (Below.trod laidOut (by kernel_rfl) (of_decide_eq_true (by kernel_rfl)) k1 bel lt1) (trodAll_cons_mk (Below.trod laidOut (by kernel_rfl) (of_decide_eq_true (by kernel_rfl)) k2 bel lt2) trodAll_mk0))),
    rfl, bel.frame _, fun h => by cases h⟩

theorem over : Rows.jsonKidsRow.holds Tryd.pinned (OpenSpec.ofChange Rows.jsonKidsSpec) :=
  OpenClaim.holds_of_wide 8 Tryd.f8 rfl rfl rfl rfl rfl rfl rfl ⟨rfl, rfl, rfl, rfl, rfl⟩ rfl rfl rfl rfl rfl (by kernel_rfl) Tryd.func8 (by kernel_rfl)
    (of_decide_eq_true (by kernel_rfl)) (by unfold Func.isWrapper; first | (rw [if_pos (by decide +kernel)]; kernel_rfl) | (rw [if_neg (by decide +kernel)]; exact ⟨rfl, rfl⟩))
    (fun os started H enc _ => lifted os started H enc)
theorem card : Rows.JsonKidsCardSaid :=
  Claim7.holds_tied_plain_at .later [] [.data, .pinned] true (true, "51bd48336e2d27c9b2ca222c82ffc1b55ae1dff30045055ac25f982137028468") true
    over (fun _ h => by cases h) (by kernel_rfl) (fun _ h => by cases h) jsonKids_row_tie rfl ⟨rfl, rfl⟩ (by kernel_rfl) rfl
    (fun f fn hf hfn => by
      obtain rfl : f = 8 := Option.some.inj ((show Tryd.prog.funcNamed "watchfire/watchfirelaw24.JsonKids" = some 8 by kernel_rfl).symm.trans hf) |>.symm
      obtain rfl : fn = Tryd.f8 := (Option.some.inj (Tryd.func8.symm.trans hfn)).symm
      exact ⟨by kernel_rfl, fun j t ht => by
        rw [Tryd.params8] at ht
        have h9 : t = 22 ∨ t = 45 := by
          rcases j with _ | _ | _ | j
          · left; simpa using ht.symm
          · left; simpa using ht.symm
          · right; simpa using ht.symm
          · simp at ht
        rcases h9 with rfl | rfl
        · exact (show Tryd.prog.wantsStandIn 22 = false by kernel_rfl)
        · exact (show Tryd.prog.wantsStandIn 45 = false by kernel_rfl)⟩)
    (by kernel_rfl)
end Go.Proofs.YtbjidmijbphhgaaDoor.jsonKids
namespace Go.Proofs.YtbjidmijbphhgaaDoor
/-- The tied card, under a short name, for the claim. -/
theorem jsonKids_holds : Rows.JsonKidsCardSaid := jsonKids.card
#print axioms jsonKids_holds
end Go.Proofs.YtbjidmijbphhgaaDoor
