/- A list of texts, and a message, as they come, opened. -/
import Derived.Test.YtllhpkpckjacfaaGreatDoorOpens
import Derived.Test.YtllhpkpckjacfaaGreatDoorTrG
import Derived.Test.YtllhpkpckjacfaaGreatDoorTrD
namespace Go.Proofs.YtllhpkpckjacfaaGreatDoor
open Go.RowKit Go.Proofs.YtllhpkpckjacfaaGreatDoorW.PrintWords PTemplateFilters Go.Proofs.YtllhpkpckjacfaaGreatDoorOp
set_option linter.unusedVariables false
set_option maxRecDepth 100000 in
theorem opens_texts : Opens Tryz.prog 22 (Kd.slice 9 Kd.string) (fun xs => (∀ x ∈ xs, x.size ≤ maxLen) ∧ xs.length ≤ maxLen) := opens_slice Tryz.underlying22 (by kernel_rfl) (opens_string Tryz.underlying9)
/-- A pair as it may come. -/
def okP (x : S40) : Prop := x.f0.size ≤ maxLen ∧ x.f1.size ≤ maxLen
set_option maxRecDepth 100000 in
theorem opens_pair : Opens Tryz.prog 40 k40 okP := by
  have h := opens_struct Tryz.underlying40 (by kernel_rfl) (OpensF.cons rfl (by kernel_rfl) (opens_string Tryz.underlying9) rfl (OpensF.one rfl (by kernel_rfl) (opens_string Tryz.underlying9)))
  exact opens_iso h (fun x : S40 => (x.f0, x.f1)) (fun t => ⟨t.1, t.2⟩) (fun _ => rfl)
set_option maxRecDepth 100000 in
theorem opens_pairs : Opens Tryz.prog 30 (Kd.slice 40 k40) (fun xs => (∀ x ∈ xs, okP x) ∧ xs.length ≤ maxLen) := opens_slice Tryz.underlying30 (by kernel_rfl) opens_pair
set_option maxRecDepth 100000 in
theorem opens_lists : Opens Tryz.prog 31 (Kd.slice 30 (Kd.slice 40 k40)) (fun xs => (∀ x ∈ xs, (∀ y ∈ x, okP y) ∧ x.length ≤ maxLen) ∧ xs.length ≤ maxLen) := opens_slice Tryz.underlying31 (by kernel_rfl) opens_pairs
set_option maxRecDepth 100000 in
theorem opens_msg : Opens Tryz.prog 33 (Kd.pair Kd.string (Kd.pair Kd.string (Kd.pair (Kd.slice 40 k40) (Kd.pair (Kd.slice 30 (Kd.slice 40 k40)) (Kd.slice 30 (Kd.slice 40 k40))))))
    (fun x => x.1.size ≤ maxLen ∧ x.2.1.size ≤ maxLen ∧ ((∀ y ∈ x.2.2.1, okP y) ∧ x.2.2.1.length ≤ maxLen) ∧ ((∀ l ∈ x.2.2.2.1, (∀ y ∈ l, okP y) ∧ l.length ≤ maxLen) ∧ x.2.2.2.1.length ≤ maxLen) ∧ ((∀ l ∈ x.2.2.2.2, (∀ y ∈ l, okP y) ∧ l.length ≤ maxLen) ∧ x.2.2.2.2.length ≤ maxLen)) := by
  have h := opens_struct Tryz.underlying33 (by kernel_rfl) (OpensF.cons rfl (by kernel_rfl) (opens_string Tryz.underlying9) rfl (OpensF.cons rfl (by kernel_rfl) (opens_string Tryz.underlying9) rfl
    (OpensF.cons rfl (by kernel_rfl) opens_pairs rfl (OpensF.cons rfl (by kernel_rfl) opens_lists rfl (OpensF.one rfl (by kernel_rfl) opens_lists)))))
  exact h
theorem msg_of {H : Type} {enc : TypeId × Value → H} {w : World} {base : Nat} {sp : Nat → Bool} {held : Bool} {v : Value} {x : DataW H} {ps : List MemPlace} (hv : ∃ cs, v = .agg cs ∧ cs.size = Tryz.prog.cellsOf 33)
    (hx : DataW.Trod enc Tryz.prog w base sp held 33 v x ps) : ∃ (m : MsgM) (pre : List Value), v = .agg pre.toArray ∧ MsgC w m pre := by
  obtain ⟨cs, rfl, -⟩ := hv
  obtain ⟨fuel, hf⟩ := hx
  obtain ⟨⟨r, k, g, f, q⟩, hK, -⟩ := opens_msg.opened hf
  obtain ⟨_, _, he, rfl, ⟨_, _, rfl, rfl, ⟨_, _, rfl, hg, ⟨_, _, rfl, hf, hq⟩⟩⟩⟩ := hK
  obtain ⟨Ag, cg, rfl, lg, Cg⟩ := hg
  obtain ⟨Af, cf, rfl, lf, Cf⟩ := hf
  obtain ⟨Aq, cq, rfl, lq, Cq⟩ := hq
  refine ⟨⟨bts r, bts k, g, f, q⟩, cs.toList, by simp, .slice Ag g.length cg, .slice Af f.length cf, .slice Aq q.length cq, ?_, ⟨Ag, cg, rfl, lg, Cg⟩, lists_ofC lf Cf, lists_ofC lq Cq⟩
  show cs.toList = _
  rw [str_bts, str_bts]
  exact he
end Go.Proofs.YtllhpkpckjacfaaGreatDoor
