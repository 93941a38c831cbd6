/- TemplateTwice, of the arguments as they are opened. -/
import Derived.Test.YtllhpkpckjacfaaGreatDoorTwW
namespace Go.Proofs.YtllhpkpckjacfaaGreatDoor
open Go.RowKit Go.Proofs.YtllhpkpckjacfaaGreatDoorW.PrintWords PTemplateFilters
theorem templateTwice_holds0 {w : World} (hT : Tabs w) (s : ByteArray) (_ : s.size ≤ maxLen) (i : Int) (hi : (Lit.int .u8 i).wf = true) :
    Calls Tryz.prog 7 #[.string s, .int .u8 i] w fun e w' => e = .returned (.bool true) ∧ Below w.heap.size w w' := by
  have h2 : 0 ≤ i ∧ i < 256 := by
    have h := hi
    unfold Lit.wf at h
    rw [Bool.and_eq_true, decide_eq_true_eq, decide_eq_true_eq] at h
    have e1 : IntKind.u8.min = 0 := rfl
    have e2 : IntKind.u8.max = 255 := rfl
    omega
  obtain ⟨n, rfl⟩ : ∃ n : Nat, i = (n : Int) := ⟨i.toNat, by omega⟩
  have h := twice_holds0 hT (bts s) n (by omega)
  rw [str_bts] at h
  exact h
end Go.Proofs.YtllhpkpckjacfaaGreatDoor
