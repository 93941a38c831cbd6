/- The arguments of LimitPlays and LimitForks, opened. -/
import Derived.Test.YtgphhjghodhodaaPyW
import Derived.Test.YtgphhjghodhodaaOpens
import Derived.WideShapes
namespace Go.Proofs.Ytgphhjghodhodaa
open Go.RowKit Go.WideShapes Go.Proofs.YtgphhjghodhodaaOp Go.Proofs.YtgphhjghodhodaaW.PrintWords Go.Proofs.Ytgphhjghodhodaa.PNext
set_option linter.unusedVariables false

theorem opens_rule : Opens Try.prog 39 (Kd.pair (Kd.int .i64) (Kd.int .i64)) (fun x => (Lit.int .i64 x.1).wf = true ∧ (Lit.int .i64 x.2).wf = true) := by
  have h := opens_struct Try.underlying39 (by kernel_rfl) (OpensF.cons rfl (by kernel_rfl) (opens_int Try.underlying3) rfl (OpensF.one rfl (by kernel_rfl) (opens_int Try.underlying3)))
  exact h
theorem opens_spot : Opens Try.prog 41 (Kd.pair Kd.string (Kd.int .i64)) (fun x => x.1.size ≤ maxLen ∧ (Lit.int .i64 x.2).wf = true) := by
  have h := opens_struct Try.underlying41 (by kernel_rfl) (OpensF.cons rfl (by kernel_rfl) (opens_string Try.underlying9) rfl (OpensF.one rfl (by kernel_rfl) (opens_int Try.underlying3)))
  exact h

theorem rule_arg {H : Type} {enc : TypeId × Value → H} {w : World} {base : Nat} {sp : Nat → Bool} {held : Bool} {v : Value} {x : DataW H} {ps : List MemPlace} (hv : ∃ cs, v = .agg cs ∧ cs.size = Try.prog.cellsOf 39)
    (hx : DataW.Trod enc Try.prog w base sp held 39 v x ps) : ∃ r b : Int, v = .agg #[.int .i64 r, .int .i64 b] := by
  obtain ⟨cs, rfl, -⟩ := hv
  obtain ⟨fuel, hf⟩ := hx
  obtain ⟨⟨r, b⟩, hK, -⟩ := opens_rule.opened hf
  obtain ⟨_, _, he, rfl, rfl⟩ := hK
  have he' : cs.toList = [.int .i64 r, .int .i64 b] := he
  exact ⟨r, b, by rw [← Array.toArray_toList (xs := cs), he']⟩

theorem spot_arg {H : Type} {enc : TypeId × Value → H} {w : World} {base : Nat} {sp : Nat → Bool} {held : Bool} {v : Value} {x : DataW H} {ps : List MemPlace} (hv : ∃ cs, v = .agg cs ∧ cs.size = Try.prog.cellsOf 41)
    (hx : DataW.Trod enc Try.prog w base sp held 41 v x ps) : ∃ (s : ByteArray) (t : Int), v = .agg #[.string s, .int .i64 t] ∧ s.size ≤ maxLen := by
  obtain ⟨cs, rfl, -⟩ := hv
  obtain ⟨fuel, hf⟩ := hx
  obtain ⟨⟨s, t⟩, hK, hs, -⟩ := opens_spot.opened hf
  obtain ⟨_, _, he, rfl, rfl⟩ := hK
  have he' : cs.toList = [.string s, .int .i64 t] := he
  exact ⟨s, t, by rw [← Array.toArray_toList (xs := cs), he'], hs⟩

theorem plays_holds (r b : Int) (A : Option Addr) (xs : List S32) (cap : Nat) (key : ByteArray) (hkey : key.size ≤ maxLen) (t : Int) (W : World) (hC : Kd.C k32 W A xs.length xs) (hok : ∀ x ∈ xs, okAct x) :
    Calls Try.prog 5 #[.agg #[.int .i64 r, .int .i64 b], .slice A xs.length cap, .agg #[.string key, .int .i64 t]] W fun e w' => e = .returned (.bool true) ∧ Below W.heap.size W w' := by
  by_cases hrb : okRule r b
  · by_cases h : 300 < xs.length
    · exact plays_long r b hrb xs h A cap key t W
    · exact plays_main r b hrb xs (by omega) A cap key hkey t W hC hok
  · exact plays_bad r b hrb xs A cap key t W
end Go.Proofs.Ytgphhjghodhodaa
