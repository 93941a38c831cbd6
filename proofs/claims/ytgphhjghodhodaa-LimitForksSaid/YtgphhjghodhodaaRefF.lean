/- The walks of both New. -/
import Derived.Test.YtgphhjghodhodaaRefE
import Derived.Test.YtgphhjghodhodaaLimH
import Derived.Test.YtgphhjghodhodaaAct
namespace Go.Proofs.Ytgphhjghodhodaa
open Go.RowKit Go.Maps Go.WideMaps Go.Proofs.YtgphhjghodhodaaMp Go.Proofs.YtgphhjghodhodaaW.PrintWords Go.Proofs.Ytgphhjghodhodaa.PNext
set_option linter.unusedVariables false

def okRule (r b : Int) : Prop := 1 ≤ r ∧ r ≤ 1000000 ∧ 1 ≤ b ∧ b ≤ 1000000

theorem new_bad (r b : Int) (w : World) (h : ¬ okRule r b) :
    Calls Try.prog 9 #[.agg #[.int .i64 r, .int .i64 b]] w fun e w' => e = .returned (.tuple #[.pointer none, .int .i64 2]) ∧ Below w.heap.size w w' := by
  unfold okRule at h
  by_cases h1 : min r b < 1
  · go_enter Try.func9, Try.ntmps9
    go_wp2
    all_goals
      go_ret2
      exact ⟨rfl, (Below.refl _ _).alloc (Nat.le_refl _) _⟩
  · have h2 : 1000000 < max r b := by omega
    go_enter Try.func9, Try.ntmps9
    go_wp2
    all_goals
      go_ret2
      exact ⟨rfl, (Below.refl _ _).alloc (Nat.le_refl _) _⟩

theorem rnew_ok (r b : Int) (w : World) (h : okRule r b) :
    Calls Try.prog 13 #[.agg #[.int .i64 r, .int .i64 b]] w fun e w' => e = .returned (.tuple #[.agg #[.int .i64 r, .int .i64 b, .slice none 0 0, .int .i64 0], .int .i64 0]) ∧ Below w.heap.size w w' := by
  obtain ⟨h0, h1, h2, h3⟩ := h
  go_enter Try.func13, Try.ntmps13
  go_wp2
  refine bodyPost_ret (v := .tuple #[.agg #[.int .i64 r, .int .i64 b, .slice none 0 0, .int .i64 0], .int .i64 0]) ?_ rfl ⟨rfl, ?_⟩
  · simp only [results, Try.results13]
    go_simp
  · exact ((Below.refl _ _).alloc (Nat.le_refl _) _).alloc (by simp) _

theorem rnew_bad (r b : Int) (w : World) (h : ¬ okRule r b) :
    Calls Try.prog 13 #[.agg #[.int .i64 r, .int .i64 b]] w fun e w' => e = .returned (.tuple #[.agg #[.int .i64 0, .int .i64 0, .slice none 0 0, .int .i64 0], .int .i64 2]) ∧ Below w.heap.size w w' := by
  unfold okRule at h
  rcases (show r < 1 ∨ (1 ≤ r ∧ 1000000 < r) ∨ (1 ≤ r ∧ r ≤ 1000000 ∧ b < 1) ∨ (1 ≤ r ∧ r ≤ 1000000 ∧ 1 ≤ b ∧ 1000000 < b) from by omega) with h1 | ⟨h1, h2⟩ | ⟨h1, h2, h3⟩ | ⟨h1, h2, h3, h4⟩
  all_goals
    clear h
    go_enter Try.func13, Try.ntmps13
    go_wp2
    refine bodyPost_ret (v := .tuple #[.agg #[.int .i64 0, .int .i64 0, .slice none 0 0, .int .i64 0], .int .i64 2]) ?_ rfl ⟨rfl, ?_⟩
    · simp only [results, Try.results13]
      go_simp
    · exact ((Below.refl _ _).alloc (Nat.le_refl _) _).alloc (by simp) _
end Go.Proofs.Ytgphhjghodhodaa
