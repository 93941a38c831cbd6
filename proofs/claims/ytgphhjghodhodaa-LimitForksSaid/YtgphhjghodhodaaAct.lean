/- How an act is read: the kind is printed by the kit's kinds.py. -/
import Derived.Test.YtgphhjghodhodaaOpens
import Derived.Test.YtgphhjghodhodaaLimG
import Derived.Test.YtgphhjghodhodaaWLast
namespace Go.Proofs.Ytgphhjghodhodaa
open Go.RowKit Go.Proofs.YtgphhjghodhodaaW.PrintWords Go.Proofs.YtgphhjghodhodaaW.PrintLast Go.Proofs.YtgphhjghodhodaaOp
set_option linter.unusedVariables false

/-! #### struct type 32 -/
structure S32 where
  f0 : Int
  f1 : ByteArray
  f2 : Int
  f3 : Bool
def z32 : S32 := ⟨(0 : Int), (⟨#[]⟩ : ByteArray), (0 : Int), false⟩
def k32 : Kd S32 := Kd.iso (Kd.pair (Kd.int .u8) (Kd.pair Kd.string (Kd.pair (Kd.int .u16) Kd.bool))) (fun x : S32 => (x.f0, x.f1, x.f2, x.f3))
theorem k32_open {w : World} {x : S32} {cs : List Value} (h : k32.K w x cs) : cs = [.int .u8 x.f0, .string x.f1, .int .u16 x.f2, .bool x.f3] := by
  obtain ⟨_, _, rfl, rfl, ⟨_, _, rfl, rfl, ⟨_, _, rfl, rfl, rfl⟩⟩⟩ := h
  exact rfl
theorem k32_openM {w : World} {base : Nat} {ok : Nat → Prop} {x : S32} {cs : List Value} (h : k32.M w base ok x cs) : cs = [.int .u8 x.f0, .string x.f1, .int .u16 x.f2, .bool x.f3] := by
  obtain ⟨_, _, rfl, rfl, ⟨_, _, rfl, rfl, ⟨_, _, rfl, rfl, rfl⟩⟩⟩ := h
  exact rfl
theorem k32_mk (w : World) (x : S32)  : k32.K w x [.int .u8 x.f0, .string x.f1, .int .u16 x.f2, .bool x.f3] := ⟨[.int .u8 x.f0], [.string x.f1, .int .u16 x.f2, .bool x.f3], rfl, rfl, ⟨[.string x.f1], [.int .u16 x.f2, .bool x.f3], rfl, rfl, ⟨[.int .u16 x.f2], [.bool x.f3], rfl, rfl, rfl⟩⟩⟩
theorem k32_mkM (w : World) (base : Nat) (ok : Nat → Prop) (x : S32)  : k32.M w base ok x [.int .u8 x.f0, .string x.f1, .int .u16 x.f2, .bool x.f3] := ⟨[.int .u8 x.f0], [.string x.f1, .int .u16 x.f2, .bool x.f3], rfl, rfl, ⟨[.string x.f1], [.int .u16 x.f2, .bool x.f3], rfl, rfl, ⟨[.int .u16 x.f2], [.bool x.f3], rfl, rfl, rfl⟩⟩⟩
def rd_T32 (xs : List S32) (i : Int) : S32 := xs.getD i.toNat z32
theorem at_T32 {w : World} {A : Option Addr} {n : Nat} {xs : List S32} (h : Kd.C k32 w A n xs) (i : Int) (h0 : 0 ≤ i) (h1 : i < n) : ∃ ad , A = some ad ∧ w.cell? (ad.add (i.toNat * 4)) = some (.int .u8 (rd_T32 xs i).f0) ∧ w.cell? ⟨(ad.add (i.toNat * 4)).block, (ad.add (i.toNat * 4)).off + 1, none⟩ = some (.string (rd_T32 xs i).f1) ∧ w.cell? ⟨(ad.add (i.toNat * 4)).block, (ad.add (i.toNat * 4)).off + 2, none⟩ = some (.int .u16 (rd_T32 xs i).f2) ∧ w.cell? ⟨(ad.add (i.toNat * 4)).block, (ad.add (i.toNat * 4)).off + 3, none⟩ = some (.bool (rd_T32 xs i).f3) := by
  obtain ⟨ad, c, e, _, hK, hc0⟩ := Kd.C_get h z32 i h0 h1
  have hc : ∀ j u, c[j]? = some u → w.cell? (ad.add (i.toNat * 4 + j)) = some u := hc0
  obtain rfl := k32_open hK
  exact ⟨ad, e, hc 0 _ rfl, by rw [← add_field _ _ 1 (by omega)]; exact hc 1 _ rfl, by rw [← add_field _ _ 2 (by omega)]; exact hc 2 _ rfl, by rw [← add_field _ _ 3 (by omega)]; exact hc 3 _ rfl⟩

/-- An act as it may come. -/
def okAct (x : S32) : Prop := (Lit.int .u8 x.f0).wf = true ∧ x.f1.size ≤ maxLen ∧ (Lit.int .u16 x.f2).wf = true ∧ True
theorem opens_act : Opens Try.prog 32 k32 okAct := by
  have h := opens_struct Try.underlying32 (by kernel_rfl) (OpensF.cons rfl (by kernel_rfl) (opens_int Try.underlying5) rfl (OpensF.cons rfl (by kernel_rfl) (opens_string Try.underlying9) rfl
    (OpensF.cons rfl (by kernel_rfl) (opens_int Try.underlying30) rfl (OpensF.one rfl (by kernel_rfl) (opens_bool Try.underlying4)))))
  exact opens_iso h (fun x : S32 => (x.f0, x.f1, x.f2, x.f3)) (fun t => ⟨t.1, t.2.1, t.2.2.1, t.2.2.2⟩) (fun _ => rfl)
theorem opens_acts : Opens Try.prog 22 (Kd.slice 32 k32) (fun xs => (∀ x ∈ xs, okAct x) ∧ xs.length ≤ maxLen) := opens_slice Try.underlying22 (by kernel_rfl) opens_act

end Go.Proofs.Ytgphhjghodhodaa
