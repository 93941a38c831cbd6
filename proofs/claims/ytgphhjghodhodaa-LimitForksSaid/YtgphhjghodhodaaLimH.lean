/- The walk of Fork. -/
import Derived.Test.YtgphhjghodhodaaLimG
import Derived.Shelf.SlMaps.Clone
import Derived.Deep.RegionHeld3
namespace Go.Proofs.Ytgphhjghodhodaa
open Go.RowKit Go.Maps Go.WideMaps Go.Proofs.YtgphhjghodhodaaMp
set_option linter.unusedVariables false

theorem clone_any (b n : Nat) (D : DataW Unit) (w : World) (hown : w.ownsMap Try.prog 9 bkElem b n D) :
    Calls Try.prog 29 #[.map (some b)] w fun e w' => e = .returned (.map (some w.heap.size)) ∧ w'.ownsMap Try.prog 9 bkElem w.heap.size n D ∧ Below w.heap.size w w' ∧ w'.heap.size = w.heap.size + 1 := by
  obtain ⟨es, clock, hb, F, hs, hD⟩ := hown
  have hq := fun w => run_eql_map_nil_sl (P := Try.prog) w 57 _ _ (some b) Try.underlying57
  have hex := run_maps_clone_sl w 57 hb (P := Try.prog)
  have hta := fun v w => run_typeAssert_map_sl (P := Try.prog) w 57 20 _ _ v Try.underlying57
  have HR : w.alloc (.map es clock) = w.alloc (.map es clock) ∧ (w.alloc (.map es clock)).ownsMap Try.prog 9 bkElem w.heap.size n D ∧ Below w.heap.size w (w.alloc (.map es clock)) ∧ (w.alloc (.map es clock)).heap.size = w.heap.size + 1 :=
    ⟨rfl, ⟨es, clock, (MapKept.heap_alloc w _).1, F, hs, hD⟩, (Below.refl _ w).alloc (Nat.le_refl _) _, by simp⟩
  have HRR := Lib.hid HR
  clear HR F hs hD
  go_enter Try.func29, Try.ntmps29
  go_wp2
  rw [run_callFunc_extern Try.func34 (by kernel_rfl) (by kernel_rfl) (by kernel_rfl) (e := Extern.MapsClone.clone) (by kernel_rfl), hex]
  simp only [Result.andThen]
  rw [Oper.upon_value]
  go_wp2
  go_ret
  exact ⟨rfl, HRR.out.2⟩

theorem clone_lim {w : World} {p m : Nat} {r b d : Int} {B : List (Key × Bk)} (L : Lim w p m r b d B) :
    Calls Try.prog 29 #[.map (some m)] w fun e w' => ∃ q : Nat, e = .returned (.map (some q)) ∧ (∃ D, w'.ownsMap Try.prog 9 bkElem q B.length D ∧ MRep klit bdat D B) ∧ Below w.heap.size w w' ∧ w.heap.size ≤ q ∧
      (w'.cell? ⟨p, 0, none⟩ = some (.int .i64 r) ∧ w'.cell? ⟨p, 1, none⟩ = some (.int .i64 b) ∧ w'.cell? ⟨p, 2, none⟩ = some (.map (some m)) ∧ w'.cell? ⟨p, 3, none⟩ = some (.int .i64 d)) := by
  obtain ⟨D, ho, hr⟩ := L.own
  refine (clone_any m B.length D w ho).mono fun e w' ⟨he, ho', hB, _⟩ => ?_
  have L' := L.below hB
  exact ⟨_, he, ⟨D, ho', hr⟩, hB, Nat.le_refl _, L'.c0, L'.c1, L'.c2, L'.c3⟩

theorem fork_any {w : World} {p m : Nat} {r b d : Int} {B : List (Key × Bk)} (L : Lim w p m r b d B) :
    Calls Try.prog 17 #[.pointer (some ⟨p, 0, none⟩)] w fun e w' => ∃ p' m' : Nat, e = .returned (.pointer (some ⟨p', 0, none⟩)) ∧ Lim w' p' m' r b d B ∧ Below w.heap.size w w' ∧ w.heap.size ≤ p' ∧ w.heap.size ≤ m' := by
  have hlt := L.lt
  have c0 := L.c0
  have c1 := L.c1
  have c2 := L.c2
  have c3 := L.c3
  have HL := Lib.hid L
  clear L
  go_enter Try.func17, Try.ntmps17
  go_wp2
  go_region_held3 (fun w' => w'.cell? ⟨p, 0, none⟩ = some (.int .i64 r) ∧ w'.cell? ⟨p, 1, none⟩ = some (.int .i64 b) ∧ w'.cell? ⟨p, 2, none⟩ = some (.map (some m)) ∧ w'.cell? ⟨p, 3, none⟩ = some (.int .i64 d))
    (first | go_keep | (exact ⟨by assumption, by assumption, by assumption, by assumption⟩))
    (first | (go_at_call 29; refine (clone_lim (HL.out.below ((Below.refl _ _).drew))).mono ?_; rintro e w1 ⟨q, rfl, ho1, hB1, hq1, n0, n1, n2, n3⟩))
  have HO1 := Lib.hid ho1
  have HB1 := Lib.hid (((Below.refl w.heap.size w).drew).trans hB1)
  have hq2 : q < w1.heap.size := by obtain ⟨D, ho, _⟩ := ho1; exact ho.lt
  have hsz : w.heap.size ≤ w1.heap.size := HB1.out.size
  clear ho1 hB1
  go_wp2
  go_ret
  obtain ⟨D, ho, hr⟩ := HO1.out
  have L := HL.out
  exact ⟨_, q, rfl, ⟨heap_alloc_new _ _, by omega, ⟨D, ho.alloc _, hr⟩, L.r0, L.r1, L.b0, L.b1, L.few, L.inv⟩, HB1.out.alloc hsz _, hsz, hq1⟩

theorem fork_none (w : World) : Calls Try.prog 17 #[.pointer none] w fun e w' => e = .returned (.pointer none) ∧ w = w' := by
  go_enter Try.func17, Try.ntmps17
  go_wp2
  go_ret
  exact ⟨rfl, rfl⟩
theorem allow_none (s : ByteArray) (t : Int) (w : World) : Calls Try.prog 10 #[.pointer none, .string s, .int .i64 t] w fun e w' => e = .returned (.bool false) ∧ w = w' := by
  go_enter Try.func10, Try.ntmps10
  go_wp2
  go_ret
  exact ⟨rfl, rfl⟩
theorem left_none (s : ByteArray) (t : Int) (w : World) : Calls Try.prog 12 #[.pointer none, .string s, .int .i64 t] w fun e w' => e = .returned (.int .i64 0) ∧ w = w' := by
  go_enter Try.func12, Try.ntmps12
  go_wp2
  go_ret
  exact ⟨rfl, rfl⟩
theorem next_none (s : ByteArray) (t : Int) (w : World) : Calls Try.prog 16 #[.pointer none, .string s, .int .i64 t] w fun e w' => e = .returned (.int .i64 0) ∧ w = w' := by
  go_enter Try.func16, Try.ntmps16
  go_wp2
  go_ret
  exact ⟨rfl, rfl⟩
theorem forget_none (t : Int) (w : World) : Calls Try.prog 11 #[.pointer none, .int .i64 t] w fun e w' => e = .returned (.int .i64 0) ∧ w = w' := by
  go_enter Try.func11, Try.ntmps11
  go_wp2
  go_ret
  exact ⟨rfl, rfl⟩
theorem len_none (w : World) : Calls Try.prog 18 #[.pointer none] w fun e w' => e = .returned (.int .i64 0) ∧ w = w' := by
  go_enter Try.func18, Try.ntmps18
  go_wp2
  go_ret
  exact ⟨rfl, rfl⟩
theorem denied_none (w : World) : Calls Try.prog 19 #[.pointer none] w fun e w' => e = .returned (.int .i64 0) ∧ w = w' := by
  go_enter Try.func19, Try.ntmps19
  go_wp2
  go_ret
  exact ⟨rfl, rfl⟩
end Go.Proofs.Ytgphhjghodhodaa
