/- template's parser: what stands for a value. -/
import Derived.Test.YtllhpkpckjacfaaGreatDoorTaE
import Derived.Test.YtllhpkpckjacfaaGreatDoorTsP
namespace Go.Proofs.YtllhpkpckjacfaaGreatDoor
open Go.RowKit Go.Proofs.YtllhpkpckjacfaaGreatDoorW.PrintWords PTemplateFilters
set_option linter.unusedVariables false
set_option linter.unusedSimpArgs false

def wFiring : Bytes := [102, 105, 114, 105, 110, 103]
def wResolved : Bytes := [114, 101, 115, 111, 108, 118, 101, 100]
def wReceiver : Bytes := [114, 101, 99, 101, 105, 118, 101, 114]
def wKey : Bytes := [107, 101, 121]
def wOpen : Bytes := [111, 112, 101, 110]
def wIndex : Bytes := [105, 110, 100, 101, 120]
def wGroup : Bytes := [103, 114, 111, 117, 112]
def wCount : Bytes := [99, 111, 117, 110, 116]
def wLabel : Bytes := [108, 97, 98, 101, 108]
def listM (s : Bytes) : Bool := if s = wFiring then true else s == wResolved
def nameC (c : UInt8) : Bool := if c.toNat = 95 then true else if c.toNat < 97 then (if c.toNat < 48 then false else if 57 < c.toNat then false else true) else if 122 < c.toNat then false else true
def nameM (s : Bytes) : Bool := match s with | [] => false | c :: t => if 16 < (c :: t).length then false else if 48 ≤ c.toNat ∧ c.toNat ≤ 57 then false else (c :: t).all nameC
def standsM (w : List Bytes) (within : Bool) : Bool :=
  match w with
  | [a] => if a = wReceiver then true else if a = wKey then true else if a = wOpen then true else if a = wIndex then within else false
  | [a, b] => if a = wGroup then nameM b else if a = wCount then listM b else if a = wLabel then within && nameM b else false
  | _ => false
theorem bt_str (s : Bytes) {j : Nat} (hj : j < s.length) : bt (str s) (j : Int) = (s[j].toNat : Int) := by
  unfold bt
  rw [dif_pos (by rw [Int.toNat_natCast, str_size]; exact hj)]
  rfl
theorem name_l0 (s : Bytes) : ∀ (b a : Bytes), s = a ++ b → s.length ≤ 1000000 → label_Name.l0 (b.length + 1) (str s) (s.length : Int) (a.length : Int) = some (b.all nameC)
  | [], a, h, hl => by
    subst h
    simp [label_Name.l0]
  | c :: b, a, h, hl => by
    have hlt : a.length < s.length := by rw [h]; simp
    have hg : s[a.length] = c := by subst h; simp
    have ih := name_l0 s b (a ++ [c]) (by rw [h]; simp) hl
    have hw : wrap64 ((a.length : Int) + 1) = ((a ++ [c]).length : Int) := by rw [w64_in _ (by omega)]; simp
    have hcl : (c :: b).length = b.length + 1 := rfl
    rw [hcl, label_Name.l0, if_pos (by omega), if_pos (by omega), if_pos (by rw [str_size]; omega), bt_str s hlt, hg, hw, ih, List.all_cons]
    have hc := UInt8.toNat_lt c
    unfold nameC
    repeat' split
    all_goals first | rfl | (exfalso; omega) | simp
theorem name_f (s : Bytes) (hl : s.length ≤ 1000000) : label_Name.f (s.length + 3) (str s) = some (nameM s) := by
  cases s with
  | nil => rw [label_Name.f, if_pos (by rw [str_tl]), show ([] : Bytes).length + 3 = 2 + 1 from rfl, label_Name.j0, if_pos rfl]; rfl
  | cons c t =>
    have h0 := name_l0 (c :: t) (c :: t) [] rfl hl
    have hb := bt_str (c :: t) (j := 0) (by simp)
    have hk : (c :: t).length + 3 = ((c :: t).length + 2) + 1 := rfl
    have hm : label_Name.l0 ((c :: t).length + 2) (str (c :: t)) (((c :: t).length : Nat) : Int) 0 = some ((c :: t).all nameC) := by
      exact ((label_Name.mono_l _).2 _ _ _ _ h0)
    rw [label_Name.f, if_neg (by rw [str_tl]; simp), str_size]
    show _ = some (if 16 < (c :: t).length then false else if 48 ≤ c.toNat ∧ c.toNat ≤ 57 then false else (c :: t).all nameC)
    by_cases h16 : 16 < (c :: t).length
    · rw [if_pos (by omega), if_pos h16, hk, label_Name.j0, if_pos rfl]
    · rw [if_neg (by omega), if_neg h16, if_pos (by simp)]
      rw [show ((0 : Int)) = ((0 : Nat) : Int) from rfl, hb]
      simp only [List.getElem_cons_zero]
      by_cases h48 : 48 ≤ c.toNat
      · rw [if_pos (by omega), hk, label_Name.j0]
        by_cases h57 : c.toNat ≤ 57
        · rw [if_pos (by simp; omega), if_pos ⟨h48, h57⟩]
        · rw [if_neg (by simp; omega), if_neg (by omega)]
          exact hm
      · rw [if_neg (by omega), hk, label_Name.j0, if_neg (by simp), if_neg (by omega)]
        exact hm
theorem name_more (s : Bytes) (hl : s.length ≤ 1000000) : label_Name.f (s.length + 4) (str s) = some (nameM s) := by
  have h := name_f s hl
  exact label_Name.mono _ _ _ h
theorem list_f (s : Bytes) : template_list.f (str s) = some (listM s) := by
  rw [template_list.f, str_tl]
  show (if s = wFiring then some true else some (s == wResolved)) = some (if s = wFiring then true else s == wResolved)
  split <;> rfl
theorem stands_f (w : List Bytes) (within : Bool) (hl : ∀ b ∈ w, b.length ≤ 1000000) : template_stands.f (((w.getD 1 []).length) + 4) (w.map str) within = some (standsM w within) := by
  match w with
  | [] => rw [template_stands.f, if_neg (by simp), if_neg (by simp)]; rfl
  | [a] =>
    have h0 : rdOf ByteArray.empty ([a].map str) 0 = str a := rfl
    rw [template_stands.f, if_pos (by simp), if_pos (by simp), h0, str_tl]
    show _ = some (if a = wReceiver then true else if a = wKey then true else if a = wOpen then true else if a = wIndex then within else false)
    show (if a = wReceiver then _ else _) = _
    by_cases h1 : a = wReceiver
    · rw [if_pos h1, if_pos h1, template_stands.j0, h1]; rfl
    rw [if_neg h1, if_neg h1]
    show (if a = wKey then _ else _) = _
    by_cases h2 : a = wKey
    · rw [if_pos h2, if_pos h2, template_stands.j0, h2]; rfl
    rw [if_neg h2, if_neg h2, template_stands.j0, str_tl]
    by_cases h3 : a = wOpen
    · rw [if_pos h3, h3]; rfl
    rw [if_neg h3]
    have h3b : (a == ([111, 112, 101, 110] : List UInt8)) = false := beq_eq_false_iff_ne.mpr h3
    rw [h3b, if_neg (by simp)]
    by_cases h4 : a = wIndex
    · rw [if_pos h4]; exact if_pos h4
    · rw [if_neg h4]; exact if_neg h4
  | [a, b] =>
    have h0 : rdOf ByteArray.empty ([a, b].map str) 0 = str a := rfl
    have h1 : rdOf ByteArray.empty ([a, b].map str) 1 = str b := rfl
    have hn : label_Name.f (([a, b].getD 1 []).length + 4) (str b) = some (nameM b) := name_more b (hl b (by simp))
    rw [template_stands.f, if_neg (by simp), if_pos (by simp), if_pos (by simp), h0, h1, hn, list_f, str_tl]
    have hp : (1 : Int) < ((([a, b].map str).length : Nat) : Int) := by simp
    simp only [if_pos hp, Option.bind_some]
    show (if a = wGroup then some (nameM b) else if a = wCount then some (listM b) else if a = wLabel then (if within = true then some (nameM b) else some false) else some false) = some (if a = wGroup then nameM b else if a = wCount then listM b else if a = wLabel then within && nameM b else false)
    repeat' split
    all_goals simp_all
  | a :: b :: c :: t => rw [template_stands.f, if_neg (by simp; omega), if_neg (by simp; omega)]; rfl
theorem stands_any {ok : Nat → Prop} {w : World} {V : Value} {l : List Bytes} (h : SsK ok w V l) (hl : l.length ≤ 1000000) (hm : ∀ b ∈ l, b.length ≤ 1000000) (within : Bool) :
    Calls Tryz.prog 143 #[V, .bool within] w fun e w' => e = .returned (.bool (standsM l within)) ∧ Drawn0 w w' := by
  obtain ⟨A, c, rfl, hc⟩ := h.form
  have hC := h.toC (by omega)
  have := template_stands.calls _ A c (l.map str) within (standsM l within) w (by rw [List.length_map]; exact hC) (by rw [List.length_map]; exact hc) (stands_f l within hm)
  rw [List.length_map] at this
  exact this
end Go.Proofs.YtllhpkpckjacfaaGreatDoor
