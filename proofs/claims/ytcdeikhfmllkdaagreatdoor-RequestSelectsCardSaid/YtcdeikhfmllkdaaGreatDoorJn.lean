import Derived.Test.YtcdeikhfmllkdaaGreatDoorJc
/- json's value: what follows the append, way by way (printed by value_gen.py). -/
namespace Go.Proofs.YtcdeikhfmllkdaaGreatDoor
open Go.RowKit
set_option linter.unusedVariables false
set_option linter.unusedSimpArgs false

set_option maxRecDepth 100000 in
set_option maxHeartbeats 2000000 in
theorem value_n_no {w wc : World} {q B H0 I : Nat} {V : Value} {t : Bytes} {l : List Val} {n : Nat} {name : Bytes} {parent : Int} {r : Res} (hp : Lib.hasPrefix (110 :: t) [110, 117, 108, 108] = false) (hr : r = .error 4)
    (C : VCut w q B H0 I V (110 :: t) l ⟨parent, 0, name, []⟩ n wc) {u4 u5 u7 u8 u9 u10 u11 u12 u13 u14 u15 u16 u17 u18 u19 u20 u21 u22 u23 u24 u25 u26 u27 u28 u29 u30 u31 u32 u33 u34 u35 u36 u37 u38 u39 u40 u41 u42 u43 u44 u45 u46 u47 u48 u49 u50 u51 u52 u53 u54 u55 u56 u57 u58 u59 u60 u61 u62 u63 u64 u65 u66 u67 u68 u69 u70 u71 u72 u73 u74 u75 u76 u77 u78 u79 u80 u81 u82 u83 u84 u85 u86 u87 u88 u89 u90 u91 u92 u93 u94 u95 u96 u97 u98 u99 u100 u101 u102 u103 u104 u105 u106 u107 u108 u109 u110 u111 u112 u113 u114 u115 u116 u117 u118 u119 u120 u121 u122 u123 u124 u125 u126 u127 u128 u129 u130 u131 u132 u133 u134 u135 u136 u137 u138 u139 u140 u141 u142 u143 u144 u145 u146 u147 u148 u149 u150 : Value} :
    Code.wp Tryz.prog valueTail (bodyPost Tryz.prog Tryz.f76 (VPost w q B V n r)) ⟨#[.pointer (some ⟨q, 0, none⟩), .string (str name), .int .i64 parent, .pointer (some ⟨H0, 0, none⟩), u4, u5, .pointer (some ⟨I, 0, none⟩), u7, u8, u9, u10, u11, u12, u13, u14, u15, u16, u17, u18, u19, u20, u21, u22, u23, u24, u25, u26, u27, u28, u29, u30, u31, u32, u33, u34, u35, u36, u37, u38, u39, u40, u41, u42, u43, u44, u45, u46, u47, u48, u49, u50, u51, u52, u53, u54, u55, u56, u57, u58, u59, u60, u61, u62, u63, u64, u65, u66, u67, u68, u69, u70, u71, u72, u73, u74, u75, u76, u77, u78, u79, u80, u81, u82, u83, u84, u85, u86, u87, u88, u89, u90, u91, u92, u93, u94, u95, u96, u97, u98, u99, u100, u101, u102, u103, u104, u105, u106, u107, u108, u109, u110, u111, u112, u113, u114, u115, u116, u117, u118, u119, u120, u121, u122, u123, u124, u125, u126, u127, u128, u129, u130, u131, u132, u133, u134, u135, u136, u137, u138, u139, u140, u141, u142, u143, u144, u145, u146, u147, u148, u149, u150], []⟩ wc := by
  conv => arg 2; whnf
  have HH := Lib.hid hr
  have HP := Lib.hid hp
  clear hr hp
  obtain ⟨V', R, hv, hn0, hnI⟩ := C.rs
  obtain ⟨hE, hsz1, h0, hx⟩ := cons_facts 110 t
  have c0 := R.rd.c0
  have f0 := R.rd.f 0
  have g0 := (cells_of C.b0 0).1
  have g1 := (cells_of C.b1 0).1
  have hfit := R.rd.fits
  obtain ⟨S, hS⟩ : ∃ S, str (110 :: t) = S := ⟨_, rfl⟩
  rw [hS] at c0 hE hsz1 h0 hx
  have hz0 : 0 < S.size := by omega
  have h00 := h0 hz0
  have hS1 : (1 : Int) ≤ (S.size : Int) := by omega
  have HX := Lib.hid hx
  have HS := Lib.hid hS
  have HC := Lib.hid C
  have HR := Lib.hid (And.intro R (And.intro hv (And.intro hn0 hnI)))
  clear hS h0 hx hsz1 C R hv hn0 hnI hfit
  go_wp2_with fail
  refine (word_no HR.out.1.rd [110, 117, 108, 108] HP.out).mono ?_
  rintro e w4 ⟨he, rfl⟩
  unfold faultOf at he
  subst he
  go_wp2
  exact ⟨rfl, vp_err HH.out rfl HC.out.turn⟩

set_option maxRecDepth 100000 in
set_option maxHeartbeats 2000000 in
theorem value_n_yes {w wc : World} {q B H0 I : Nat} {V : Value} {t : Bytes} {l : List Val} {n : Nat} {name : Bytes} {parent : Int} {r : Res} (hp : Lib.hasPrefix (110 :: t) [110, 117, 108, 108] = true) (hr : r = .ok (Lib.trimPrefix (110 :: t) [110, 117, 108, 108], l ++ [⟨parent, 0, name, []⟩]))
    (C : VCut w q B H0 I V (110 :: t) l ⟨parent, 0, name, []⟩ n wc) {u4 u5 u7 u8 u9 u10 u11 u12 u13 u14 u15 u16 u17 u18 u19 u20 u21 u22 u23 u24 u25 u26 u27 u28 u29 u30 u31 u32 u33 u34 u35 u36 u37 u38 u39 u40 u41 u42 u43 u44 u45 u46 u47 u48 u49 u50 u51 u52 u53 u54 u55 u56 u57 u58 u59 u60 u61 u62 u63 u64 u65 u66 u67 u68 u69 u70 u71 u72 u73 u74 u75 u76 u77 u78 u79 u80 u81 u82 u83 u84 u85 u86 u87 u88 u89 u90 u91 u92 u93 u94 u95 u96 u97 u98 u99 u100 u101 u102 u103 u104 u105 u106 u107 u108 u109 u110 u111 u112 u113 u114 u115 u116 u117 u118 u119 u120 u121 u122 u123 u124 u125 u126 u127 u128 u129 u130 u131 u132 u133 u134 u135 u136 u137 u138 u139 u140 u141 u142 u143 u144 u145 u146 u147 u148 u149 u150 : Value} :
    Code.wp Tryz.prog valueTail (bodyPost Tryz.prog Tryz.f76 (VPost w q B V n r)) ⟨#[.pointer (some ⟨q, 0, none⟩), .string (str name), .int .i64 parent, .pointer (some ⟨H0, 0, none⟩), u4, u5, .pointer (some ⟨I, 0, none⟩), u7, u8, u9, u10, u11, u12, u13, u14, u15, u16, u17, u18, u19, u20, u21, u22, u23, u24, u25, u26, u27, u28, u29, u30, u31, u32, u33, u34, u35, u36, u37, u38, u39, u40, u41, u42, u43, u44, u45, u46, u47, u48, u49, u50, u51, u52, u53, u54, u55, u56, u57, u58, u59, u60, u61, u62, u63, u64, u65, u66, u67, u68, u69, u70, u71, u72, u73, u74, u75, u76, u77, u78, u79, u80, u81, u82, u83, u84, u85, u86, u87, u88, u89, u90, u91, u92, u93, u94, u95, u96, u97, u98, u99, u100, u101, u102, u103, u104, u105, u106, u107, u108, u109, u110, u111, u112, u113, u114, u115, u116, u117, u118, u119, u120, u121, u122, u123, u124, u125, u126, u127, u128, u129, u130, u131, u132, u133, u134, u135, u136, u137, u138, u139, u140, u141, u142, u143, u144, u145, u146, u147, u148, u149, u150], []⟩ wc := by
  conv => arg 2; whnf
  have HH := Lib.hid hr
  have HP := Lib.hid hp
  clear hr hp
  obtain ⟨V', R, hv, hn0, hnI⟩ := C.rs
  obtain ⟨hE, hsz1, h0, hx⟩ := cons_facts 110 t
  have c0 := R.rd.c0
  have f0 := R.rd.f 0
  have g0 := (cells_of C.b0 0).1
  have g1 := (cells_of C.b1 0).1
  have hfit := R.rd.fits
  obtain ⟨S, hS⟩ : ∃ S, str (110 :: t) = S := ⟨_, rfl⟩
  rw [hS] at c0 hE hsz1 h0 hx
  have hz0 : 0 < S.size := by omega
  have h00 := h0 hz0
  have hS1 : (1 : Int) ≤ (S.size : Int) := by omega
  have HX := Lib.hid hx
  have HS := Lib.hid hS
  have HC := Lib.hid C
  have HR := Lib.hid (And.intro R (And.intro hv (And.intro hn0 hnI)))
  clear hS h0 hx hsz1 C R hv hn0 hnI hfit
  go_wp2_with fail
  refine (word_yes HR.out.1.rd [110, 117, 108, 108] HP.out).mono ?_
  rintro e w4 ⟨rfl, r4, t4⟩
  have HR4 := Lib.hid (HC.out.keep HR.out.1 HR.out.2.1 HR.out.2.2.1 HR.out.2.2.2 r4 t4)
  have HT4 := Lib.hid t4
  clear r4 t4
  go_wp2
  refine bodyPost_end (v := .tuple #[]) (by simp [results, Tryz.results76]) rfl ?_
  exact vp_ok HH.out rfl HR4.out.1 HR4.out.2.1 (HC.out.turn.trans (HT4.out.mono (fun k _ e => .inl e)))

set_option maxRecDepth 100000 in
set_option maxHeartbeats 2000000 in
theorem value_f_no {w wc : World} {q B H0 I : Nat} {V : Value} {t : Bytes} {l : List Val} {n : Nat} {name : Bytes} {parent : Int} {r : Res} (hp : Lib.hasPrefix (102 :: t) [102, 97, 108, 115, 101] = false) (hr : r = .error 4)
    (C : VCut w q B H0 I V (102 :: t) l ⟨parent, 0, name, []⟩ n wc) {u4 u5 u7 u8 u9 u10 u11 u12 u13 u14 u15 u16 u17 u18 u19 u20 u21 u22 u23 u24 u25 u26 u27 u28 u29 u30 u31 u32 u33 u34 u35 u36 u37 u38 u39 u40 u41 u42 u43 u44 u45 u46 u47 u48 u49 u50 u51 u52 u53 u54 u55 u56 u57 u58 u59 u60 u61 u62 u63 u64 u65 u66 u67 u68 u69 u70 u71 u72 u73 u74 u75 u76 u77 u78 u79 u80 u81 u82 u83 u84 u85 u86 u87 u88 u89 u90 u91 u92 u93 u94 u95 u96 u97 u98 u99 u100 u101 u102 u103 u104 u105 u106 u107 u108 u109 u110 u111 u112 u113 u114 u115 u116 u117 u118 u119 u120 u121 u122 u123 u124 u125 u126 u127 u128 u129 u130 u131 u132 u133 u134 u135 u136 u137 u138 u139 u140 u141 u142 u143 u144 u145 u146 u147 u148 u149 u150 : Value} :
    Code.wp Tryz.prog valueTail (bodyPost Tryz.prog Tryz.f76 (VPost w q B V n r)) ⟨#[.pointer (some ⟨q, 0, none⟩), .string (str name), .int .i64 parent, .pointer (some ⟨H0, 0, none⟩), u4, u5, .pointer (some ⟨I, 0, none⟩), u7, u8, u9, u10, u11, u12, u13, u14, u15, u16, u17, u18, u19, u20, u21, u22, u23, u24, u25, u26, u27, u28, u29, u30, u31, u32, u33, u34, u35, u36, u37, u38, u39, u40, u41, u42, u43, u44, u45, u46, u47, u48, u49, u50, u51, u52, u53, u54, u55, u56, u57, u58, u59, u60, u61, u62, u63, u64, u65, u66, u67, u68, u69, u70, u71, u72, u73, u74, u75, u76, u77, u78, u79, u80, u81, u82, u83, u84, u85, u86, u87, u88, u89, u90, u91, u92, u93, u94, u95, u96, u97, u98, u99, u100, u101, u102, u103, u104, u105, u106, u107, u108, u109, u110, u111, u112, u113, u114, u115, u116, u117, u118, u119, u120, u121, u122, u123, u124, u125, u126, u127, u128, u129, u130, u131, u132, u133, u134, u135, u136, u137, u138, u139, u140, u141, u142, u143, u144, u145, u146, u147, u148, u149, u150], []⟩ wc := by
  conv => arg 2; whnf
  have HH := Lib.hid hr
  have HP := Lib.hid hp
  clear hr hp
  obtain ⟨V', R, hv, hn0, hnI⟩ := C.rs
  obtain ⟨hE, hsz1, h0, hx⟩ := cons_facts 102 t
  have c0 := R.rd.c0
  have f0 := R.rd.f 0
  have g0 := (cells_of C.b0 0).1
  have g1 := (cells_of C.b1 0).1
  have hfit := R.rd.fits
  obtain ⟨S, hS⟩ : ∃ S, str (102 :: t) = S := ⟨_, rfl⟩
  rw [hS] at c0 hE hsz1 h0 hx
  have hz0 : 0 < S.size := by omega
  have h00 := h0 hz0
  have hS1 : (1 : Int) ≤ (S.size : Int) := by omega
  have HX := Lib.hid hx
  have HS := Lib.hid hS
  have HC := Lib.hid C
  have HR := Lib.hid (And.intro R (And.intro hv (And.intro hn0 hnI)))
  clear hS h0 hx hsz1 C R hv hn0 hnI hfit
  go_wp2_with fail
  refine (word_no HR.out.1.rd [102, 97, 108, 115, 101] HP.out).mono ?_
  rintro e w4 ⟨he, rfl⟩
  unfold faultOf at he
  subst he
  go_wp2
  exact ⟨rfl, vp_err HH.out rfl HC.out.turn⟩

set_option maxRecDepth 100000 in
set_option maxHeartbeats 2000000 in
theorem value_f_yes {w wc : World} {q B H0 I : Nat} {V : Value} {t : Bytes} {l : List Val} {n : Nat} {name : Bytes} {parent : Int} {r : Res} (hp : Lib.hasPrefix (102 :: t) [102, 97, 108, 115, 101] = true) (hr : r = .ok (Lib.trimPrefix (102 :: t) [102, 97, 108, 115, 101], l ++ [⟨parent, 1, name, []⟩]))
    (C : VCut w q B H0 I V (102 :: t) l ⟨parent, 0, name, []⟩ n wc) {u4 u5 u7 u8 u9 u10 u11 u12 u13 u14 u15 u16 u17 u18 u19 u20 u21 u22 u23 u24 u25 u26 u27 u28 u29 u30 u31 u32 u33 u34 u35 u36 u37 u38 u39 u40 u41 u42 u43 u44 u45 u46 u47 u48 u49 u50 u51 u52 u53 u54 u55 u56 u57 u58 u59 u60 u61 u62 u63 u64 u65 u66 u67 u68 u69 u70 u71 u72 u73 u74 u75 u76 u77 u78 u79 u80 u81 u82 u83 u84 u85 u86 u87 u88 u89 u90 u91 u92 u93 u94 u95 u96 u97 u98 u99 u100 u101 u102 u103 u104 u105 u106 u107 u108 u109 u110 u111 u112 u113 u114 u115 u116 u117 u118 u119 u120 u121 u122 u123 u124 u125 u126 u127 u128 u129 u130 u131 u132 u133 u134 u135 u136 u137 u138 u139 u140 u141 u142 u143 u144 u145 u146 u147 u148 u149 u150 : Value} :
    Code.wp Tryz.prog valueTail (bodyPost Tryz.prog Tryz.f76 (VPost w q B V n r)) ⟨#[.pointer (some ⟨q, 0, none⟩), .string (str name), .int .i64 parent, .pointer (some ⟨H0, 0, none⟩), u4, u5, .pointer (some ⟨I, 0, none⟩), u7, u8, u9, u10, u11, u12, u13, u14, u15, u16, u17, u18, u19, u20, u21, u22, u23, u24, u25, u26, u27, u28, u29, u30, u31, u32, u33, u34, u35, u36, u37, u38, u39, u40, u41, u42, u43, u44, u45, u46, u47, u48, u49, u50, u51, u52, u53, u54, u55, u56, u57, u58, u59, u60, u61, u62, u63, u64, u65, u66, u67, u68, u69, u70, u71, u72, u73, u74, u75, u76, u77, u78, u79, u80, u81, u82, u83, u84, u85, u86, u87, u88, u89, u90, u91, u92, u93, u94, u95, u96, u97, u98, u99, u100, u101, u102, u103, u104, u105, u106, u107, u108, u109, u110, u111, u112, u113, u114, u115, u116, u117, u118, u119, u120, u121, u122, u123, u124, u125, u126, u127, u128, u129, u130, u131, u132, u133, u134, u135, u136, u137, u138, u139, u140, u141, u142, u143, u144, u145, u146, u147, u148, u149, u150], []⟩ wc := by
  conv => arg 2; whnf
  have HH := Lib.hid hr
  have HP := Lib.hid hp
  clear hr hp
  obtain ⟨V', R, hv, hn0, hnI⟩ := C.rs
  obtain ⟨hE, hsz1, h0, hx⟩ := cons_facts 102 t
  have c0 := R.rd.c0
  have f0 := R.rd.f 0
  have g0 := (cells_of C.b0 0).1
  have g1 := (cells_of C.b1 0).1
  have hfit := R.rd.fits
  obtain ⟨S, hS⟩ : ∃ S, str (102 :: t) = S := ⟨_, rfl⟩
  rw [hS] at c0 hE hsz1 h0 hx
  have hz0 : 0 < S.size := by omega
  have h00 := h0 hz0
  have hS1 : (1 : Int) ≤ (S.size : Int) := by omega
  have HX := Lib.hid hx
  have HS := Lib.hid hS
  have HC := Lib.hid C
  have HR := Lib.hid (And.intro R (And.intro hv (And.intro hn0 hnI)))
  clear hS h0 hx hsz1 C R hv hn0 hnI hfit
  go_wp2_with fail
  refine (word_yes HR.out.1.rd [102, 97, 108, 115, 101] HP.out).mono ?_
  rintro e w4 ⟨rfl, r4, t4⟩
  have HR4 := Lib.hid (HC.out.keep HR.out.1 HR.out.2.1 HR.out.2.2.1 HR.out.2.2.2 r4 t4)
  have HT4 := Lib.hid t4
  clear r4 t4
  have g0' := HR4.out.2.2.2.1
  have g1' := HR4.out.2.2.2.2
  clear g0 g1
  go_wp2_with fail
  refine (place_any HR4.out.1 g0' g1').mono ?_
  rintro e w5 ⟨⟨g, hg, rfl⟩, k, rfl⟩
  obtain ⟨G, cap, hV', hBg, hgs, hcap, hc4, hset⟩ := HR4.out.1.own.snoc
  subst hV'
  simp only [Value.ownBlock, Option.some.injEq] at hg
  subst hg
  have k1 := (hc4 1 (by omega)).1
  have k2 := (hc4 1 (by omega)).2
  have HSet := Lib.hid (hset 1 (.int .u8 1) ⟨parent, 1, name, []⟩ (by omega) rfl)
  clear hc4 hset
  simp only [Val.cells, List.getElem?_cons_succ, List.getElem?_cons_zero] at k1
  go_wp2
  refine bodyPost_end (v := .tuple #[]) (by simp [results, Tryz.results76]) rfl ?_
  exact vp_set HH.out HR4.out.1 HSet.out hBg HR4.out.2.1 (HC.out.turn.trans (HT4.out.mono (fun k _ e => .inl e)))

set_option maxRecDepth 100000 in
set_option maxHeartbeats 2000000 in
theorem value_t_no {w wc : World} {q B H0 I : Nat} {V : Value} {t : Bytes} {l : List Val} {n : Nat} {name : Bytes} {parent : Int} {r : Res} (hp : Lib.hasPrefix (116 :: t) [116, 114, 117, 101] = false) (hr : r = .error 4)
    (C : VCut w q B H0 I V (116 :: t) l ⟨parent, 0, name, []⟩ n wc) {u4 u5 u7 u8 u9 u10 u11 u12 u13 u14 u15 u16 u17 u18 u19 u20 u21 u22 u23 u24 u25 u26 u27 u28 u29 u30 u31 u32 u33 u34 u35 u36 u37 u38 u39 u40 u41 u42 u43 u44 u45 u46 u47 u48 u49 u50 u51 u52 u53 u54 u55 u56 u57 u58 u59 u60 u61 u62 u63 u64 u65 u66 u67 u68 u69 u70 u71 u72 u73 u74 u75 u76 u77 u78 u79 u80 u81 u82 u83 u84 u85 u86 u87 u88 u89 u90 u91 u92 u93 u94 u95 u96 u97 u98 u99 u100 u101 u102 u103 u104 u105 u106 u107 u108 u109 u110 u111 u112 u113 u114 u115 u116 u117 u118 u119 u120 u121 u122 u123 u124 u125 u126 u127 u128 u129 u130 u131 u132 u133 u134 u135 u136 u137 u138 u139 u140 u141 u142 u143 u144 u145 u146 u147 u148 u149 u150 : Value} :
    Code.wp Tryz.prog valueTail (bodyPost Tryz.prog Tryz.f76 (VPost w q B V n r)) ⟨#[.pointer (some ⟨q, 0, none⟩), .string (str name), .int .i64 parent, .pointer (some ⟨H0, 0, none⟩), u4, u5, .pointer (some ⟨I, 0, none⟩), u7, u8, u9, u10, u11, u12, u13, u14, u15, u16, u17, u18, u19, u20, u21, u22, u23, u24, u25, u26, u27, u28, u29, u30, u31, u32, u33, u34, u35, u36, u37, u38, u39, u40, u41, u42, u43, u44, u45, u46, u47, u48, u49, u50, u51, u52, u53, u54, u55, u56, u57, u58, u59, u60, u61, u62, u63, u64, u65, u66, u67, u68, u69, u70, u71, u72, u73, u74, u75, u76, u77, u78, u79, u80, u81, u82, u83, u84, u85, u86, u87, u88, u89, u90, u91, u92, u93, u94, u95, u96, u97, u98, u99, u100, u101, u102, u103, u104, u105, u106, u107, u108, u109, u110, u111, u112, u113, u114, u115, u116, u117, u118, u119, u120, u121, u122, u123, u124, u125, u126, u127, u128, u129, u130, u131, u132, u133, u134, u135, u136, u137, u138, u139, u140, u141, u142, u143, u144, u145, u146, u147, u148, u149, u150], []⟩ wc := by
  conv => arg 2; whnf
  have HH := Lib.hid hr
  have HP := Lib.hid hp
  clear hr hp
  obtain ⟨V', R, hv, hn0, hnI⟩ := C.rs
  obtain ⟨hE, hsz1, h0, hx⟩ := cons_facts 116 t
  have c0 := R.rd.c0
  have f0 := R.rd.f 0
  have g0 := (cells_of C.b0 0).1
  have g1 := (cells_of C.b1 0).1
  have hfit := R.rd.fits
  obtain ⟨S, hS⟩ : ∃ S, str (116 :: t) = S := ⟨_, rfl⟩
  rw [hS] at c0 hE hsz1 h0 hx
  have hz0 : 0 < S.size := by omega
  have h00 := h0 hz0
  have hS1 : (1 : Int) ≤ (S.size : Int) := by omega
  have HX := Lib.hid hx
  have HS := Lib.hid hS
  have HC := Lib.hid C
  have HR := Lib.hid (And.intro R (And.intro hv (And.intro hn0 hnI)))
  clear hS h0 hx hsz1 C R hv hn0 hnI hfit
  go_wp2_with fail
  refine (word_no HR.out.1.rd [116, 114, 117, 101] HP.out).mono ?_
  rintro e w4 ⟨he, rfl⟩
  unfold faultOf at he
  subst he
  go_wp2
  exact ⟨rfl, vp_err HH.out rfl HC.out.turn⟩

set_option maxRecDepth 100000 in
set_option maxHeartbeats 2000000 in
theorem value_t_yes {w wc : World} {q B H0 I : Nat} {V : Value} {t : Bytes} {l : List Val} {n : Nat} {name : Bytes} {parent : Int} {r : Res} (hp : Lib.hasPrefix (116 :: t) [116, 114, 117, 101] = true) (hr : r = .ok (Lib.trimPrefix (116 :: t) [116, 114, 117, 101], l ++ [⟨parent, 2, name, []⟩]))
    (C : VCut w q B H0 I V (116 :: t) l ⟨parent, 0, name, []⟩ n wc) {u4 u5 u7 u8 u9 u10 u11 u12 u13 u14 u15 u16 u17 u18 u19 u20 u21 u22 u23 u24 u25 u26 u27 u28 u29 u30 u31 u32 u33 u34 u35 u36 u37 u38 u39 u40 u41 u42 u43 u44 u45 u46 u47 u48 u49 u50 u51 u52 u53 u54 u55 u56 u57 u58 u59 u60 u61 u62 u63 u64 u65 u66 u67 u68 u69 u70 u71 u72 u73 u74 u75 u76 u77 u78 u79 u80 u81 u82 u83 u84 u85 u86 u87 u88 u89 u90 u91 u92 u93 u94 u95 u96 u97 u98 u99 u100 u101 u102 u103 u104 u105 u106 u107 u108 u109 u110 u111 u112 u113 u114 u115 u116 u117 u118 u119 u120 u121 u122 u123 u124 u125 u126 u127 u128 u129 u130 u131 u132 u133 u134 u135 u136 u137 u138 u139 u140 u141 u142 u143 u144 u145 u146 u147 u148 u149 u150 : Value} :
    Code.wp Tryz.prog valueTail (bodyPost Tryz.prog Tryz.f76 (VPost w q B V n r)) ⟨#[.pointer (some ⟨q, 0, none⟩), .string (str name), .int .i64 parent, .pointer (some ⟨H0, 0, none⟩), u4, u5, .pointer (some ⟨I, 0, none⟩), u7, u8, u9, u10, u11, u12, u13, u14, u15, u16, u17, u18, u19, u20, u21, u22, u23, u24, u25, u26, u27, u28, u29, u30, u31, u32, u33, u34, u35, u36, u37, u38, u39, u40, u41, u42, u43, u44, u45, u46, u47, u48, u49, u50, u51, u52, u53, u54, u55, u56, u57, u58, u59, u60, u61, u62, u63, u64, u65, u66, u67, u68, u69, u70, u71, u72, u73, u74, u75, u76, u77, u78, u79, u80, u81, u82, u83, u84, u85, u86, u87, u88, u89, u90, u91, u92, u93, u94, u95, u96, u97, u98, u99, u100, u101, u102, u103, u104, u105, u106, u107, u108, u109, u110, u111, u112, u113, u114, u115, u116, u117, u118, u119, u120, u121, u122, u123, u124, u125, u126, u127, u128, u129, u130, u131, u132, u133, u134, u135, u136, u137, u138, u139, u140, u141, u142, u143, u144, u145, u146, u147, u148, u149, u150], []⟩ wc := by
  conv => arg 2; whnf
  have HH := Lib.hid hr
  have HP := Lib.hid hp
  clear hr hp
  obtain ⟨V', R, hv, hn0, hnI⟩ := C.rs
  obtain ⟨hE, hsz1, h0, hx⟩ := cons_facts 116 t
  have c0 := R.rd.c0
  have f0 := R.rd.f 0
  have g0 := (cells_of C.b0 0).1
  have g1 := (cells_of C.b1 0).1
  have hfit := R.rd.fits
  obtain ⟨S, hS⟩ : ∃ S, str (116 :: t) = S := ⟨_, rfl⟩
  rw [hS] at c0 hE hsz1 h0 hx
  have hz0 : 0 < S.size := by omega
  have h00 := h0 hz0
  have hS1 : (1 : Int) ≤ (S.size : Int) := by omega
  have HX := Lib.hid hx
  have HS := Lib.hid hS
  have HC := Lib.hid C
  have HR := Lib.hid (And.intro R (And.intro hv (And.intro hn0 hnI)))
  clear hS h0 hx hsz1 C R hv hn0 hnI hfit
  go_wp2_with fail
  refine (word_yes HR.out.1.rd [116, 114, 117, 101] HP.out).mono ?_
  rintro e w4 ⟨rfl, r4, t4⟩
  have HR4 := Lib.hid (HC.out.keep HR.out.1 HR.out.2.1 HR.out.2.2.1 HR.out.2.2.2 r4 t4)
  have HT4 := Lib.hid t4
  clear r4 t4
  have g0' := HR4.out.2.2.2.1
  have g1' := HR4.out.2.2.2.2
  clear g0 g1
  go_wp2_with fail
  refine (place_any HR4.out.1 g0' g1').mono ?_
  rintro e w5 ⟨⟨g, hg, rfl⟩, k, rfl⟩
  obtain ⟨G, cap, hV', hBg, hgs, hcap, hc4, hset⟩ := HR4.out.1.own.snoc
  subst hV'
  simp only [Value.ownBlock, Option.some.injEq] at hg
  subst hg
  have k1 := (hc4 1 (by omega)).1
  have k2 := (hc4 1 (by omega)).2
  have HSet := Lib.hid (hset 1 (.int .u8 2) ⟨parent, 2, name, []⟩ (by omega) rfl)
  clear hc4 hset
  simp only [Val.cells, List.getElem?_cons_succ, List.getElem?_cons_zero] at k1
  go_wp2
  refine bodyPost_end (v := .tuple #[]) (by simp [results, Tryz.results76]) rfl ?_
  exact vp_set HH.out HR4.out.1 HSet.out hBg HR4.out.2.1 (HC.out.turn.trans (HT4.out.mono (fun k _ e => .inl e)))

set_option maxRecDepth 100000 in
set_option maxHeartbeats 2000000 in
theorem value_q_no {w wc : World} {q B H0 I : Nat} {V : Value} {t : Bytes} {l : List Val} {n : Nat} {name : Bytes} {parent : Int} {r : Res} (hs : t.length < 65536) (hp : quotedM (34 :: t) = none) (hr : r = .error 4)
    (C : VCut w q B H0 I V (34 :: t) l ⟨parent, 0, name, []⟩ n wc) {u4 u5 u7 u8 u9 u10 u11 u12 u13 u14 u15 u16 u17 u18 u19 u20 u21 u22 u23 u24 u25 u26 u27 u28 u29 u30 u31 u32 u33 u34 u35 u36 u37 u38 u39 u40 u41 u42 u43 u44 u45 u46 u47 u48 u49 u50 u51 u52 u53 u54 u55 u56 u57 u58 u59 u60 u61 u62 u63 u64 u65 u66 u67 u68 u69 u70 u71 u72 u73 u74 u75 u76 u77 u78 u79 u80 u81 u82 u83 u84 u85 u86 u87 u88 u89 u90 u91 u92 u93 u94 u95 u96 u97 u98 u99 u100 u101 u102 u103 u104 u105 u106 u107 u108 u109 u110 u111 u112 u113 u114 u115 u116 u117 u118 u119 u120 u121 u122 u123 u124 u125 u126 u127 u128 u129 u130 u131 u132 u133 u134 u135 u136 u137 u138 u139 u140 u141 u142 u143 u144 u145 u146 u147 u148 u149 u150 : Value} :
    Code.wp Tryz.prog valueTail (bodyPost Tryz.prog Tryz.f76 (VPost w q B V n r)) ⟨#[.pointer (some ⟨q, 0, none⟩), .string (str name), .int .i64 parent, .pointer (some ⟨H0, 0, none⟩), u4, u5, .pointer (some ⟨I, 0, none⟩), u7, u8, u9, u10, u11, u12, u13, u14, u15, u16, u17, u18, u19, u20, u21, u22, u23, u24, u25, u26, u27, u28, u29, u30, u31, u32, u33, u34, u35, u36, u37, u38, u39, u40, u41, u42, u43, u44, u45, u46, u47, u48, u49, u50, u51, u52, u53, u54, u55, u56, u57, u58, u59, u60, u61, u62, u63, u64, u65, u66, u67, u68, u69, u70, u71, u72, u73, u74, u75, u76, u77, u78, u79, u80, u81, u82, u83, u84, u85, u86, u87, u88, u89, u90, u91, u92, u93, u94, u95, u96, u97, u98, u99, u100, u101, u102, u103, u104, u105, u106, u107, u108, u109, u110, u111, u112, u113, u114, u115, u116, u117, u118, u119, u120, u121, u122, u123, u124, u125, u126, u127, u128, u129, u130, u131, u132, u133, u134, u135, u136, u137, u138, u139, u140, u141, u142, u143, u144, u145, u146, u147, u148, u149, u150], []⟩ wc := by
  conv => arg 2; whnf
  have HH := Lib.hid hr
  have HP := Lib.hid hp
  clear hr hp
  obtain ⟨V', R, hv, hn0, hnI⟩ := C.rs
  obtain ⟨hE, hsz1, h0, hx⟩ := cons_facts 34 t
  have c0 := R.rd.c0
  have f0 := R.rd.f 0
  have g0 := (cells_of C.b0 0).1
  have g1 := (cells_of C.b1 0).1
  have hfit := R.rd.fits
  obtain ⟨S, hS⟩ : ∃ S, str (34 :: t) = S := ⟨_, rfl⟩
  rw [hS] at c0 hE hsz1 h0 hx
  have hz0 : 0 < S.size := by omega
  have h00 := h0 hz0
  have hS1 : (1 : Int) ≤ (S.size : Int) := by omega
  have HX := Lib.hid hx
  have HS := Lib.hid hS
  have HC := Lib.hid C
  have HR := Lib.hid (And.intro R (And.intro hv (And.intro hn0 hnI)))
  clear hS h0 hx hsz1 C R hv hn0 hnI hfit
  go_wp2_with fail
  refine (quoted_any HR.out.1.rd HC.out.tabs (by simp; omega)).mono ?_
  rw [HP.out]
  rintro e w4 ⟨he, t4⟩
  unfold faultOf at he
  subst he
  have HT4 := Lib.hid t4
  clear t4
  go_wp2
  exact ⟨rfl, vp_err HH.out rfl (HC.out.turn.trans (HT4.out.mono (fun k _ e => .inl e)))⟩

set_option maxRecDepth 100000 in
set_option maxHeartbeats 2000000 in
theorem value_q_yes {w wc : World} {q B H0 I : Nat} {V : Value} {t : Bytes} {l : List Val} {n : Nat} {name : Bytes} {parent : Int} {r : Res} {x u : Bytes} (hs : t.length < 65536) (hp : quotedM (34 :: t) = some (x, u)) (hr : r = .ok (u, l ++ [⟨parent, 4, name, x⟩]))
    (C : VCut w q B H0 I V (34 :: t) l ⟨parent, 0, name, []⟩ n wc) {u4 u5 u7 u8 u9 u10 u11 u12 u13 u14 u15 u16 u17 u18 u19 u20 u21 u22 u23 u24 u25 u26 u27 u28 u29 u30 u31 u32 u33 u34 u35 u36 u37 u38 u39 u40 u41 u42 u43 u44 u45 u46 u47 u48 u49 u50 u51 u52 u53 u54 u55 u56 u57 u58 u59 u60 u61 u62 u63 u64 u65 u66 u67 u68 u69 u70 u71 u72 u73 u74 u75 u76 u77 u78 u79 u80 u81 u82 u83 u84 u85 u86 u87 u88 u89 u90 u91 u92 u93 u94 u95 u96 u97 u98 u99 u100 u101 u102 u103 u104 u105 u106 u107 u108 u109 u110 u111 u112 u113 u114 u115 u116 u117 u118 u119 u120 u121 u122 u123 u124 u125 u126 u127 u128 u129 u130 u131 u132 u133 u134 u135 u136 u137 u138 u139 u140 u141 u142 u143 u144 u145 u146 u147 u148 u149 u150 : Value} :
    Code.wp Tryz.prog valueTail (bodyPost Tryz.prog Tryz.f76 (VPost w q B V n r)) ⟨#[.pointer (some ⟨q, 0, none⟩), .string (str name), .int .i64 parent, .pointer (some ⟨H0, 0, none⟩), u4, u5, .pointer (some ⟨I, 0, none⟩), u7, u8, u9, u10, u11, u12, u13, u14, u15, u16, u17, u18, u19, u20, u21, u22, u23, u24, u25, u26, u27, u28, u29, u30, u31, u32, u33, u34, u35, u36, u37, u38, u39, u40, u41, u42, u43, u44, u45, u46, u47, u48, u49, u50, u51, u52, u53, u54, u55, u56, u57, u58, u59, u60, u61, u62, u63, u64, u65, u66, u67, u68, u69, u70, u71, u72, u73, u74, u75, u76, u77, u78, u79, u80, u81, u82, u83, u84, u85, u86, u87, u88, u89, u90, u91, u92, u93, u94, u95, u96, u97, u98, u99, u100, u101, u102, u103, u104, u105, u106, u107, u108, u109, u110, u111, u112, u113, u114, u115, u116, u117, u118, u119, u120, u121, u122, u123, u124, u125, u126, u127, u128, u129, u130, u131, u132, u133, u134, u135, u136, u137, u138, u139, u140, u141, u142, u143, u144, u145, u146, u147, u148, u149, u150], []⟩ wc := by
  conv => arg 2; whnf
  have HH := Lib.hid hr
  have HP := Lib.hid hp
  clear hr hp
  obtain ⟨V', R, hv, hn0, hnI⟩ := C.rs
  obtain ⟨hE, hsz1, h0, hx⟩ := cons_facts 34 t
  have c0 := R.rd.c0
  have f0 := R.rd.f 0
  have g0 := (cells_of C.b0 0).1
  have g1 := (cells_of C.b1 0).1
  have hfit := R.rd.fits
  obtain ⟨S, hS⟩ : ∃ S, str (34 :: t) = S := ⟨_, rfl⟩
  rw [hS] at c0 hE hsz1 h0 hx
  have hz0 : 0 < S.size := by omega
  have h00 := h0 hz0
  have hS1 : (1 : Int) ≤ (S.size : Int) := by omega
  have HX := Lib.hid hx
  have HS := Lib.hid hS
  have HC := Lib.hid C
  have HR := Lib.hid (And.intro R (And.intro hv (And.intro hn0 hnI)))
  clear hS h0 hx hsz1 C R hv hn0 hnI hfit
  go_wp2_with fail
  refine (quoted_any HR.out.1.rd HC.out.tabs (by simp; omega)).mono ?_
  rw [HP.out]
  rintro e w4 ⟨rfl, r4, t4⟩
  have HR4 := Lib.hid (HC.out.keep HR.out.1 HR.out.2.1 HR.out.2.2.1 HR.out.2.2.2 r4 t4)
  have HT4 := Lib.hid t4
  clear r4 t4
  have g0' := HR4.out.2.2.2.1
  have g1' := HR4.out.2.2.2.2
  clear g0 g1
  go_wp2_with fail
  refine (place_any HR4.out.1 g0' g1').mono ?_
  rintro e w5 ⟨⟨g, hg, rfl⟩, k, rfl⟩
  go_wp2_with fail
  refine (place_any (HR4.out.1.drewN k) g0' g1').mono ?_
  rintro e w6 ⟨⟨g2, hg2, rfl⟩, k2, rfl⟩
  obtain ⟨G, cap, hV', hBg, hgs, hcap, hc4, hset⟩ := HR4.out.1.own.snoc
  subst hV'
  simp only [Value.ownBlock, Option.some.injEq] at hg hg2
  subst hg
  subst hg2
  have k1 := (hc4 1 (by omega)).1
  have k2' := (hc4 1 (by omega)).2
  have k3 := (hc4 3 (by omega)).1
  have k4 := (hc4 3 (by omega)).2
  have HSet := Lib.hid (HR4.out.1.own.set2 (v := ⟨parent, 0, name, []⟩) (i := 1) (j := 3) (x := .int .u8 4) (y := .string (str x)) (v' := ⟨parent, 4, name, []⟩) (v'' := ⟨parent, 4, name, x⟩) (by omega) (by omega) rfl rfl)
  clear hc4 hset
  simp only [Val.cells, List.getElem?_cons_succ, List.getElem?_cons_zero] at k1 k3
  go_wp2
  refine bodyPost_end (v := .tuple #[]) (by simp [results, Tryz.results76]) rfl ?_
  exact vp_set2 HH.out HR4.out.1 HSet.out hBg HR4.out.2.1 (HC.out.turn.trans (HT4.out.mono (fun k _ e => .inl e)))

set_option maxRecDepth 100000 in
set_option maxHeartbeats 2000000 in
theorem value_m_no {w wc : World} {q B H0 I : Nat} {V : Value} {t : Bytes} {l : List Val} {n : Nat} {name : Bytes} {parent : Int} {r : Res} (hp : intM (numTok (45 :: t)) = false) (hr : r = .error 4)
    (C : VCut w q B H0 I V (45 :: t) l ⟨parent, 0, name, []⟩ n wc) {u4 u5 u7 u8 u9 u10 u11 u12 u13 u14 u15 u16 u17 u18 u19 u20 u21 u22 u23 u24 u25 u26 u27 u28 u29 u30 u31 u32 u33 u34 u35 u36 u37 u38 u39 u40 u41 u42 u43 u44 u45 u46 u47 u48 u49 u50 u51 u52 u53 u54 u55 u56 u57 u58 u59 u60 u61 u62 u63 u64 u65 u66 u67 u68 u69 u70 u71 u72 u73 u74 u75 u76 u77 u78 u79 u80 u81 u82 u83 u84 u85 u86 u87 u88 u89 u90 u91 u92 u93 u94 u95 u96 u97 u98 u99 u100 u101 u102 u103 u104 u105 u106 u107 u108 u109 u110 u111 u112 u113 u114 u115 u116 u117 u118 u119 u120 u121 u122 u123 u124 u125 u126 u127 u128 u129 u130 u131 u132 u133 u134 u135 u136 u137 u138 u139 u140 u141 u142 u143 u144 u145 u146 u147 u148 u149 u150 : Value} :
    Code.wp Tryz.prog valueTail (bodyPost Tryz.prog Tryz.f76 (VPost w q B V n r)) ⟨#[.pointer (some ⟨q, 0, none⟩), .string (str name), .int .i64 parent, .pointer (some ⟨H0, 0, none⟩), u4, u5, .pointer (some ⟨I, 0, none⟩), u7, u8, u9, u10, u11, u12, u13, u14, u15, u16, u17, u18, u19, u20, u21, u22, u23, u24, u25, u26, u27, u28, u29, u30, u31, u32, u33, u34, u35, u36, u37, u38, u39, u40, u41, u42, u43, u44, u45, u46, u47, u48, u49, u50, u51, u52, u53, u54, u55, u56, u57, u58, u59, u60, u61, u62, u63, u64, u65, u66, u67, u68, u69, u70, u71, u72, u73, u74, u75, u76, u77, u78, u79, u80, u81, u82, u83, u84, u85, u86, u87, u88, u89, u90, u91, u92, u93, u94, u95, u96, u97, u98, u99, u100, u101, u102, u103, u104, u105, u106, u107, u108, u109, u110, u111, u112, u113, u114, u115, u116, u117, u118, u119, u120, u121, u122, u123, u124, u125, u126, u127, u128, u129, u130, u131, u132, u133, u134, u135, u136, u137, u138, u139, u140, u141, u142, u143, u144, u145, u146, u147, u148, u149, u150], []⟩ wc := by
  conv => arg 2; whnf
  have HH := Lib.hid hr
  have HP := Lib.hid hp
  clear hr hp
  obtain ⟨V', R, hv, hn0, hnI⟩ := C.rs
  obtain ⟨hE, hsz1, h0, hx⟩ := cons_facts 45 t
  have c0 := R.rd.c0
  have f0 := R.rd.f 0
  have g0 := (cells_of C.b0 0).1
  have g1 := (cells_of C.b1 0).1
  have hfit := R.rd.fits
  obtain ⟨S, hS⟩ : ∃ S, str (45 :: t) = S := ⟨_, rfl⟩
  rw [hS] at c0 hE hsz1 h0 hx
  have hz0 : 0 < S.size := by omega
  have h00 := h0 hz0
  have hS1 : (1 : Int) ≤ (S.size : Int) := by omega
  have HX := Lib.hid hx
  have HS := Lib.hid hS
  have HC := Lib.hid C
  have HR := Lib.hid (And.intro R (And.intro hv (And.intro hn0 hnI)))
  clear hS h0 hx hsz1 C R hv hn0 hnI hfit
  go_wp2_with fail
  refine (number_no HR.out.1.rd HP.out).mono ?_
  rintro e w4 ⟨he, t4⟩
  unfold faultOf at he
  subst he
  have HT4 := Lib.hid t4
  clear t4
  go_wp2
  exact ⟨rfl, vp_err HH.out rfl (HC.out.turn.trans (Turn.of_below HT4.out))⟩

set_option maxRecDepth 100000 in
set_option maxHeartbeats 2000000 in
theorem value_m_yes {w wc : World} {q B H0 I : Nat} {V : Value} {t : Bytes} {l : List Val} {n : Nat} {name : Bytes} {parent : Int} {r : Res} (hp : intM (numTok (45 :: t)) = true) (hr : r = .ok (numRest (45 :: t), l ++ [⟨parent, 3, name, numTok (45 :: t)⟩]))
    (C : VCut w q B H0 I V (45 :: t) l ⟨parent, 0, name, []⟩ n wc) {u4 u5 u7 u8 u9 u10 u11 u12 u13 u14 u15 u16 u17 u18 u19 u20 u21 u22 u23 u24 u25 u26 u27 u28 u29 u30 u31 u32 u33 u34 u35 u36 u37 u38 u39 u40 u41 u42 u43 u44 u45 u46 u47 u48 u49 u50 u51 u52 u53 u54 u55 u56 u57 u58 u59 u60 u61 u62 u63 u64 u65 u66 u67 u68 u69 u70 u71 u72 u73 u74 u75 u76 u77 u78 u79 u80 u81 u82 u83 u84 u85 u86 u87 u88 u89 u90 u91 u92 u93 u94 u95 u96 u97 u98 u99 u100 u101 u102 u103 u104 u105 u106 u107 u108 u109 u110 u111 u112 u113 u114 u115 u116 u117 u118 u119 u120 u121 u122 u123 u124 u125 u126 u127 u128 u129 u130 u131 u132 u133 u134 u135 u136 u137 u138 u139 u140 u141 u142 u143 u144 u145 u146 u147 u148 u149 u150 : Value} :
    Code.wp Tryz.prog valueTail (bodyPost Tryz.prog Tryz.f76 (VPost w q B V n r)) ⟨#[.pointer (some ⟨q, 0, none⟩), .string (str name), .int .i64 parent, .pointer (some ⟨H0, 0, none⟩), u4, u5, .pointer (some ⟨I, 0, none⟩), u7, u8, u9, u10, u11, u12, u13, u14, u15, u16, u17, u18, u19, u20, u21, u22, u23, u24, u25, u26, u27, u28, u29, u30, u31, u32, u33, u34, u35, u36, u37, u38, u39, u40, u41, u42, u43, u44, u45, u46, u47, u48, u49, u50, u51, u52, u53, u54, u55, u56, u57, u58, u59, u60, u61, u62, u63, u64, u65, u66, u67, u68, u69, u70, u71, u72, u73, u74, u75, u76, u77, u78, u79, u80, u81, u82, u83, u84, u85, u86, u87, u88, u89, u90, u91, u92, u93, u94, u95, u96, u97, u98, u99, u100, u101, u102, u103, u104, u105, u106, u107, u108, u109, u110, u111, u112, u113, u114, u115, u116, u117, u118, u119, u120, u121, u122, u123, u124, u125, u126, u127, u128, u129, u130, u131, u132, u133, u134, u135, u136, u137, u138, u139, u140, u141, u142, u143, u144, u145, u146, u147, u148, u149, u150], []⟩ wc := by
  conv => arg 2; whnf
  have HH := Lib.hid hr
  have HP := Lib.hid hp
  clear hr hp
  obtain ⟨V', R, hv, hn0, hnI⟩ := C.rs
  obtain ⟨hE, hsz1, h0, hx⟩ := cons_facts 45 t
  have c0 := R.rd.c0
  have f0 := R.rd.f 0
  have g0 := (cells_of C.b0 0).1
  have g1 := (cells_of C.b1 0).1
  have hfit := R.rd.fits
  obtain ⟨S, hS⟩ : ∃ S, str (45 :: t) = S := ⟨_, rfl⟩
  rw [hS] at c0 hE hsz1 h0 hx
  have hz0 : 0 < S.size := by omega
  have h00 := h0 hz0
  have hS1 : (1 : Int) ≤ (S.size : Int) := by omega
  have HX := Lib.hid hx
  have HS := Lib.hid hS
  have HC := Lib.hid C
  have HR := Lib.hid (And.intro R (And.intro hv (And.intro hn0 hnI)))
  clear hS h0 hx hsz1 C R hv hn0 hnI hfit
  go_wp2_with fail
  refine (number_any HR.out.1.rd HP.out).mono ?_
  rintro e w4 ⟨rfl, r4, t4⟩
  have HR4 := Lib.hid (HC.out.keep HR.out.1 HR.out.2.1 HR.out.2.2.1 HR.out.2.2.2 r4 t4)
  have HT4 := Lib.hid t4
  clear r4 t4
  have g0' := HR4.out.2.2.2.1
  have g1' := HR4.out.2.2.2.2
  clear g0 g1
  go_wp2_with fail
  refine (place_any HR4.out.1 g0' g1').mono ?_
  rintro e w5 ⟨⟨g, hg, rfl⟩, k, rfl⟩
  go_wp2_with fail
  refine (place_any (HR4.out.1.drewN k) g0' g1').mono ?_
  rintro e w6 ⟨⟨g2, hg2, rfl⟩, k2, rfl⟩
  obtain ⟨G, cap, hV', hBg, hgs, hcap, hc4, hset⟩ := HR4.out.1.own.snoc
  subst hV'
  simp only [Value.ownBlock, Option.some.injEq] at hg hg2
  subst hg
  subst hg2
  have k1 := (hc4 1 (by omega)).1
  have k2' := (hc4 1 (by omega)).2
  have k3 := (hc4 3 (by omega)).1
  have k4 := (hc4 3 (by omega)).2
  have HSet := Lib.hid (HR4.out.1.own.set2 (v := ⟨parent, 0, name, []⟩) (i := 1) (j := 3) (x := .int .u8 3) (y := .string (str (numTok (45 :: t)))) (v' := ⟨parent, 3, name, []⟩) (v'' := ⟨parent, 3, name, (numTok (45 :: t))⟩) (by omega) (by omega) rfl rfl)
  clear hc4 hset
  simp only [Val.cells, List.getElem?_cons_succ, List.getElem?_cons_zero] at k1 k3
  go_wp2
  refine bodyPost_end (v := .tuple #[]) (by simp [results, Tryz.results76]) rfl ?_
  exact vp_set2 HH.out HR4.out.1 HSet.out hBg HR4.out.2.1 (HC.out.turn.trans (HT4.out.mono (fun k _ e => .inl e)))

set_option maxRecDepth 100000 in
set_option maxHeartbeats 2000000 in
theorem value_d_no {w wc : World} {q B H0 I : Nat} {V : Value} {t : Bytes} {l : List Val} {n : Nat} {name : Bytes} {parent : Int} {r : Res} {c : UInt8} (h48 : 48 ≤ c.toNat) (h57 : c.toNat ≤ 57) (hp : intM (numTok (c :: t)) = false) (hr : r = .error 4)
    (C : VCut w q B H0 I V (c :: t) l ⟨parent, 0, name, []⟩ n wc) {u4 u5 u7 u8 u9 u10 u11 u12 u13 u14 u15 u16 u17 u18 u19 u20 u21 u22 u23 u24 u25 u26 u27 u28 u29 u30 u31 u32 u33 u34 u35 u36 u37 u38 u39 u40 u41 u42 u43 u44 u45 u46 u47 u48 u49 u50 u51 u52 u53 u54 u55 u56 u57 u58 u59 u60 u61 u62 u63 u64 u65 u66 u67 u68 u69 u70 u71 u72 u73 u74 u75 u76 u77 u78 u79 u80 u81 u82 u83 u84 u85 u86 u87 u88 u89 u90 u91 u92 u93 u94 u95 u96 u97 u98 u99 u100 u101 u102 u103 u104 u105 u106 u107 u108 u109 u110 u111 u112 u113 u114 u115 u116 u117 u118 u119 u120 u121 u122 u123 u124 u125 u126 u127 u128 u129 u130 u131 u132 u133 u134 u135 u136 u137 u138 u139 u140 u141 u142 u143 u144 u145 u146 u147 u148 u149 u150 : Value} :
    Code.wp Tryz.prog valueTail (bodyPost Tryz.prog Tryz.f76 (VPost w q B V n r)) ⟨#[.pointer (some ⟨q, 0, none⟩), .string (str name), .int .i64 parent, .pointer (some ⟨H0, 0, none⟩), u4, u5, .pointer (some ⟨I, 0, none⟩), u7, u8, u9, u10, u11, u12, u13, u14, u15, u16, u17, u18, u19, u20, u21, u22, u23, u24, u25, u26, u27, u28, u29, u30, u31, u32, u33, u34, u35, u36, u37, u38, u39, u40, u41, u42, u43, u44, u45, u46, u47, u48, u49, u50, u51, u52, u53, u54, u55, u56, u57, u58, u59, u60, u61, u62, u63, u64, u65, u66, u67, u68, u69, u70, u71, u72, u73, u74, u75, u76, u77, u78, u79, u80, u81, u82, u83, u84, u85, u86, u87, u88, u89, u90, u91, u92, u93, u94, u95, u96, u97, u98, u99, u100, u101, u102, u103, u104, u105, u106, u107, u108, u109, u110, u111, u112, u113, u114, u115, u116, u117, u118, u119, u120, u121, u122, u123, u124, u125, u126, u127, u128, u129, u130, u131, u132, u133, u134, u135, u136, u137, u138, u139, u140, u141, u142, u143, u144, u145, u146, u147, u148, u149, u150], []⟩ wc := by
  conv => arg 2; whnf
  have HH := Lib.hid hr
  have HP := Lib.hid hp
  clear hr hp
  have e1 : ((c.toNat : Int) == 110) = false := by rw [beq_eq_false_iff_ne]; omega
  have e2 : ((c.toNat : Int) == 102) = false := by rw [beq_eq_false_iff_ne]; omega
  have e3 : ((c.toNat : Int) == 116) = false := by rw [beq_eq_false_iff_ne]; omega
  have e4 : ((c.toNat : Int) == 34) = false := by rw [beq_eq_false_iff_ne]; omega
  have e5 : ((c.toNat : Int) == 45) = false := by rw [beq_eq_false_iff_ne]; omega
  have e6 : decide ((48 : Int) ≤ (c.toNat : Int)) = true := by simp; omega
  have e7 : decide ((c.toNat : Int) ≤ 57) = true := by simp; omega
  obtain ⟨V', R, hv, hn0, hnI⟩ := C.rs
  obtain ⟨hE, hsz1, h0, hx⟩ := cons_facts c t
  have c0 := R.rd.c0
  have f0 := R.rd.f 0
  have g0 := (cells_of C.b0 0).1
  have g1 := (cells_of C.b1 0).1
  have hfit := R.rd.fits
  obtain ⟨S, hS⟩ : ∃ S, str (c :: t) = S := ⟨_, rfl⟩
  rw [hS] at c0 hE hsz1 h0 hx
  have hz0 : 0 < S.size := by omega
  have h00 := h0 hz0
  have hS1 : (1 : Int) ≤ (S.size : Int) := by omega
  have HX := Lib.hid hx
  have HS := Lib.hid hS
  have HC := Lib.hid C
  have HR := Lib.hid (And.intro R (And.intro hv (And.intro hn0 hnI)))
  clear hS h0 hx hsz1 C R hv hn0 hnI hfit
  go_wp2_with fail
  refine (number_no HR.out.1.rd HP.out).mono ?_
  rintro e w4 ⟨he, t4⟩
  unfold faultOf at he
  subst he
  have HT4 := Lib.hid t4
  clear t4
  go_wp2
  exact ⟨rfl, vp_err HH.out rfl (HC.out.turn.trans (Turn.of_below HT4.out))⟩

set_option maxRecDepth 100000 in
set_option maxHeartbeats 2000000 in
theorem value_d_yes {w wc : World} {q B H0 I : Nat} {V : Value} {t : Bytes} {l : List Val} {n : Nat} {name : Bytes} {parent : Int} {r : Res} {c : UInt8} (h48 : 48 ≤ c.toNat) (h57 : c.toNat ≤ 57) (hp : intM (numTok (c :: t)) = true) (hr : r = .ok (numRest (c :: t), l ++ [⟨parent, 3, name, numTok (c :: t)⟩]))
    (C : VCut w q B H0 I V (c :: t) l ⟨parent, 0, name, []⟩ n wc) {u4 u5 u7 u8 u9 u10 u11 u12 u13 u14 u15 u16 u17 u18 u19 u20 u21 u22 u23 u24 u25 u26 u27 u28 u29 u30 u31 u32 u33 u34 u35 u36 u37 u38 u39 u40 u41 u42 u43 u44 u45 u46 u47 u48 u49 u50 u51 u52 u53 u54 u55 u56 u57 u58 u59 u60 u61 u62 u63 u64 u65 u66 u67 u68 u69 u70 u71 u72 u73 u74 u75 u76 u77 u78 u79 u80 u81 u82 u83 u84 u85 u86 u87 u88 u89 u90 u91 u92 u93 u94 u95 u96 u97 u98 u99 u100 u101 u102 u103 u104 u105 u106 u107 u108 u109 u110 u111 u112 u113 u114 u115 u116 u117 u118 u119 u120 u121 u122 u123 u124 u125 u126 u127 u128 u129 u130 u131 u132 u133 u134 u135 u136 u137 u138 u139 u140 u141 u142 u143 u144 u145 u146 u147 u148 u149 u150 : Value} :
    Code.wp Tryz.prog valueTail (bodyPost Tryz.prog Tryz.f76 (VPost w q B V n r)) ⟨#[.pointer (some ⟨q, 0, none⟩), .string (str name), .int .i64 parent, .pointer (some ⟨H0, 0, none⟩), u4, u5, .pointer (some ⟨I, 0, none⟩), u7, u8, u9, u10, u11, u12, u13, u14, u15, u16, u17, u18, u19, u20, u21, u22, u23, u24, u25, u26, u27, u28, u29, u30, u31, u32, u33, u34, u35, u36, u37, u38, u39, u40, u41, u42, u43, u44, u45, u46, u47, u48, u49, u50, u51, u52, u53, u54, u55, u56, u57, u58, u59, u60, u61, u62, u63, u64, u65, u66, u67, u68, u69, u70, u71, u72, u73, u74, u75, u76, u77, u78, u79, u80, u81, u82, u83, u84, u85, u86, u87, u88, u89, u90, u91, u92, u93, u94, u95, u96, u97, u98, u99, u100, u101, u102, u103, u104, u105, u106, u107, u108, u109, u110, u111, u112, u113, u114, u115, u116, u117, u118, u119, u120, u121, u122, u123, u124, u125, u126, u127, u128, u129, u130, u131, u132, u133, u134, u135, u136, u137, u138, u139, u140, u141, u142, u143, u144, u145, u146, u147, u148, u149, u150], []⟩ wc := by
  conv => arg 2; whnf
  have HH := Lib.hid hr
  have HP := Lib.hid hp
  clear hr hp
  have e1 : ((c.toNat : Int) == 110) = false := by rw [beq_eq_false_iff_ne]; omega
  have e2 : ((c.toNat : Int) == 102) = false := by rw [beq_eq_false_iff_ne]; omega
  have e3 : ((c.toNat : Int) == 116) = false := by rw [beq_eq_false_iff_ne]; omega
  have e4 : ((c.toNat : Int) == 34) = false := by rw [beq_eq_false_iff_ne]; omega
  have e5 : ((c.toNat : Int) == 45) = false := by rw [beq_eq_false_iff_ne]; omega
  have e6 : decide ((48 : Int) ≤ (c.toNat : Int)) = true := by simp; omega
  have e7 : decide ((c.toNat : Int) ≤ 57) = true := by simp; omega
  obtain ⟨V', R, hv, hn0, hnI⟩ := C.rs
  obtain ⟨hE, hsz1, h0, hx⟩ := cons_facts c t
  have c0 := R.rd.c0
  have f0 := R.rd.f 0
  have g0 := (cells_of C.b0 0).1
  have g1 := (cells_of C.b1 0).1
  have hfit := R.rd.fits
  obtain ⟨S, hS⟩ : ∃ S, str (c :: t) = S := ⟨_, rfl⟩
  rw [hS] at c0 hE hsz1 h0 hx
  have hz0 : 0 < S.size := by omega
  have h00 := h0 hz0
  have hS1 : (1 : Int) ≤ (S.size : Int) := by omega
  have HX := Lib.hid hx
  have HS := Lib.hid hS
  have HC := Lib.hid C
  have HR := Lib.hid (And.intro R (And.intro hv (And.intro hn0 hnI)))
  clear hS h0 hx hsz1 C R hv hn0 hnI hfit
  go_wp2_with fail
  refine (number_any HR.out.1.rd HP.out).mono ?_
  rintro e w4 ⟨rfl, r4, t4⟩
  have HR4 := Lib.hid (HC.out.keep HR.out.1 HR.out.2.1 HR.out.2.2.1 HR.out.2.2.2 r4 t4)
  have HT4 := Lib.hid t4
  clear r4 t4
  have g0' := HR4.out.2.2.2.1
  have g1' := HR4.out.2.2.2.2
  clear g0 g1
  go_wp2_with fail
  refine (place_any HR4.out.1 g0' g1').mono ?_
  rintro e w5 ⟨⟨g, hg, rfl⟩, k, rfl⟩
  go_wp2_with fail
  refine (place_any (HR4.out.1.drewN k) g0' g1').mono ?_
  rintro e w6 ⟨⟨g2, hg2, rfl⟩, k2, rfl⟩
  obtain ⟨G, cap, hV', hBg, hgs, hcap, hc4, hset⟩ := HR4.out.1.own.snoc
  subst hV'
  simp only [Value.ownBlock, Option.some.injEq] at hg hg2
  subst hg
  subst hg2
  have k1 := (hc4 1 (by omega)).1
  have k2' := (hc4 1 (by omega)).2
  have k3 := (hc4 3 (by omega)).1
  have k4 := (hc4 3 (by omega)).2
  have HSet := Lib.hid (HR4.out.1.own.set2 (v := ⟨parent, 0, name, []⟩) (i := 1) (j := 3) (x := .int .u8 3) (y := .string (str (numTok (c :: t)))) (v' := ⟨parent, 3, name, []⟩) (v'' := ⟨parent, 3, name, (numTok (c :: t))⟩) (by omega) (by omega) rfl rfl)
  clear hc4 hset
  simp only [Val.cells, List.getElem?_cons_succ, List.getElem?_cons_zero] at k1 k3
  go_wp2
  refine bodyPost_end (v := .tuple #[]) (by simp [results, Tryz.results76]) rfl ?_
  exact vp_set2 HH.out HR4.out.1 HSet.out hBg HR4.out.2.1 (HC.out.turn.trans (HT4.out.mono (fun k _ e => .inl e)))

set_option maxRecDepth 100000 in
set_option maxHeartbeats 2000000 in
theorem value_else_lo {w wc : World} {q B H0 I : Nat} {V : Value} {t : Bytes} {l : List Val} {n : Nat} {name : Bytes} {parent : Int} {r : Res} {c : UInt8} (hx1 : c.toNat < 48) (hne : c.toNat ≠ 110 ∧ c.toNat ≠ 102 ∧ c.toNat ≠ 116 ∧ c.toNat ≠ 34 ∧ c.toNat ≠ 45 ∧ c.toNat ≠ 91 ∧ c.toNat ≠ 123) (hr : r = .error 4)
    (C : VCut w q B H0 I V (c :: t) l ⟨parent, 0, name, []⟩ n wc) {u4 u5 u7 u8 u9 u10 u11 u12 u13 u14 u15 u16 u17 u18 u19 u20 u21 u22 u23 u24 u25 u26 u27 u28 u29 u30 u31 u32 u33 u34 u35 u36 u37 u38 u39 u40 u41 u42 u43 u44 u45 u46 u47 u48 u49 u50 u51 u52 u53 u54 u55 u56 u57 u58 u59 u60 u61 u62 u63 u64 u65 u66 u67 u68 u69 u70 u71 u72 u73 u74 u75 u76 u77 u78 u79 u80 u81 u82 u83 u84 u85 u86 u87 u88 u89 u90 u91 u92 u93 u94 u95 u96 u97 u98 u99 u100 u101 u102 u103 u104 u105 u106 u107 u108 u109 u110 u111 u112 u113 u114 u115 u116 u117 u118 u119 u120 u121 u122 u123 u124 u125 u126 u127 u128 u129 u130 u131 u132 u133 u134 u135 u136 u137 u138 u139 u140 u141 u142 u143 u144 u145 u146 u147 u148 u149 u150 : Value} :
    Code.wp Tryz.prog valueTail (bodyPost Tryz.prog Tryz.f76 (VPost w q B V n r)) ⟨#[.pointer (some ⟨q, 0, none⟩), .string (str name), .int .i64 parent, .pointer (some ⟨H0, 0, none⟩), u4, u5, .pointer (some ⟨I, 0, none⟩), u7, u8, u9, u10, u11, u12, u13, u14, u15, u16, u17, u18, u19, u20, u21, u22, u23, u24, u25, u26, u27, u28, u29, u30, u31, u32, u33, u34, u35, u36, u37, u38, u39, u40, u41, u42, u43, u44, u45, u46, u47, u48, u49, u50, u51, u52, u53, u54, u55, u56, u57, u58, u59, u60, u61, u62, u63, u64, u65, u66, u67, u68, u69, u70, u71, u72, u73, u74, u75, u76, u77, u78, u79, u80, u81, u82, u83, u84, u85, u86, u87, u88, u89, u90, u91, u92, u93, u94, u95, u96, u97, u98, u99, u100, u101, u102, u103, u104, u105, u106, u107, u108, u109, u110, u111, u112, u113, u114, u115, u116, u117, u118, u119, u120, u121, u122, u123, u124, u125, u126, u127, u128, u129, u130, u131, u132, u133, u134, u135, u136, u137, u138, u139, u140, u141, u142, u143, u144, u145, u146, u147, u148, u149, u150], []⟩ wc := by
  conv => arg 2; whnf
  have HH := Lib.hid hr
  clear hr
  have e0 : ((c.toNat : Int) == 110) = false := by rw [beq_eq_false_iff_ne]; omega
  have e1 : ((c.toNat : Int) == 102) = false := by rw [beq_eq_false_iff_ne]; omega
  have e2 : ((c.toNat : Int) == 116) = false := by rw [beq_eq_false_iff_ne]; omega
  have e3 : ((c.toNat : Int) == 34) = false := by rw [beq_eq_false_iff_ne]; omega
  have e4 : ((c.toNat : Int) == 45) = false := by rw [beq_eq_false_iff_ne]; omega
  have e5 : ((c.toNat : Int) == 91) = false := by rw [beq_eq_false_iff_ne]; omega
  have e6 : ((c.toNat : Int) == 123) = false := by rw [beq_eq_false_iff_ne]; omega
  have e8 : decide ((48 : Int) ≤ (c.toNat : Int)) = false := by simp; omega
  clear hne hx1
  obtain ⟨V', R, hv, hn0, hnI⟩ := C.rs
  obtain ⟨hE, hsz1, h0, hx⟩ := cons_facts c t
  have c0 := R.rd.c0
  have f0 := R.rd.f 0
  have g0 := (cells_of C.b0 0).1
  have g1 := (cells_of C.b1 0).1
  have hfit := R.rd.fits
  obtain ⟨S, hS⟩ : ∃ S, str (c :: t) = S := ⟨_, rfl⟩
  rw [hS] at c0 hE hsz1 h0 hx
  have hz0 : 0 < S.size := by omega
  have h00 := h0 hz0
  have hS1 : (1 : Int) ≤ (S.size : Int) := by omega
  have HX := Lib.hid hx
  have HS := Lib.hid hS
  have HC := Lib.hid C
  have HR := Lib.hid (And.intro R (And.intro hv (And.intro hn0 hnI)))
  clear hS h0 hx hsz1 C R hv hn0 hnI hfit
  go_wp2_with fail
  refine (need_no 4 _).mono ?_
  rintro e w4 ⟨rfl, rfl⟩
  go_wp2
  exact ⟨rfl, vp_err HH.out rfl HC.out.turn⟩

set_option maxRecDepth 100000 in
set_option maxHeartbeats 2000000 in
theorem value_else_hi {w wc : World} {q B H0 I : Nat} {V : Value} {t : Bytes} {l : List Val} {n : Nat} {name : Bytes} {parent : Int} {r : Res} {c : UInt8} (hx1 : 57 < c.toNat) (hne : c.toNat ≠ 110 ∧ c.toNat ≠ 102 ∧ c.toNat ≠ 116 ∧ c.toNat ≠ 34 ∧ c.toNat ≠ 45 ∧ c.toNat ≠ 91 ∧ c.toNat ≠ 123) (hr : r = .error 4)
    (C : VCut w q B H0 I V (c :: t) l ⟨parent, 0, name, []⟩ n wc) {u4 u5 u7 u8 u9 u10 u11 u12 u13 u14 u15 u16 u17 u18 u19 u20 u21 u22 u23 u24 u25 u26 u27 u28 u29 u30 u31 u32 u33 u34 u35 u36 u37 u38 u39 u40 u41 u42 u43 u44 u45 u46 u47 u48 u49 u50 u51 u52 u53 u54 u55 u56 u57 u58 u59 u60 u61 u62 u63 u64 u65 u66 u67 u68 u69 u70 u71 u72 u73 u74 u75 u76 u77 u78 u79 u80 u81 u82 u83 u84 u85 u86 u87 u88 u89 u90 u91 u92 u93 u94 u95 u96 u97 u98 u99 u100 u101 u102 u103 u104 u105 u106 u107 u108 u109 u110 u111 u112 u113 u114 u115 u116 u117 u118 u119 u120 u121 u122 u123 u124 u125 u126 u127 u128 u129 u130 u131 u132 u133 u134 u135 u136 u137 u138 u139 u140 u141 u142 u143 u144 u145 u146 u147 u148 u149 u150 : Value} :
    Code.wp Tryz.prog valueTail (bodyPost Tryz.prog Tryz.f76 (VPost w q B V n r)) ⟨#[.pointer (some ⟨q, 0, none⟩), .string (str name), .int .i64 parent, .pointer (some ⟨H0, 0, none⟩), u4, u5, .pointer (some ⟨I, 0, none⟩), u7, u8, u9, u10, u11, u12, u13, u14, u15, u16, u17, u18, u19, u20, u21, u22, u23, u24, u25, u26, u27, u28, u29, u30, u31, u32, u33, u34, u35, u36, u37, u38, u39, u40, u41, u42, u43, u44, u45, u46, u47, u48, u49, u50, u51, u52, u53, u54, u55, u56, u57, u58, u59, u60, u61, u62, u63, u64, u65, u66, u67, u68, u69, u70, u71, u72, u73, u74, u75, u76, u77, u78, u79, u80, u81, u82, u83, u84, u85, u86, u87, u88, u89, u90, u91, u92, u93, u94, u95, u96, u97, u98, u99, u100, u101, u102, u103, u104, u105, u106, u107, u108, u109, u110, u111, u112, u113, u114, u115, u116, u117, u118, u119, u120, u121, u122, u123, u124, u125, u126, u127, u128, u129, u130, u131, u132, u133, u134, u135, u136, u137, u138, u139, u140, u141, u142, u143, u144, u145, u146, u147, u148, u149, u150], []⟩ wc := by
  conv => arg 2; whnf
  have HH := Lib.hid hr
  clear hr
  have e0 : ((c.toNat : Int) == 110) = false := by rw [beq_eq_false_iff_ne]; omega
  have e1 : ((c.toNat : Int) == 102) = false := by rw [beq_eq_false_iff_ne]; omega
  have e2 : ((c.toNat : Int) == 116) = false := by rw [beq_eq_false_iff_ne]; omega
  have e3 : ((c.toNat : Int) == 34) = false := by rw [beq_eq_false_iff_ne]; omega
  have e4 : ((c.toNat : Int) == 45) = false := by rw [beq_eq_false_iff_ne]; omega
  have e5 : ((c.toNat : Int) == 91) = false := by rw [beq_eq_false_iff_ne]; omega
  have e6 : ((c.toNat : Int) == 123) = false := by rw [beq_eq_false_iff_ne]; omega
  have e8 : decide ((c.toNat : Int) ≤ 57) = false := by simp; omega
  have e9 : decide ((48 : Int) ≤ (c.toNat : Int)) = true := by simp; omega
  clear hne hx1
  obtain ⟨V', R, hv, hn0, hnI⟩ := C.rs
  obtain ⟨hE, hsz1, h0, hx⟩ := cons_facts c t
  have c0 := R.rd.c0
  have f0 := R.rd.f 0
  have g0 := (cells_of C.b0 0).1
  have g1 := (cells_of C.b1 0).1
  have hfit := R.rd.fits
  obtain ⟨S, hS⟩ : ∃ S, str (c :: t) = S := ⟨_, rfl⟩
  rw [hS] at c0 hE hsz1 h0 hx
  have hz0 : 0 < S.size := by omega
  have h00 := h0 hz0
  have hS1 : (1 : Int) ≤ (S.size : Int) := by omega
  have HX := Lib.hid hx
  have HS := Lib.hid hS
  have HC := Lib.hid C
  have HR := Lib.hid (And.intro R (And.intro hv (And.intro hn0 hnI)))
  clear hS h0 hx hsz1 C R hv hn0 hnI hfit
  go_wp2_with fail
  refine (need_no 4 _).mono ?_
  rintro e w4 ⟨rfl, rfl⟩
  go_wp2
  exact ⟨rfl, vp_err HH.out rfl HC.out.turn⟩

set_option maxRecDepth 100000 in
set_option maxHeartbeats 2000000 in
theorem value_arr {w wc : World} {q B H0 I : Nat} {V : Value} {t : Bytes} {l : List Val} {n : Nat} {name : Bytes} {parent : Int} {r : Res} {f : Nat} (hm : Hid (ManyHyp f)) (hB : B ≤ w.heap.size) (hs : t.length < 65536) (hf : 3 * t.length + 2 < f) (hn : n < 16) (hr : r = manyM f t (l ++ [⟨parent, 5, name, []⟩]) n l.length 93)
    (C : VCut w q B H0 I V (91 :: t) l ⟨parent, 0, name, []⟩ n wc) {u4 u5 u7 u8 u9 u10 u11 u12 u13 u14 u15 u16 u17 u18 u19 u20 u21 u22 u23 u24 u25 u26 u27 u28 u29 u30 u31 u32 u33 u34 u35 u36 u37 u38 u39 u40 u41 u42 u43 u44 u45 u46 u47 u48 u49 u50 u51 u52 u53 u54 u55 u56 u57 u58 u59 u60 u61 u62 u63 u64 u65 u66 u67 u68 u69 u70 u71 u72 u73 u74 u75 u76 u77 u78 u79 u80 u81 u82 u83 u84 u85 u86 u87 u88 u89 u90 u91 u92 u93 u94 u95 u96 u97 u98 u99 u100 u101 u102 u103 u104 u105 u106 u107 u108 u109 u110 u111 u112 u113 u114 u115 u116 u117 u118 u119 u120 u121 u122 u123 u124 u125 u126 u127 u128 u129 u130 u131 u132 u133 u134 u135 u136 u137 u138 u139 u140 u141 u142 u143 u144 u145 u146 u147 u148 u149 u150 : Value} :
    Code.wp Tryz.prog valueTail (bodyPost Tryz.prog Tryz.f76 (VPost w q B V n r)) ⟨#[.pointer (some ⟨q, 0, none⟩), .string (str name), .int .i64 parent, .pointer (some ⟨H0, 0, none⟩), u4, u5, .pointer (some ⟨I, 0, none⟩), u7, u8, u9, u10, u11, u12, u13, u14, u15, u16, u17, u18, u19, u20, u21, u22, u23, u24, u25, u26, u27, u28, u29, u30, u31, u32, u33, u34, u35, u36, u37, u38, u39, u40, u41, u42, u43, u44, u45, u46, u47, u48, u49, u50, u51, u52, u53, u54, u55, u56, u57, u58, u59, u60, u61, u62, u63, u64, u65, u66, u67, u68, u69, u70, u71, u72, u73, u74, u75, u76, u77, u78, u79, u80, u81, u82, u83, u84, u85, u86, u87, u88, u89, u90, u91, u92, u93, u94, u95, u96, u97, u98, u99, u100, u101, u102, u103, u104, u105, u106, u107, u108, u109, u110, u111, u112, u113, u114, u115, u116, u117, u118, u119, u120, u121, u122, u123, u124, u125, u126, u127, u128, u129, u130, u131, u132, u133, u134, u135, u136, u137, u138, u139, u140, u141, u142, u143, u144, u145, u146, u147, u148, u149, u150], []⟩ wc := by
  conv => arg 2; whnf
  have HH := Lib.hid hr
  clear hr
  obtain ⟨V', R, hv, hn0, hnI⟩ := C.rs
  obtain ⟨hE, hsz1, h0, hx⟩ := cons_facts 91 t
  have c0 := R.rd.c0
  have f0 := R.rd.f 0
  have g0 := (cells_of C.b0 0).1
  have g1 := (cells_of C.b1 0).1
  have hfit := R.rd.fits
  obtain ⟨S, hS⟩ : ∃ S, str (91 :: t) = S := ⟨_, rfl⟩
  rw [hS] at c0 hE hsz1 h0 hx
  have hz0 : 0 < S.size := by omega
  have h00 := h0 hz0
  have hS1 : (1 : Int) ≤ (S.size : Int) := by omega
  have HX := Lib.hid hx
  have HS := Lib.hid hS
  have HC := Lib.hid C
  have HR := Lib.hid (And.intro R (And.intro hv (And.intro hn0 hnI)))
  clear hS h0 hx hsz1 C R hv hn0 hnI hfit
  go_wp2_with fail
  refine (place_any HR.out.1 g0 g1).mono ?_
  rintro e w5 ⟨⟨g, hg, rfl⟩, k, rfl⟩
  have R5 := HR.out.1.drewN k
  have b0 : (wc.drewN k).heap[H0]? = some (.cells #[.pointer (some ⟨q, 0, none⟩)] 127) := HC.out.b0
  have b1 : (wc.drewN k).heap[I]? = some (.cells #[.int .i64 l.length] 3) := HC.out.b1
  have T5 := HC.out.turn.trans (turn_drewN _ _ k)
  have tb5 := HC.out.tabs.turn (turn_drewN (fun _ => False) _ k) (by simp) (by simp) (by simp)
  have hz5 : w.heap.size ≤ (wc.drewN k).heap.size := T5.size
  obtain ⟨w5, hw5⟩ : ∃ w5, wc.drewN k = w5 := ⟨_, rfl⟩
  rw [hw5] at R5 b0 b1 T5 tb5 hz5 ⊢
  clear hw5
  obtain ⟨G, cap, hV', hBg, hgs, hcap, hc4, hset⟩ := R5.own.snoc
  subst hV'
  simp only [Value.ownBlock, Option.some.injEq] at hg
  subst hg
  have k1 := (hc4 1 (by omega)).1
  have k2 := (hc4 1 (by omega)).2
  have hset := hset 1 (.int .u8 5) ⟨parent, 5, name, []⟩ (by omega) rfl
  simp only [Val.cells, List.getElem?_cons_succ, List.getElem?_cons_zero] at k1
  clear hc4
  have hq := R5.hq
  have hG : (G = q ∨ V.ownBlock = some G) ∨ w.heap.size ≤ G := by
    rcases HR.out.2.1 with h | ⟨g, h, hg⟩
    · left; right; rw [← h]; rfl
    · right; simp only [Value.ownBlock, Option.some.injEq] at h; omega
  have hGH : G ≠ H0 := by have := HR.out.2.2.1; simpa [Value.ownBlock] using this
  have hGI : G ≠ I := by have := HR.out.2.2.2; simpa [Value.ownBlock] using this
  have R6 : Rs (w5.setCell ⟨G, l.length * 4 + 1, none⟩ (.int .u8 5)) q B (91 :: t) (.slice (some ⟨G, 0, none⟩) (l.length + 1) cap) (l ++ [⟨parent, 5, name, []⟩]) n :=
    ⟨⟨(Below.heap_setCell _ _ _ _ (by show q ≠ G; omega)).trans R5.rd.row, R5.rd.fits⟩, hset, hq, by have := R5.few; simpa using this⟩
  have b06 : (w5.setCell ⟨G, l.length * 4 + 1, none⟩ (.int .u8 5)).heap[H0]? = some (.cells #[.pointer (some ⟨q, 0, none⟩)] 127) := (Below.heap_setCell _ _ _ _ (by exact fun e => hGH e.symm)).trans b0
  have b16 : (w5.setCell ⟨G, l.length * 4 + 1, none⟩ (.int .u8 5)).heap[I]? = some (.cells #[.int .i64 l.length] 3) := (Below.heap_setCell _ _ _ _ (by exact fun e => hGI e.symm)).trans b1
  have T6 := T5.setNew G (l.length * 4 + 1) (.int .u8 5) hG
  have tb6 := tb5.turn (turn_set w5 G (l.length * 4 + 1) (.int .u8 5) (fun k => k = G) rfl) (by have h := tb5.ne R5.rd; show ¬ (0 = G); omega) (by have h := tb5.ne R5.rd; show ¬ (1 = G); omega) (by have h := tb5.ne R5.rd; show ¬ (2 = G); omega)
  have H5 := Lib.hid (And.intro R6 (And.intro b06 (And.intro b16 (And.intro T6 tb6))))
  clear R5 b0 b1 T5 tb5 hz5 hset R6 b06 b16 T6 tb6 g0 g1 c0 f0
  go_wp2_with fail
  obtain ⟨w6, hw6⟩ : ∃ w6, w5.setCell ⟨G, l.length * 4 + 1, none⟩ (.int .u8 5) = w6 := ⟨_, rfl⟩
  rw [hw6] at H5 ⊢
  clear hw6 k1 k2
  have c0 := H5.out.1.rd.c0
  have f0 := H5.out.1.rd.f 0
  rw [HS.out] at c0
  have g0 := (cells_of H5.out.2.1 0).1
  have hne0 : H0 ≠ q := by
    rintro rfl
    have e := H5.out.1.rd.row; rw [H5.out.2.1] at e; simp at e
  have hneI : I ≠ q := by
    rintro rfl
    have e := H5.out.1.rd.row; rw [H5.out.2.2.1] at e; simp at e
  go_region
  all_goals
    rw [HX.out]
    have r7 := H5.out.1.rd.set (s' := t) (by have := H5.out.1.rd.fits; simp at this; omega)
    have R7 : Rs (w6.setCell ⟨q, 0, none⟩ (.string (str t))).drew q B t (.slice (some ⟨G, 0, none⟩) (l.length + 1) cap) (l ++ [⟨parent, 5, name, []⟩]) n := (H5.out.1.turn r7 (turn_set _ _ _ _ _ rfl)).drewN 1
    have tb7 : Tabs (w6.setCell ⟨q, 0, none⟩ (.string (str t))).drew := H5.out.2.2.2.2.turn (S := fun k => k = q) ((turn_set w6 q 0 (.string (str t)) (fun k => k = q) rfl).trans (turn_drewN _ _ 1)) (by have h := H5.out.2.2.2.2.ne H5.out.1.rd; exact fun e => h.1 (Eq.symm e)) (by have h := H5.out.2.2.2.2.ne H5.out.1.rd; exact fun e => h.2.1 (Eq.symm e)) (by have h := H5.out.2.2.2.2.ne H5.out.1.rd; exact fun e => h.2.2 (Eq.symm e))
    have T7 : Turn (fun k => k = q ∨ V.ownBlock = some k) w (w6.setCell ⟨q, 0, none⟩ (.string (str t))).drew := (H5.out.2.2.2.1.setNew q 0 (.string (str t)) (.inl (.inl rfl))).trans (turn_drewN _ _ 1)
    have g07 : (w6.setCell ⟨q, 0, none⟩ (.string (str t))).drew.cell? ⟨H0, 0, none⟩ = some (.pointer (some ⟨q, 0, none⟩)) := (World.cell?_of_block (a := ⟨H0, 0, none⟩) (w := w6) (w' := (w6.setCell ⟨q, 0, none⟩ (.string (str t)))) (Below.heap_setCell _ _ _ _ hne0)).trans g0
    have g17 : (w6.setCell ⟨q, 0, none⟩ (.string (str t))).drew.cell? ⟨I, 0, none⟩ = some (.int .i64 l.length) := (World.cell?_of_block (a := ⟨I, 0, none⟩) (w := w6) (w' := (w6.setCell ⟨q, 0, none⟩ (.string (str t)))) (Below.heap_setCell _ _ _ _ hneI)).trans (cells_of H5.out.2.2.1 0).1
    have hB7 : B ≤ (w6.setCell ⟨q, 0, none⟩ (.string (str t))).drew.heap.size := by have := T7.size; omega
    obtain ⟨w7, hw7⟩ : ∃ w7, (w6.setCell ⟨q, 0, none⟩ (.string (str t))).drew = w7 := ⟨_, rfl⟩
    rw [hw7] at R7 tb7 T7 g07 g17 hB7 ⊢
    clear hw7 r7 c0 f0 g0
    have H7 := Lib.hid (And.intro R7 (And.intro tb7 T7))
    clear R7 tb7 T7
    go_wp2_with fail
    refine (hm.out w7 q B t _ _ n l.length 93 (by decide) H7.out.1 H7.out.2.1 hB7 (by omega) hf (by simp) hn).mono ?_
    rintro e w8 hp
    rw [← HH.out] at hp
    have HP : Hid (VPost w q B V n r e w8) := Lib.hid (vp_trans rfl H7.out.2.2 HR.out.2.1 hp)
    clear hp
    have hend : (∃ m, e = faultOf m) ∨ e = .returned (.tuple #[]) := by
      have h := HP.out
      cases r with
      | ok x => exact .inr h.1
      | error m => exact .inl ⟨m, h.1⟩
    rcases hend with ⟨m, he⟩ | he
    · unfold faultOf at he
      subst he
      go_wp2
      exact ⟨rfl, HP.out⟩
    · subst he
      go_wp2
      exact bodyPost_end (v := .tuple #[]) (by simp [results, Tryz.results76]) rfl HP.out

set_option maxRecDepth 100000 in
set_option maxHeartbeats 2000000 in
theorem value_obj {w wc : World} {q B H0 I : Nat} {V : Value} {t : Bytes} {l : List Val} {n : Nat} {name : Bytes} {parent : Int} {r : Res} {f : Nat} (hm : Hid (ManyHyp f)) (hB : B ≤ w.heap.size) (hs : t.length < 65536) (hf : 3 * t.length + 2 < f) (hn : n < 16) (hr : r = manyM f t (l ++ [⟨parent, 6, name, []⟩]) n l.length 125)
    (C : VCut w q B H0 I V (123 :: t) l ⟨parent, 0, name, []⟩ n wc) {u4 u5 u7 u8 u9 u10 u11 u12 u13 u14 u15 u16 u17 u18 u19 u20 u21 u22 u23 u24 u25 u26 u27 u28 u29 u30 u31 u32 u33 u34 u35 u36 u37 u38 u39 u40 u41 u42 u43 u44 u45 u46 u47 u48 u49 u50 u51 u52 u53 u54 u55 u56 u57 u58 u59 u60 u61 u62 u63 u64 u65 u66 u67 u68 u69 u70 u71 u72 u73 u74 u75 u76 u77 u78 u79 u80 u81 u82 u83 u84 u85 u86 u87 u88 u89 u90 u91 u92 u93 u94 u95 u96 u97 u98 u99 u100 u101 u102 u103 u104 u105 u106 u107 u108 u109 u110 u111 u112 u113 u114 u115 u116 u117 u118 u119 u120 u121 u122 u123 u124 u125 u126 u127 u128 u129 u130 u131 u132 u133 u134 u135 u136 u137 u138 u139 u140 u141 u142 u143 u144 u145 u146 u147 u148 u149 u150 : Value} :
    Code.wp Tryz.prog valueTail (bodyPost Tryz.prog Tryz.f76 (VPost w q B V n r)) ⟨#[.pointer (some ⟨q, 0, none⟩), .string (str name), .int .i64 parent, .pointer (some ⟨H0, 0, none⟩), u4, u5, .pointer (some ⟨I, 0, none⟩), u7, u8, u9, u10, u11, u12, u13, u14, u15, u16, u17, u18, u19, u20, u21, u22, u23, u24, u25, u26, u27, u28, u29, u30, u31, u32, u33, u34, u35, u36, u37, u38, u39, u40, u41, u42, u43, u44, u45, u46, u47, u48, u49, u50, u51, u52, u53, u54, u55, u56, u57, u58, u59, u60, u61, u62, u63, u64, u65, u66, u67, u68, u69, u70, u71, u72, u73, u74, u75, u76, u77, u78, u79, u80, u81, u82, u83, u84, u85, u86, u87, u88, u89, u90, u91, u92, u93, u94, u95, u96, u97, u98, u99, u100, u101, u102, u103, u104, u105, u106, u107, u108, u109, u110, u111, u112, u113, u114, u115, u116, u117, u118, u119, u120, u121, u122, u123, u124, u125, u126, u127, u128, u129, u130, u131, u132, u133, u134, u135, u136, u137, u138, u139, u140, u141, u142, u143, u144, u145, u146, u147, u148, u149, u150], []⟩ wc := by
  conv => arg 2; whnf
  have HH := Lib.hid hr
  clear hr
  obtain ⟨V', R, hv, hn0, hnI⟩ := C.rs
  obtain ⟨hE, hsz1, h0, hx⟩ := cons_facts 123 t
  have c0 := R.rd.c0
  have f0 := R.rd.f 0
  have g0 := (cells_of C.b0 0).1
  have g1 := (cells_of C.b1 0).1
  have hfit := R.rd.fits
  obtain ⟨S, hS⟩ : ∃ S, str (123 :: t) = S := ⟨_, rfl⟩
  rw [hS] at c0 hE hsz1 h0 hx
  have hz0 : 0 < S.size := by omega
  have h00 := h0 hz0
  have hS1 : (1 : Int) ≤ (S.size : Int) := by omega
  have HX := Lib.hid hx
  have HS := Lib.hid hS
  have HC := Lib.hid C
  have HR := Lib.hid (And.intro R (And.intro hv (And.intro hn0 hnI)))
  clear hS h0 hx hsz1 C R hv hn0 hnI hfit
  go_wp2_with fail
  refine (place_any HR.out.1 g0 g1).mono ?_
  rintro e w5 ⟨⟨g, hg, rfl⟩, k, rfl⟩
  have R5 := HR.out.1.drewN k
  have b0 : (wc.drewN k).heap[H0]? = some (.cells #[.pointer (some ⟨q, 0, none⟩)] 127) := HC.out.b0
  have b1 : (wc.drewN k).heap[I]? = some (.cells #[.int .i64 l.length] 3) := HC.out.b1
  have T5 := HC.out.turn.trans (turn_drewN _ _ k)
  have tb5 := HC.out.tabs.turn (turn_drewN (fun _ => False) _ k) (by simp) (by simp) (by simp)
  have hz5 : w.heap.size ≤ (wc.drewN k).heap.size := T5.size
  obtain ⟨w5, hw5⟩ : ∃ w5, wc.drewN k = w5 := ⟨_, rfl⟩
  rw [hw5] at R5 b0 b1 T5 tb5 hz5 ⊢
  clear hw5
  obtain ⟨G, cap, hV', hBg, hgs, hcap, hc4, hset⟩ := R5.own.snoc
  subst hV'
  simp only [Value.ownBlock, Option.some.injEq] at hg
  subst hg
  have k1 := (hc4 1 (by omega)).1
  have k2 := (hc4 1 (by omega)).2
  have hset := hset 1 (.int .u8 6) ⟨parent, 6, name, []⟩ (by omega) rfl
  simp only [Val.cells, List.getElem?_cons_succ, List.getElem?_cons_zero] at k1
  clear hc4
  have hq := R5.hq
  have hG : (G = q ∨ V.ownBlock = some G) ∨ w.heap.size ≤ G := by
    rcases HR.out.2.1 with h | ⟨g, h, hg⟩
    · left; right; rw [← h]; rfl
    · right; simp only [Value.ownBlock, Option.some.injEq] at h; omega
  have hGH : G ≠ H0 := by have := HR.out.2.2.1; simpa [Value.ownBlock] using this
  have hGI : G ≠ I := by have := HR.out.2.2.2; simpa [Value.ownBlock] using this
  have R6 : Rs (w5.setCell ⟨G, l.length * 4 + 1, none⟩ (.int .u8 6)) q B (123 :: t) (.slice (some ⟨G, 0, none⟩) (l.length + 1) cap) (l ++ [⟨parent, 6, name, []⟩]) n :=
    ⟨⟨(Below.heap_setCell _ _ _ _ (by show q ≠ G; omega)).trans R5.rd.row, R5.rd.fits⟩, hset, hq, by have := R5.few; simpa using this⟩
  have b06 : (w5.setCell ⟨G, l.length * 4 + 1, none⟩ (.int .u8 6)).heap[H0]? = some (.cells #[.pointer (some ⟨q, 0, none⟩)] 127) := (Below.heap_setCell _ _ _ _ (by exact fun e => hGH e.symm)).trans b0
  have b16 : (w5.setCell ⟨G, l.length * 4 + 1, none⟩ (.int .u8 6)).heap[I]? = some (.cells #[.int .i64 l.length] 3) := (Below.heap_setCell _ _ _ _ (by exact fun e => hGI e.symm)).trans b1
  have T6 := T5.setNew G (l.length * 4 + 1) (.int .u8 6) hG
  have tb6 := tb5.turn (turn_set w5 G (l.length * 4 + 1) (.int .u8 6) (fun k => k = G) rfl) (by have h := tb5.ne R5.rd; show ¬ (0 = G); omega) (by have h := tb5.ne R5.rd; show ¬ (1 = G); omega) (by have h := tb5.ne R5.rd; show ¬ (2 = G); omega)
  have H5 := Lib.hid (And.intro R6 (And.intro b06 (And.intro b16 (And.intro T6 tb6))))
  clear R5 b0 b1 T5 tb5 hz5 hset R6 b06 b16 T6 tb6 g0 g1 c0 f0
  go_wp2_with fail
  obtain ⟨w6, hw6⟩ : ∃ w6, w5.setCell ⟨G, l.length * 4 + 1, none⟩ (.int .u8 6) = w6 := ⟨_, rfl⟩
  rw [hw6] at H5 ⊢
  clear hw6 k1 k2
  have c0 := H5.out.1.rd.c0
  have f0 := H5.out.1.rd.f 0
  rw [HS.out] at c0
  have g0 := (cells_of H5.out.2.1 0).1
  have hne0 : H0 ≠ q := by
    rintro rfl
    have e := H5.out.1.rd.row; rw [H5.out.2.1] at e; simp at e
  have hneI : I ≠ q := by
    rintro rfl
    have e := H5.out.1.rd.row; rw [H5.out.2.2.1] at e; simp at e
  go_region
  all_goals
    rw [HX.out]
    have r7 := H5.out.1.rd.set (s' := t) (by have := H5.out.1.rd.fits; simp at this; omega)
    have R7 : Rs (w6.setCell ⟨q, 0, none⟩ (.string (str t))).drew q B t (.slice (some ⟨G, 0, none⟩) (l.length + 1) cap) (l ++ [⟨parent, 6, name, []⟩]) n := (H5.out.1.turn r7 (turn_set _ _ _ _ _ rfl)).drewN 1
    have tb7 : Tabs (w6.setCell ⟨q, 0, none⟩ (.string (str t))).drew := H5.out.2.2.2.2.turn (S := fun k => k = q) ((turn_set w6 q 0 (.string (str t)) (fun k => k = q) rfl).trans (turn_drewN _ _ 1)) (by have h := H5.out.2.2.2.2.ne H5.out.1.rd; exact fun e => h.1 (Eq.symm e)) (by have h := H5.out.2.2.2.2.ne H5.out.1.rd; exact fun e => h.2.1 (Eq.symm e)) (by have h := H5.out.2.2.2.2.ne H5.out.1.rd; exact fun e => h.2.2 (Eq.symm e))
    have T7 : Turn (fun k => k = q ∨ V.ownBlock = some k) w (w6.setCell ⟨q, 0, none⟩ (.string (str t))).drew := (H5.out.2.2.2.1.setNew q 0 (.string (str t)) (.inl (.inl rfl))).trans (turn_drewN _ _ 1)
    have g07 : (w6.setCell ⟨q, 0, none⟩ (.string (str t))).drew.cell? ⟨H0, 0, none⟩ = some (.pointer (some ⟨q, 0, none⟩)) := (World.cell?_of_block (a := ⟨H0, 0, none⟩) (w := w6) (w' := (w6.setCell ⟨q, 0, none⟩ (.string (str t)))) (Below.heap_setCell _ _ _ _ hne0)).trans g0
    have g17 : (w6.setCell ⟨q, 0, none⟩ (.string (str t))).drew.cell? ⟨I, 0, none⟩ = some (.int .i64 l.length) := (World.cell?_of_block (a := ⟨I, 0, none⟩) (w := w6) (w' := (w6.setCell ⟨q, 0, none⟩ (.string (str t)))) (Below.heap_setCell _ _ _ _ hneI)).trans (cells_of H5.out.2.2.1 0).1
    have hB7 : B ≤ (w6.setCell ⟨q, 0, none⟩ (.string (str t))).drew.heap.size := by have := T7.size; omega
    obtain ⟨w7, hw7⟩ : ∃ w7, (w6.setCell ⟨q, 0, none⟩ (.string (str t))).drew = w7 := ⟨_, rfl⟩
    rw [hw7] at R7 tb7 T7 g07 g17 hB7 ⊢
    clear hw7 r7 c0 f0 g0
    have H7 := Lib.hid (And.intro R7 (And.intro tb7 T7))
    clear R7 tb7 T7
    go_wp2_with fail
    refine (hm.out w7 q B t _ _ n l.length 125 (by decide) H7.out.1 H7.out.2.1 hB7 (by omega) hf (by simp) hn).mono ?_
    rintro e w8 hp
    rw [← HH.out] at hp
    have HP : Hid (VPost w q B V n r e w8) := Lib.hid (vp_trans rfl H7.out.2.2 HR.out.2.1 hp)
    clear hp
    have hend : (∃ m, e = faultOf m) ∨ e = .returned (.tuple #[]) := by
      have h := HP.out
      cases r with
      | ok x => exact .inr h.1
      | error m => exact .inl ⟨m, h.1⟩
    rcases hend with ⟨m, he⟩ | he
    · unfold faultOf at he
      subst he
      go_wp2
      exact ⟨rfl, HP.out⟩
    · subst he
      go_wp2
      exact bodyPost_end (v := .tuple #[]) (by simp [results, Tryz.results76]) rfl HP.out

end Go.Proofs.YtcdeikhfmllkdaaGreatDoor
