import Derived.Test.YtelkmldmebdcgaaQua
import Derived.Test.YtelkmldmebdcgaaDrB
set_option linter.unusedSimpArgs false
set_option linter.unusedVariables false
namespace Go.Proofs.Ytelkmldmebdcgaa
open Go.RowKit

theorem row3 {w : World} {g : Nat} {m e n : Int} (h : Ints w (rowV g [m, e, n]) [m, e, n]) : g < w.heap.size ∧ w.cell? ⟨g, 0, none⟩ = some (.int .i64 m) ∧ w.cell? ⟨g, 1, none⟩ = some (.int .i64 e) ∧ w.cell? ⟨g, 2, none⟩ = some (.int .i64 n) := by
  obtain ⟨-, -, hc⟩ := Ints.cell h
  obtain ⟨b0, o0, e0, l0, f0⟩ := hc 0 (by simp)
  obtain ⟨b1, o1, e1, l1, f1⟩ := hc 1 (by simp)
  obtain ⟨b2, o2, e2, l2, f2⟩ := hc 2 (by simp)
  simp only [Option.some.injEq, Addr.mk.injEq, and_true] at e0 e1 e2
  obtain ⟨rfl, rfl⟩ := e0; obtain ⟨rfl, rfl⟩ := e1; obtain ⟨rfl, rfl⟩ := e2
  exact ⟨l0, f0, f1, f2⟩

set_option maxRecDepth 100000 in
set_option maxHeartbeats 16000000 in
theorem qua_tail (a1 : Option Addr) (l1 c1 : Nat) (w wz : World) (Y1 : Hid (Byts w w.heap.size (Value.slice a1 l1 c1))) (hBT : Below w.heap.size w wz) (u0 u2 u3 u4 u5 u6 u7 u8 u9 u10 u11 u12 u13 u14 u15 u16 u17 u18 u19 u20 u21 u22 u23 u24 u25 u26 u27 u28 u29 u30 u31 u32 u33 u34 u35 u36 u37 u38 u39 u40 u41 u42 u43 u44 u45 u46 u47 u48 u49 u50 u51 u52 u53 u54 u55 u56 u57 u58 u59 u60 u61 u62 u63 u64 u65 u66 u67 u68 u69 u70 u71 u72 u73 u74 u75 u76 u77 u78 u79 u80 u81 u82 u83 u84 u85 u86 u87 u88 u89 u90 u91 u92 u93 u94 u95 u96 u97 u98 u99 u100 u101 u102 u103 u104 u105 u106 u107 u108 u109 u110 u111 u112 u113 u114 u115 u116 u117 u118 u119 u120 u121 u122 u123 u124 u125 u126 u127 u128 u129 u130 u131 u132 u133 u134 u135 u136 u137 u138 u139 u140 u141 u142 u143 u144 u145 u146 u147 u148 u149 u150 u151 u152 u153 u154 u155 u156 u157 u158 u159 u160 u161 u162 u163 u164 u165 u166 u167 u168 u169 u170 u171 u172 u173 u174 u175 u176 u177 u178 u179 u180 u181 u182 u183 u184 u185 u186 u187 u188 u189 u190 u191 u192 u193 u194 u195 u196 u197 u198 u199 u200 u201 u202 u203 u204 u205 u206 u207 u208 u209 u210 u211 u212 u213 u214 u215 u216 u217 u218 u219 u220 u221 u222 u223 u224 u225 u226 u227 u228 u229 u230 u231 u232 u233 u234 u235 u236 u237 u238 u239 u240 u241 u242 : Value) :
    Code.wp Try.prog (cS (cS (cS (cS (cS (cS (cS (cS (cB Try.f3))))))))) (bodyPost Try.prog Try.f3 (Gives (.bool true) w)) ⟨(u0 :: .slice a1 l1 c1 :: u2 :: u3 :: u4 :: u5 :: u6 :: u7 :: u8 :: u9 :: u10 :: u11 :: u12 :: u13 :: u14 :: u15 :: u16 :: u17 :: u18 :: u19 :: u20 :: u21 :: u22 :: u23 :: u24 :: u25 :: u26 :: u27 :: u28 :: u29 :: u30 :: u31 :: u32 :: u33 :: u34 :: u35 :: u36 :: u37 :: u38 :: u39 :: u40 :: u41 :: u42 :: u43 :: u44 :: u45 :: u46 :: u47 :: u48 :: u49 :: u50 :: u51 :: u52 :: u53 :: u54 :: u55 :: u56 :: u57 :: u58 :: u59 :: u60 :: u61 :: u62 :: u63 :: u64 :: u65 :: u66 :: u67 :: u68 :: u69 :: u70 :: u71 :: u72 :: u73 :: u74 :: u75 :: u76 :: u77 :: u78 :: u79 :: u80 :: u81 :: u82 :: u83 :: u84 :: u85 :: u86 :: u87 :: u88 :: u89 :: u90 :: u91 :: u92 :: u93 :: u94 :: u95 :: u96 :: u97 :: u98 :: u99 :: u100 :: u101 :: u102 :: u103 :: u104 :: u105 :: u106 :: u107 :: u108 :: u109 :: u110 :: u111 :: u112 :: u113 :: u114 :: u115 :: u116 :: u117 :: u118 :: u119 :: u120 :: u121 :: u122 :: u123 :: u124 :: u125 :: u126 :: u127 :: u128 :: u129 :: u130 :: u131 :: u132 :: u133 :: u134 :: u135 :: u136 :: u137 :: u138 :: u139 :: u140 :: u141 :: u142 :: u143 :: u144 :: u145 :: u146 :: u147 :: u148 :: u149 :: u150 :: u151 :: u152 :: u153 :: u154 :: u155 :: u156 :: u157 :: u158 :: u159 :: u160 :: u161 :: u162 :: u163 :: u164 :: u165 :: u166 :: u167 :: u168 :: u169 :: u170 :: u171 :: u172 :: u173 :: u174 :: u175 :: u176 :: u177 :: u178 :: u179 :: u180 :: u181 :: u182 :: u183 :: u184 :: u185 :: u186 :: u187 :: u188 :: u189 :: u190 :: u191 :: u192 :: u193 :: u194 :: u195 :: u196 :: u197 :: u198 :: u199 :: u200 :: u201 :: u202 :: u203 :: u204 :: u205 :: u206 :: u207 :: u208 :: u209 :: u210 :: u211 :: u212 :: u213 :: u214 :: u215 :: u216 :: u217 :: u218 :: u219 :: u220 :: u221 :: u222 :: u223 :: u224 :: u225 :: u226 :: u227 :: u228 :: u229 :: u230 :: u231 :: u232 :: u233 :: u234 :: u235 :: u236 :: u237 :: u238 :: u239 :: u240 :: u241 :: u242 :: []).toArray, []⟩ wz := by
  show Code.wp _ (Code.seq _ _) _ _ _
  have Y1w := (Y1.out.below hBT (Nat.le_refl _)).mono hBT.size
  go_wp2_with fail
  refine (DrawExactRootC Y1w).mono ?_
  rintro e9 u1 ⟨N, rfl, hc1⟩
  have hBa : Below w.heap.size w u1 := bthen hBT hc1
  obtain ⟨r, ok, hex, hf⟩ := ex_f N
  have HA := Lib.hid (fun W => ExactRoot_any N W)
  have HB := Lib.hid (fun W => sExactRoot_any N W)
  rw [hex] at HA HB
  clear hex hc1 hBT Y1w
  have HF := Lib.hid hf
  clear hf
  go_wp2_with fail
  refine (HA.out _).mono ?_; rintro e9 u2 ⟨rfl, rfl⟩
  go_wp2_with fail
  refine (HB.out _).mono ?_; rintro e9 u2 ⟨rfl, rfl⟩
  clear HA HB
  cases ok
  case false =>
    clear HF
    go_wp2_with fail
    have Y1v := (Y1.out.below hBa (Nat.le_refl _)).mono hBa.size
    refine (DrawCurveValueC Y1v).mono ?_
    rintro e9 u3 ⟨A, B, x, e, rfl, hc2⟩
    have hBb := bthen hBa hc2
    obtain ⟨h, ok2, hcv⟩ := cv_f A B x e
    have HC := Lib.hid (fun W => CurveValue_any A B x e W)
    have HD := Lib.hid (fun W => sCurveValue_any A B x e W)
    rw [hcv] at HC HD
    clear hcv hc2 hBa Y1v Y1
    go_wp2_with fail
    refine (HC.out _).mono ?_; rintro e9 u4 ⟨rfl, hd⟩
    have Xa := Box.below (box_made2 _ _ _ _) hd
    have hBc := bthen2 hd (hBb.alloc hBb.size _)
    have c0 := Xa.2.1 0 _ rfl; have c1 := Xa.2.1 1 _ rfl; have cl := Xa.1
    clear hd hBb HC
    go_wp2_with fail
    refine (HD.out _).mono ?_; rintro e9 u5 ⟨rfl, hd2⟩
    have hBd := bthen2 hd2 hBc
    clear hd2 hBc Xa c0 c1 cl HD
    first
      | (go_wp2; go_ret; exact gives rfl (by repeat' (first | (with_reducible exact Below.refl _ _) | (with_reducible assumption) | (with_reducible refine Below.alloc ?_ ?_ _) | (with_reducible refine Below.setCell ?_ ?_ _) | (with_reducible refine Below.drew ?_) | (with_reducible refine below_drewN ?_ _) | (apply bthen2; (with_reducible assumption)) | go_size)))
      | (cases ok2 <;> (go_wp2; go_ret; exact gives rfl (by repeat' (first | (with_reducible exact Below.refl _ _) | (with_reducible assumption) | (with_reducible refine Below.alloc ?_ ?_ _) | (with_reducible refine Below.setCell ?_ ?_ _) | (with_reducible refine Below.drew ?_) | (with_reducible refine below_drewN ?_ _) | (apply bthen2; (with_reducible assumption)) | go_size))))
  case true =>
    obtain ⟨r0, hrr, h0, h1⟩ := HF.out rfl
    subst hrr
    clear HF
    have kz : IntKind.i64.wrap (r * r) = r * r := IntWalk.i64_in _ (by omega)
    have kr : decide (r < 0) = false := by simpa using r0
    go_wp2_with fail
    have Y1v := (Y1.out.below hBa (Nat.le_refl _)).mono hBa.size
    refine (DrawCurveValueC Y1v).mono ?_
    rintro e9 u3 ⟨A, B, x, e, rfl, hc2⟩
    have hBb := bthen hBa hc2
    obtain ⟨h, ok2, hcv⟩ := cv_f A B x e
    have HC := Lib.hid (fun W => CurveValue_any A B x e W)
    have HD := Lib.hid (fun W => sCurveValue_any A B x e W)
    rw [hcv] at HC HD
    clear hcv hc2 hBa Y1v Y1
    go_wp2_with fail
    refine (HC.out _).mono ?_; rintro e9 u4 ⟨rfl, hd⟩
    have Xa := Box.below (box_made2 _ _ _ _) hd
    have hBc := bthen2 hd (hBb.alloc hBb.size _)
    have c0 := Xa.2.1 0 _ rfl; have c1 := Xa.2.1 1 _ rfl; have cl := Xa.1
    clear hd hBb HC
    go_wp2_with fail
    refine (HD.out _).mono ?_; rintro e9 u5 ⟨rfl, hd2⟩
    have hBd := bthen2 hd2 hBc
    clear hd2 hBc Xa c0 c1 cl HD
    first
      | (go_wp2; go_ret; exact gives rfl (by repeat' (first | (with_reducible exact Below.refl _ _) | (with_reducible assumption) | (with_reducible refine Below.alloc ?_ ?_ _) | (with_reducible refine Below.setCell ?_ ?_ _) | (with_reducible refine Below.drew ?_) | (with_reducible refine below_drewN ?_ _) | (apply bthen2; (with_reducible assumption)) | go_size)))
      | (cases ok2 <;> (go_wp2; go_ret; exact gives rfl (by repeat' (first | (with_reducible exact Below.refl _ _) | (with_reducible assumption) | (with_reducible refine Below.alloc ?_ ?_ _) | (with_reducible refine Below.setCell ?_ ?_ _) | (with_reducible refine Below.drew ?_) | (with_reducible refine below_drewN ?_ _) | (apply bthen2; (with_reducible assumption)) | go_size))))
set_option maxRecDepth 100000 in
set_option maxHeartbeats 16000000 in
theorem qua_rest (a1 : Option Addr) (l1 c1 : Nat) (w wf : World) (Y1 : Hid (Byts w w.heap.size (Value.slice a1 l1 c1))) (d a c M : Int) (R : List (List Int)) (ok : Bool) (b5 : Nat) (qa : Option Addr) (qc : Nat) (u0 u2 u3 u4 u7 u10 u11 u12 u13 u14 u15 u16 u17 u18 u19 u20 u21 u22 u23 u24 u25 u26 u27 u28 u29 u30 u31 u32 u33 u34 u35 u36 u37 u38 u39 u40 u41 u42 u43 u44 u45 u46 u47 u48 u49 u50 u51 u52 u53 u54 u55 u56 u57 u58 u59 u60 u61 u62 u63 u64 u65 u66 u67 u68 u69 u70 u71 u72 u73 u74 u75 u76 u77 u78 u79 u80 u81 u82 u83 u84 u85 u86 u87 u88 u89 u90 u91 u92 u93 u94 u95 u96 u97 u98 u99 u100 u101 u102 u103 u104 u105 u106 u107 u108 u109 u110 u111 u112 u113 u114 u115 u116 u117 u118 u119 u120 u121 u122 u123 u124 u125 u126 u127 u128 u129 u130 u131 u132 u133 u134 u135 u136 u137 u138 u139 u140 u141 u142 u143 u144 u145 u146 u147 u148 u149 u150 u151 u152 u153 u154 u155 u156 u157 u158 u159 u160 u161 u162 u163 u164 u165 u166 u167 u168 u169 u170 u171 u172 u173 u174 u175 u176 u177 u178 u179 u180 u181 u182 u183 u184 u185 u186 u187 u188 u189 u190 u191 u192 u193 u194 u195 u196 u197 u198 u199 u200 u201 u202 u203 u204 u205 u206 u207 u208 u209 u210 u211 u212 u213 u214 u215 u216 u217 u218 u219 u220 u221 u222 u223 u224 u225 u226 u227 u228 u229 u230 u231 u232 u233 u234 u235 u236 u237 u238 u239 u240 u241 u242 : Value)
    (hR : R.length = (qpRows d a c M).length) (hok : qpOk d a c M = ok) (XW : Box wf b5 [.int .i64 d, .int .i64 a, .int .i64 c]) (hBW : Below w.heap.size w wf) :
    Code.wp Try.prog (cS (cS (cS (cS (cS (cS (cS (cB Try.f3)))))))) (bodyPost Try.prog Try.f3 (Gives (.bool true) w)) ⟨(u0 :: .slice a1 l1 c1 :: u2 :: u3 :: u4 :: .pointer (some ⟨b5, 0, none⟩) :: .int .i64 M :: u7 :: .bool ok :: .slice qa R.length qc :: u10 :: u11 :: u12 :: u13 :: u14 :: u15 :: u16 :: u17 :: u18 :: u19 :: u20 :: u21 :: u22 :: u23 :: u24 :: u25 :: u26 :: u27 :: u28 :: u29 :: u30 :: u31 :: u32 :: u33 :: u34 :: u35 :: u36 :: u37 :: u38 :: u39 :: u40 :: u41 :: u42 :: u43 :: u44 :: u45 :: u46 :: u47 :: u48 :: u49 :: u50 :: u51 :: u52 :: u53 :: u54 :: u55 :: u56 :: u57 :: u58 :: u59 :: u60 :: u61 :: u62 :: u63 :: u64 :: u65 :: u66 :: u67 :: u68 :: u69 :: u70 :: u71 :: u72 :: u73 :: u74 :: u75 :: u76 :: u77 :: u78 :: u79 :: u80 :: u81 :: u82 :: u83 :: u84 :: u85 :: u86 :: u87 :: u88 :: u89 :: u90 :: u91 :: u92 :: u93 :: u94 :: u95 :: u96 :: u97 :: u98 :: u99 :: u100 :: u101 :: u102 :: u103 :: u104 :: u105 :: u106 :: u107 :: u108 :: u109 :: u110 :: u111 :: u112 :: u113 :: u114 :: u115 :: u116 :: u117 :: u118 :: u119 :: u120 :: u121 :: u122 :: u123 :: u124 :: u125 :: u126 :: u127 :: u128 :: u129 :: u130 :: u131 :: u132 :: u133 :: u134 :: u135 :: u136 :: u137 :: u138 :: u139 :: u140 :: u141 :: u142 :: u143 :: u144 :: u145 :: u146 :: u147 :: u148 :: u149 :: u150 :: u151 :: u152 :: u153 :: u154 :: u155 :: u156 :: u157 :: u158 :: u159 :: u160 :: u161 :: u162 :: u163 :: u164 :: u165 :: u166 :: u167 :: u168 :: u169 :: u170 :: u171 :: u172 :: u173 :: u174 :: u175 :: u176 :: u177 :: u178 :: u179 :: u180 :: u181 :: u182 :: u183 :: u184 :: u185 :: u186 :: u187 :: u188 :: u189 :: u190 :: u191 :: u192 :: u193 :: u194 :: u195 :: u196 :: u197 :: u198 :: u199 :: u200 :: u201 :: u202 :: u203 :: u204 :: u205 :: u206 :: u207 :: u208 :: u209 :: u210 :: u211 :: u212 :: u213 :: u214 :: u215 :: u216 :: u217 :: u218 :: u219 :: u220 :: u221 :: u222 :: u223 :: u224 :: u225 :: u226 :: u227 :: u228 :: u229 :: u230 :: u231 :: u232 :: u233 :: u234 :: u235 :: u236 :: u237 :: u238 :: u239 :: u240 :: u241 :: u242 :: []).toArray, []⟩ wf := by
  have hlen : R.length ≤ 3721 := by rw [hR]; exact qpRows_lenS d a c M
  have hR3 : ∀ r ∈ qpRows c a d M, r.length ≤ 1000000000000 := qpRows_3S c a d M
  have hRR : (qpRows c a d M).length = R.length := by rw [hR, qpRows_swap]
  have HI := Lib.hid (fun W => QuarticPoints_any c a d M W)
  have HS := Lib.hid (fun W => sQuarticPoints_any c a d M W)
  rw [qpOk_swap, hok] at HI HS
  generalize qpRows c a d M = T at *
  have HRR := Lib.hid hRR
  have HT3 := Lib.hid hR3
  clear hR hok hRR hR3
  show Code.wp _ (Code.seq _ _) _ _ _
  go_upto_if 142 with fail
  go_cut [4] (fun _ wx => Below w.heap.size w wx)
  case first =>
    cases ok
    case false =>
      clear HI HS HRR HT3 XW
      go_wp2_with fail
      go_meet
      exact hBW
    case true =>
      have c0 := XW.2.1 0 _ rfl; have c1 := XW.2.1 1 _ rfl; have c2 := XW.2.1 2 _ rfl; have cl := XW.1
      go_wp2_with fail
      refine (HI.out _).mono ?_; rintro e9 w3 ⟨ga, gl, gc, rfl, own3, hb3⟩
      have X3 := Box.below (show Box _ wf.heap.size [.int .i64 c, .int .i64 a, .int .i64 d] from box_three (by simp) (by simp) (by simp) (by simp) (fun o => by simp)) hb3
      have hB3 : Below w.heap.size w w3 := bthen2 hb3 (hBW.alloc hBW.size _)
      clear hb3 HI c0 c1 c2 cl XW hBW
      have c0 := X3.2.1 0 _ rfl; have c1 := X3.2.1 1 _ rfl; have c2 := X3.2.1 2 _ rfl; have cl := X3.1
      go_wp2_with fail
      refine (HS.out _).mono ?_; rintro e9 w4 ⟨sa, sl, sc, rfl, own4, hb4⟩
      have r3 := (own3.rd HT3.out).below hb4
      have r4 := own4.rd HT3.out
      have hB4 : Below w.heap.size w w4 := bthen2 hb4 hB3
      clear hb4 HS c0 c1 c2 cl X3 hB3 own3 own4
      obtain ⟨sa', sc', hsl, -, -⟩ := id r4
      obtain ⟨rfl, rfl, rfl⟩ : sa = sa' ∧ sl = T.length ∧ sc = sc' := by simpa using hsl
      clear hsl
      go_wp2_with fail
      refine (sameLists_same _ _ T _ r3 r4).mono ?_
      rintro e9 w5 ⟨rfl, hb5⟩
      have hB5 : Below w.heap.size w w5 := bthen2 hb5 hB4
      clear hb5 hB4 r3 r4
      have kl : ((T.length : Nat) : Int) = (R.length : Int) := by rw [HRR.out]
      go_wp2_with fail
      go_meet
      exact hB5
  case rest =>
    refine (by assumption : ∀ (a : Act) (w_1 : World), Code.wp _ _ _ a w_1 → _) _ _ ?_
    exact qua_tail a1 l1 c1 w wc Y1 hcut _ _ _ _ _ _ _ _ _ _ _ _ _ _ _ _ _ _ _ _ _ _ _ _ _ _ _ _ _ _ _ _ _ _ _ _ _ _ _ _ _ _ _ _ _ _ _ _ _ _ _ _ _ _ _ _ _ _ _ _ _ _ _ _ _ _ _ _ _ _ _ _ _ _ _ _ _ _ _ _ _ _ _ _ _ _ _ _ _ _ _ _ _ _ _ _ _ _ _ _ _ _ _ _ _ _ _ _ _ _ _ _ _ _ _ _ _ _ _ _ _ _ _ _ _ _ _ _ _ _ _ _ _ _ _ _ _ _ _ _ _ _ _ _ _ _ _ _ _ _ _ _ _ _ _ _ _ _ _ _ _ _ _ _ _ _ _ _ _ _ _ _ _ _ _ _ _ _ _ _ _ _ _ _ _ _ _ _ _ _ _ _ _ _ _ _ _ _ _ _ _ _ _ _ _ _ _ _ _ _ _ _ _ _ _ _ _ _ _ _ _ _ _ _ _ _ _ _ _ _ _ _ _ _ _ _ _ _ _ _ _ _
set_option maxRecDepth 100000 in
set_option maxHeartbeats 16000000 in
theorem qua_round (wr : World) (Ko : Act → World → Prop) (Q : Exit → Act → World → Prop) (d a c M : Int) (R : List (List Int)) (b5 : Nat) (qa : Option Addr) (qc k : Nat) (m e n : Int) (u0 u1 u2 u3 u4 u7 u8 u9 u10 u11 u12 u13 u14 u15 u16 u17 u18 u19 u20 u21 u22 u23 u24 u25 u26 u27 u28 u29 u30 u31 u32 u33 u34 u35 u36 u37 u38 u39 u40 u41 u42 u43 u44 u45 u46 u47 u48 u49 u50 u51 u52 u53 u54 u55 u56 u57 u58 u59 u60 u61 u62 u66 u67 u68 u69 u70 u71 u72 u73 u74 u75 u76 u77 u78 u79 u80 u81 u82 u83 u84 u85 u86 u87 u88 u89 u90 u91 u92 u93 u94 u95 u96 u97 u98 u99 u100 u101 u102 u103 u104 u105 u106 u107 u108 u109 u110 u111 u112 u113 u114 u115 u116 u117 u118 u119 u120 u121 u122 u123 u124 u125 u126 u127 u128 u129 u130 u131 u132 u133 u134 u135 u136 u137 u138 u139 u140 u141 u142 u143 u144 u145 u146 u147 u148 u149 u150 u151 u152 u153 u154 u155 u156 u157 u158 u159 u160 u161 u162 u163 u164 u165 u166 u167 u168 u169 u170 u171 u172 u173 u174 u175 u176 u177 u178 u179 u180 u181 u182 u183 u184 u185 u186 u187 u188 u189 u190 u191 u192 u193 u194 u195 u196 u197 u198 u199 u200 u201 u202 u203 u204 u205 u206 u207 u208 u209 u210 u211 u212 u213 u214 u215 u216 u217 u218 u219 u220 u221 u222 u223 u224 u225 u226 u227 u228 u229 u230 u231 u232 u233 u234 u235 u236 u237 u238 u239 u240 u241 u242 : Value)
    (hlen : R.length ≤ 3721) (XW : Box wr b5 [.int .i64 d, .int .i64 a, .int .i64 c]) (hrd : Hid (RdLL wr (.slice qa R.length qc) R)) (hr : R[k]? = some [m, e, n]) (hq : QM d a c M m e n)
    (hEnd : ∀ (v4 v12 v13 v14 v15 v16 v66 v67 v68 v69 v70 v71 v72 v73 v74 v75 v76 v77 v78 v79 v80 v81 v82 v83 v84 v85 v86 v87 v88 v89 v90 v91 v92 v93 v94 v95 v96 v97 v98 v99 v100 v101 v102 v103 v104 v105 v106 v107 v108 v109 v110 v111 v112 v113 v114 v115 v116 v117 v118 v119 v120 v121 v122 v123 v124 v125 v126 v127 v128 v129 v130 v131 v132 v133 v134 v135 v136 v137 v138 v139 v140 v141 : Value) (w' : World), Below wr.heap.size wr w' → Ko ⟨(u0 :: u1 :: u2 :: u3 :: v4 :: .pointer (some ⟨b5, 0, none⟩) :: .int .i64 M :: u7 :: u8 :: u9 :: u10 :: u11 :: v12 :: v13 :: v14 :: v15 :: v16 :: u17 :: u18 :: u19 :: u20 :: u21 :: u22 :: u23 :: u24 :: u25 :: u26 :: u27 :: u28 :: u29 :: u30 :: u31 :: u32 :: u33 :: u34 :: u35 :: u36 :: u37 :: u38 :: u39 :: u40 :: u41 :: u42 :: u43 :: u44 :: u45 :: u46 :: u47 :: u48 :: u49 :: u50 :: u51 :: u52 :: u53 :: u54 :: u55 :: u56 :: u57 :: u58 :: u59 :: u60 :: u61 :: u62 :: .slice qa R.length qc :: .int .i64 (R.length : Int) :: .int .i64 ((k : Int) + 1) :: v66 :: v67 :: v68 :: v69 :: v70 :: v71 :: v72 :: v73 :: v74 :: v75 :: v76 :: v77 :: v78 :: v79 :: v80 :: v81 :: v82 :: v83 :: v84 :: v85 :: v86 :: v87 :: v88 :: v89 :: v90 :: v91 :: v92 :: v93 :: v94 :: v95 :: v96 :: v97 :: v98 :: v99 :: v100 :: v101 :: v102 :: v103 :: v104 :: v105 :: v106 :: v107 :: v108 :: v109 :: v110 :: v111 :: v112 :: v113 :: v114 :: v115 :: v116 :: v117 :: v118 :: v119 :: v120 :: v121 :: v122 :: v123 :: v124 :: v125 :: v126 :: v127 :: v128 :: v129 :: v130 :: v131 :: v132 :: v133 :: v134 :: v135 :: v136 :: v137 :: v138 :: v139 :: v140 :: v141 :: u142 :: u143 :: u144 :: u145 :: u146 :: u147 :: u148 :: u149 :: u150 :: u151 :: u152 :: u153 :: u154 :: u155 :: u156 :: u157 :: u158 :: u159 :: u160 :: u161 :: u162 :: u163 :: u164 :: u165 :: u166 :: u167 :: u168 :: u169 :: u170 :: u171 :: u172 :: u173 :: u174 :: u175 :: u176 :: u177 :: u178 :: u179 :: u180 :: u181 :: u182 :: u183 :: u184 :: u185 :: u186 :: u187 :: u188 :: u189 :: u190 :: u191 :: u192 :: u193 :: u194 :: u195 :: u196 :: u197 :: u198 :: u199 :: u200 :: u201 :: u202 :: u203 :: u204 :: u205 :: u206 :: u207 :: u208 :: u209 :: u210 :: u211 :: u212 :: u213 :: u214 :: u215 :: u216 :: u217 :: u218 :: u219 :: u220 :: u221 :: u222 :: u223 :: u224 :: u225 :: u226 :: u227 :: u228 :: u229 :: u230 :: u231 :: u232 :: u233 :: u234 :: u235 :: u236 :: u237 :: u238 :: u239 :: u240 :: u241 :: u242 :: []).toArray, []⟩ w') :
    Code.wp Try.prog (cF (cF (cS (cF (cS (cS (cS (cS (cS (cS (cB Try.f3))))))))))) (Exit.then Ko Q) ⟨(u0 :: u1 :: u2 :: u3 :: u4 :: .pointer (some ⟨b5, 0, none⟩) :: .int .i64 M :: u7 :: u8 :: u9 :: u10 :: u11 :: u12 :: u13 :: u14 :: u15 :: u16 :: u17 :: u18 :: u19 :: u20 :: u21 :: u22 :: u23 :: u24 :: u25 :: u26 :: u27 :: u28 :: u29 :: u30 :: u31 :: u32 :: u33 :: u34 :: u35 :: u36 :: u37 :: u38 :: u39 :: u40 :: u41 :: u42 :: u43 :: u44 :: u45 :: u46 :: u47 :: u48 :: u49 :: u50 :: u51 :: u52 :: u53 :: u54 :: u55 :: u56 :: u57 :: u58 :: u59 :: u60 :: u61 :: u62 :: .slice qa R.length qc :: .int .i64 (R.length : Int) :: .int .i64 (k : Int) :: u66 :: u67 :: u68 :: u69 :: u70 :: u71 :: u72 :: u73 :: u74 :: u75 :: u76 :: u77 :: u78 :: u79 :: u80 :: u81 :: u82 :: u83 :: u84 :: u85 :: u86 :: u87 :: u88 :: u89 :: u90 :: u91 :: u92 :: u93 :: u94 :: u95 :: u96 :: u97 :: u98 :: u99 :: u100 :: u101 :: u102 :: u103 :: u104 :: u105 :: u106 :: u107 :: u108 :: u109 :: u110 :: u111 :: u112 :: u113 :: u114 :: u115 :: u116 :: u117 :: u118 :: u119 :: u120 :: u121 :: u122 :: u123 :: u124 :: u125 :: u126 :: u127 :: u128 :: u129 :: u130 :: u131 :: u132 :: u133 :: u134 :: u135 :: u136 :: u137 :: u138 :: u139 :: u140 :: u141 :: u142 :: u143 :: u144 :: u145 :: u146 :: u147 :: u148 :: u149 :: u150 :: u151 :: u152 :: u153 :: u154 :: u155 :: u156 :: u157 :: u158 :: u159 :: u160 :: u161 :: u162 :: u163 :: u164 :: u165 :: u166 :: u167 :: u168 :: u169 :: u170 :: u171 :: u172 :: u173 :: u174 :: u175 :: u176 :: u177 :: u178 :: u179 :: u180 :: u181 :: u182 :: u183 :: u184 :: u185 :: u186 :: u187 :: u188 :: u189 :: u190 :: u191 :: u192 :: u193 :: u194 :: u195 :: u196 :: u197 :: u198 :: u199 :: u200 :: u201 :: u202 :: u203 :: u204 :: u205 :: u206 :: u207 :: u208 :: u209 :: u210 :: u211 :: u212 :: u213 :: u214 :: u215 :: u216 :: u217 :: u218 :: u219 :: u220 :: u221 :: u222 :: u223 :: u224 :: u225 :: u226 :: u227 :: u228 :: u229 :: u230 :: u231 :: u232 :: u233 :: u234 :: u235 :: u236 :: u237 :: u238 :: u239 :: u240 :: u241 :: u242 :: []).toArray, []⟩ wr := by
  have hlt : k < R.length := (List.getElem?_eq_some_iff.1 hr).1
  have hlt' : (k : Int) < (R.length : Int) := by omega
  obtain ⟨sa2, sc2, hsl, -, hcells⟩ := hrd.out
  obtain ⟨b8, off8, g, ha, hbl, x0, i0⟩ := hcells k _ hr
  have hca : qa = some ⟨b8, off8, none⟩ := by
    have : qa = sa2 := by simpa using congrArg (fun v => match v with | Value.slice a _ _ => a | _ => none) hsl
    rw [this, ha]
  subst hca
  clear hcells hsl ha hr hrd
  have hrow : g < wr.heap.size ∧ wr.cell? ⟨g, 0, none⟩ = some (.int .i64 m) ∧ wr.cell? ⟨g, 1, none⟩ = some (.int .i64 e) ∧ wr.cell? ⟨g, 2, none⟩ = some (.int .i64 n) := row3 i0
  obtain ⟨hg, g0, g1, g2⟩ := hrow
  replace x0 : wr.cell? ⟨b8, off8 + k, none⟩ = some (.slice (some ⟨g, 0, none⟩) 3 3) := x0
  clear i0
  obtain ⟨m0, m1, e0, e1, n0, nn, no, hv, hx⟩ := hq
  have HV := Lib.hid (fun W => QuarticValueI_any d a c m e W)
  rw [hv] at HV
  have HX := Lib.hid (fun W => ExactRoot_any (n * n) W)
  rw [hx] at HX
  have hnn := Int.mul_nonneg n0 n0
  have kz : IntKind.i64.wrap (n * n) = n * n := IntWalk.i64_in _ (by omega)
  have c0 := XW.2.1 0 _ rfl; have c1 := XW.2.1 1 _ rfl; have c2 := XW.2.1 2 _ rfl; have cl := XW.1
  have k1 : decide (M < m) = false := by simpa using m1
  have k2 : decide (M < e) = false := by simpa using e1
  clear hv hx
  show Code.wp _ (Code.seq _ _) _ _ _
  go_wp2_with fail
  go_region_held3 (fun w' => Below wr.heap.size wr w' ∧ w'.cell? ⟨b5, 0, none⟩ = some (.int .i64 d) ∧ w'.cell? ⟨b5, 1, none⟩ = some (.int .i64 a) ∧ w'.cell? ⟨b5, 2, none⟩ = some (.int .i64 c) ∧ w'.cell? ⟨g, 0, none⟩ = some (.int .i64 m) ∧ w'.cell? ⟨g, 1, none⟩ = some (.int .i64 e)) ((refine (fun hbK => And.intro hbK (by exact ⟨(hbK.cell (p := ⟨b5, 0, none⟩) (by first | assumption | omega | (simp; omega))).trans c0, (hbK.cell (p := ⟨b5, 1, none⟩) (by first | assumption | omega | (simp; omega))).trans c1, (hbK.cell (p := ⟨b5, 2, none⟩) (by first | assumption | omega | (simp; omega))).trans c2, (hbK.cell (p := ⟨g, 0, none⟩) (by first | assumption | omega | (simp; omega))).trans g0, (hbK.cell (p := ⟨g, 1, none⟩) (by first | assumption | omega | (simp; omega))).trans g1⟩)) ?_; repeat' (first | (with_reducible exact Below.refl _ _) | (with_reducible assumption) | (with_reducible refine Below.alloc ?_ ?_ _) | (with_reducible refine Below.setCell ?_ ?_ _) | (with_reducible refine Below.drew ?_) | (with_reducible refine below_drewN ?_ _) | (apply bthen2; (with_reducible assumption)) | go_size))) ((first | (go_at_call 11; refine (HV.out _).mono ?_; rintro e9 wg ⟨rfl, hbg⟩)))
  all_goals
    have hBg : Below wr.heap.size wr wg := (by repeat' (first | (with_reducible exact Below.refl _ _) | (with_reducible assumption) | (with_reducible refine Below.alloc ?_ ?_ _) | (with_reducible refine Below.setCell ?_ ?_ _) | (with_reducible refine Below.drew ?_) | (with_reducible refine below_drewN ?_ _) | (apply bthen2; (with_reducible assumption)) | go_size))
    have g0' := (hBg.cell (p := ⟨g, 0, none⟩) hg).trans g0
    have g1' := (hBg.cell (p := ⟨g, 1, none⟩) hg).trans g1
    have g2' := (hBg.cell (p := ⟨g, 2, none⟩) hg).trans g2
    have hg' := Nat.lt_of_lt_of_le hg hBg.size
    go_wp2_with fail
    go_quiet ((go_at_call 12; exact qs (HX.out _)))
    go_wp2_with fail
    by_cases hm : m = 0
    · have he : e ≠ 0 := fun h => no ⟨hm, h⟩
      clear no
      subst hm
      have k4 : decide (e = 0) = false := by simpa using he
      go_quiet (fail)
      go_wp2_with fail
      first | (apply hEnd; repeat' (first | (with_reducible exact Below.refl _ _) | (with_reducible assumption) | (with_reducible refine Below.alloc ?_ ?_ _) | (with_reducible refine Below.setCell ?_ ?_ _) | (with_reducible refine Below.drew ?_) | (with_reducible refine below_drewN ?_ _) | (apply bthen2; (with_reducible assumption)) | go_size)) | repeat' (first | (with_reducible exact Below.refl _ _) | (with_reducible assumption) | (with_reducible refine Below.alloc ?_ ?_ _) | (with_reducible refine Below.setCell ?_ ?_ _) | (with_reducible refine Below.drew ?_) | (with_reducible refine below_drewN ?_ _) | (apply bthen2; (with_reducible assumption)) | go_size)
    · have k3 : decide (m = 0) = false := by simpa using hm
      clear no
      go_quiet (fail)
      go_wp2_with fail
      first | (apply hEnd; repeat' (first | (with_reducible exact Below.refl _ _) | (with_reducible assumption) | (with_reducible refine Below.alloc ?_ ?_ _) | (with_reducible refine Below.setCell ?_ ?_ _) | (with_reducible refine Below.drew ?_) | (with_reducible refine below_drewN ?_ _) | (apply bthen2; (with_reducible assumption)) | go_size)) | repeat' (first | (with_reducible exact Below.refl _ _) | (with_reducible assumption) | (with_reducible refine Below.alloc ?_ ?_ _) | (with_reducible refine Below.setCell ?_ ?_ _) | (with_reducible refine Below.drew ?_) | (with_reducible refine below_drewN ?_ _) | (apply bthen2; (with_reducible assumption)) | go_size)

end Go.Proofs.Ytelkmldmebdcgaa
