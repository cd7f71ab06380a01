import Derived.Test.YtelkmldmebdcgaaLgw
import Derived.Test.YtelkmldmebdcgaaPart
set_option linter.unusedSimpArgs false
set_option linter.unusedVariables false
namespace Go.Proofs.Ytelkmldmebdcgaa
open Go.RowKit
/-! ### the walk of FnLogarithms, in parts -/

set_option maxRecDepth 100000 in
set_option maxHeartbeats 16000000 in
theorem lg_c (w wf : World) (am : Option Addr) (lm cm : Nat) (u0 u2 u3 u4 u5 u6 u7 u8 u9 u10 u11 u12 u13 u14 u15 u16 u17 u18 u19 u20 u21 u22 u23 u24 u25 u26 u27 u28 u29 u30 u31 u32 u33 u34 u35 u36 u37 u38 u39 u40 u41 u42 u43 u44 u45 u46 u47 u48 u49 u50 u51 u52 u53 u54 u55 u56 u57 u58 u59 u60 u61 u62 u63 u64 u65 u66 u67 u68 u69 u70 u71 u72 u73 u74 u75 u76 u77 u78 u79 u80 u81 u82 u83 u84 u85 u86 u87 u88 u89 u90 u91 u92 u93 u94 u95 u96 u97 u98 u99 u100 u101 u102 u103 u104 u105 u106 u107 u108 u109 u110 u111 u112 u113 u114 u115 u116 u117 u118 u119 u120 u121 u122 u123 u124 u125 u126 u127 u128 u129 u130 u131 u132 u133 u134 u135 u136 u137 u138 u139 u140 u141 u142 u143 u144 u145 u146 u147 u148 u149 u150 u151 u152 u153 u154 u155 u156 u157 u158 u159 u160 u161 u162 u163 u164 u165 u166 u167 u168 u169 u170 u171 u172 u173 u174 u175 u176 u177 u178 u179 u180 u181 u182 u183 u184 u185 u186 u187 u188 u189 u190 u191 u192 u193 u194 u195 u196 u197 u198 u199 u200 u201 u202 u203 u204 u205 u206 u207 u208 u209 u210 u211 u212 u213 u214 u215 u216 u217 u218 u219 u220 u221 u222 u223 u224 u225 u226 u227 u228 u229 u230 u231 u232 u233 u234 u235 u236 u237 u238 u239 u240 u241 u242 u243 u244 u245 u246 u247 u248 u249 u250 u251 u252 u253 u254 u255 u256 u257 u258 u259 u260 u261 u262 u263 u264 u265 u266 u267 u268 u269 u270 u271 u272 u273 u274 u275 u276 u277 u278 u279 u280 u281 u282 u283 u284 u285 u286 u287 u288 u289 u290 u291 u292 u293 u294 u295 u296 u297 u298 u299 u300 u301 u302 u303 u304 u305 u306 u307 u308 u309 u310 u311 u312 u313 u314 u315 u316 u317 u318 u319 u320 u321 u322 u323 u324 u325 u326 u327 u328 u329 u330 u331 u332 u333 u334 u335 u336 : Value)
    (Y : Byts w w.heap.size (.slice am lm cm)) (hB : Below w.heap.size w wf) :
    Code.wp Try.prog (cS (cS (cS (cS (cS (cS (cS (cS (cS (cS (cS (cS (cB Try.f5))))))))))))) (bodyPost Try.prog Try.f5 (Gives (.bool true) w)) ⟨(u0 :: .slice am lm cm :: u2 :: u3 :: u4 :: u5 :: u6 :: u7 :: u8 :: u9 :: u10 :: u11 :: u12 :: u13 :: u14 :: u15 :: u16 :: u17 :: u18 :: u19 :: u20 :: u21 :: u22 :: u23 :: u24 :: u25 :: u26 :: u27 :: u28 :: u29 :: u30 :: u31 :: u32 :: u33 :: u34 :: u35 :: u36 :: u37 :: u38 :: u39 :: u40 :: u41 :: u42 :: u43 :: u44 :: u45 :: u46 :: u47 :: u48 :: u49 :: u50 :: u51 :: u52 :: u53 :: u54 :: u55 :: u56 :: u57 :: u58 :: u59 :: u60 :: u61 :: u62 :: u63 :: u64 :: u65 :: u66 :: u67 :: u68 :: u69 :: u70 :: u71 :: u72 :: u73 :: u74 :: u75 :: u76 :: u77 :: u78 :: u79 :: u80 :: u81 :: u82 :: u83 :: u84 :: u85 :: u86 :: u87 :: u88 :: u89 :: u90 :: u91 :: u92 :: u93 :: u94 :: u95 :: u96 :: u97 :: u98 :: u99 :: u100 :: u101 :: u102 :: u103 :: u104 :: u105 :: u106 :: u107 :: u108 :: u109 :: u110 :: u111 :: u112 :: u113 :: u114 :: u115 :: u116 :: u117 :: u118 :: u119 :: u120 :: u121 :: u122 :: u123 :: u124 :: u125 :: u126 :: u127 :: u128 :: u129 :: u130 :: u131 :: u132 :: u133 :: u134 :: u135 :: u136 :: u137 :: u138 :: u139 :: u140 :: u141 :: u142 :: u143 :: u144 :: u145 :: u146 :: u147 :: u148 :: u149 :: u150 :: u151 :: u152 :: u153 :: u154 :: u155 :: u156 :: u157 :: u158 :: u159 :: u160 :: u161 :: u162 :: u163 :: u164 :: u165 :: u166 :: u167 :: u168 :: u169 :: u170 :: u171 :: u172 :: u173 :: u174 :: u175 :: u176 :: u177 :: u178 :: u179 :: u180 :: u181 :: u182 :: u183 :: u184 :: u185 :: u186 :: u187 :: u188 :: u189 :: u190 :: u191 :: u192 :: u193 :: u194 :: u195 :: u196 :: u197 :: u198 :: u199 :: u200 :: u201 :: u202 :: u203 :: u204 :: u205 :: u206 :: u207 :: u208 :: u209 :: u210 :: u211 :: u212 :: u213 :: u214 :: u215 :: u216 :: u217 :: u218 :: u219 :: u220 :: u221 :: u222 :: u223 :: u224 :: u225 :: u226 :: u227 :: u228 :: u229 :: u230 :: u231 :: u232 :: u233 :: u234 :: u235 :: u236 :: u237 :: u238 :: u239 :: u240 :: u241 :: u242 :: u243 :: u244 :: u245 :: u246 :: u247 :: u248 :: u249 :: u250 :: u251 :: u252 :: u253 :: u254 :: u255 :: u256 :: u257 :: u258 :: u259 :: u260 :: u261 :: u262 :: u263 :: u264 :: u265 :: u266 :: u267 :: u268 :: u269 :: u270 :: u271 :: u272 :: u273 :: u274 :: u275 :: u276 :: u277 :: u278 :: u279 :: u280 :: u281 :: u282 :: u283 :: u284 :: u285 :: u286 :: u287 :: u288 :: u289 :: u290 :: u291 :: u292 :: u293 :: u294 :: u295 :: u296 :: u297 :: u298 :: u299 :: u300 :: u301 :: u302 :: u303 :: u304 :: u305 :: u306 :: u307 :: u308 :: u309 :: u310 :: u311 :: u312 :: u313 :: u314 :: u315 :: u316 :: u317 :: u318 :: u319 :: u320 :: u321 :: u322 :: u323 :: u324 :: u325 :: u326 :: u327 :: u328 :: u329 :: u330 :: u331 :: u332 :: u333 :: u334 :: u335 :: u336 :: []).toArray, []⟩ wf := by
  have Y1 := Lib.hid Y; clear Y
  show Code.wp _ (Code.seq _ _) _ _ _
  go_wp2_with fail
  refine name_worldM (fun V hV => ?_)
  have hBz := hB.size
  have hB2 : Below w.heap.size w V := by subst hV; repeat' (first | (with_reducible exact Below.refl _ _) | (with_reducible assumption) | (with_reducible refine Below.alloc ?_ ?_ _) | (with_reducible refine Below.setCell ?_ ?_ _) | (with_reducible refine Below.drew ?_) | (with_reducible refine below_drewN ?_ _) | (apply bthen2; (with_reducible assumption)) | go_size)
  clear hBz
  clear hV hB 
  refine (DrawCompareSizesC ((Y1.out.below hB2 (Nat.le_refl _)).monoW hB2.size)).mono ?_; rintro e9 wy1 ⟨n1, a1, l1, c1, xs, n2, a2, l2, c2, ys, rfl, I1, hx1, I2, hx2, hb⟩
  have hB := bthen2 hb hB2
  clear hb hB2  
  have HC1 := Lib.hid (fun W h h' => CompareSizes_any n1 n2 a1 a2 l1 c1 l2 c2 xs ys W h h')
  have HC2 := Lib.hid (fun W h h' => sCompareSizes_any n1 n2 a1 a2 l1 c1 l2 c2 xs ys W h h')
  have HG1 := Lib.hid (fun W h h' => GreaterWhole_any n1 n2 a1 a2 l1 c1 l2 c2 xs ys W h h')
  have HG2 := Lib.hid (fun W h h' => sGreaterWhole_any n1 n2 a1 a2 l1 c1 l2 c2 xs ys W h h')
  have HB1 := Lib.hid (fun W h h' => HeightBits_any n1 n2 a1 a2 l1 c1 l2 c2 xs ys W h h')
  have HB2 := Lib.hid (fun W h h' => sHeightBits_any n1 n2 a1 a2 l1 c1 l2 c2 xs ys W h h')
  have HL1 := Lib.hid (fun W h => BitLength_any n1 a1 l1 c1 xs W h)
  have HL2 := Lib.hid (fun W h => BitLength_any n2 a2 l2 c2 ys W h)
  cases hv : (whB n1 xs && whB n2 ys)
  · obtain ⟨e1, e2, e3⟩ := cmp_no hv
    rw [e1] at HC1 HC2; rw [e2] at HG1 HG2; rw [e3] at HB1 HB2
    clear HL1 HL2 hv e1 e2 e3
    go_wp2_with fail
    refine name_worldM (fun V hV => ?_)
    have Yx : Box V (wy1.heap.size) [.bool n1, .slice a1 l1 c1] := (by subst hV; exact box_two (by first | omega | (simp; done) | (simp; omega)) (by simp [go_sem]) (by simp [go_sem]) (fun o => by simp [go_sem]))
    have Yy : Box V (wy1.heap.size + 1) [.bool n2, .slice a2 l2 c2] := (by subst hV; exact box_two (by first | omega | (simp; done) | (simp; omega)) (by simp [go_sem]) (by simp [go_sem]) (fun o => by simp [go_sem]))
    have hBz := hB.size
    have hB2 : Below w.heap.size w V := by subst hV; repeat' (first | (with_reducible exact Below.refl _ _) | (with_reducible assumption) | (with_reducible refine Below.alloc ?_ ?_ _) | (with_reducible refine Below.setCell ?_ ?_ _) | (with_reducible refine Below.drew ?_) | (with_reducible refine below_drewN ?_ _) | (apply bthen2; (with_reducible assumption)) | go_size)
    clear hBz
    have I12 : Ints V (.slice a1 l1 c1) xs := by subst hV; exact Ints.below I1 (by repeat' (first | (with_reducible exact Below.refl _ _) | (with_reducible assumption) | (with_reducible refine Below.alloc ?_ ?_ _) | (with_reducible refine Below.setCell ?_ ?_ _) | (with_reducible refine Below.drew ?_) | (with_reducible refine below_drewN ?_ _) | (apply bthen2; (with_reducible assumption)) | go_size))
    have I22 : Ints V (.slice a2 l2 c2) ys := by subst hV; exact Ints.below I2 (by repeat' (first | (with_reducible exact Below.refl _ _) | (with_reducible assumption) | (with_reducible refine Below.alloc ?_ ?_ _) | (with_reducible refine Below.setCell ?_ ?_ _) | (with_reducible refine Below.drew ?_) | (with_reducible refine below_drewN ?_ _) | (apply bthen2; (with_reducible assumption)) | go_size))
    clear hV hB  I1 I2
    refine (HC1.out _ I12 I22).mono ?_; rintro e9 wy2 ⟨rfl, hb⟩
    have Xx := Yx.below hb
    have Xy := Yy.below hb
    have hB := bthen2 hb hB2
    have I1 := I12.below hb
    have I2 := I22.below hb
    clear hb hB2 Yx Yy I12 I22 HC1
    have qx0 := Xx.2.1 0 _ rfl; have qx1 := Xx.2.1 1 _ rfl; have qxl := Xx.1
    have qy0 := Xy.2.1 0 _ rfl; have qy1 := Xy.2.1 1 _ rfl; have qyl := Xy.1
    go_wp2_with fail
    refine name_worldM (fun V hV => ?_)
    have Yx : Box V (wy1.heap.size) [.bool n1, .slice a1 l1 c1] := (by subst hV; repeat' (first | assumption | (with_reducible refine Box.alloc ?_ _) | (with_reducible refine Box.set_ne ?_ (by first | (simp; done) | (simp; omega)) _)))
    have Yy : Box V (wy1.heap.size + 1) [.bool n2, .slice a2 l2 c2] := (by subst hV; repeat' (first | assumption | (with_reducible refine Box.alloc ?_ _) | (with_reducible refine Box.set_ne ?_ (by first | (simp; done) | (simp; omega)) _)))
    have hBz := hB.size
    have hB2 : Below w.heap.size w V := by subst hV; repeat' (first | (with_reducible exact Below.refl _ _) | (with_reducible assumption) | (with_reducible refine Below.alloc ?_ ?_ _) | (with_reducible refine Below.setCell ?_ ?_ _) | (with_reducible refine Below.drew ?_) | (with_reducible refine below_drewN ?_ _) | (apply bthen2; (with_reducible assumption)) | go_size)
    clear hBz
    have I12 : Ints V (.slice a1 l1 c1) xs := by subst hV; exact Ints.below I1 (by repeat' (first | (with_reducible exact Below.refl _ _) | (with_reducible assumption) | (with_reducible refine Below.alloc ?_ ?_ _) | (with_reducible refine Below.setCell ?_ ?_ _) | (with_reducible refine Below.drew ?_) | (with_reducible refine below_drewN ?_ _) | (apply bthen2; (with_reducible assumption)) | go_size))
    have I22 : Ints V (.slice a2 l2 c2) ys := by subst hV; exact Ints.below I2 (by repeat' (first | (with_reducible exact Below.refl _ _) | (with_reducible assumption) | (with_reducible refine Below.alloc ?_ ?_ _) | (with_reducible refine Below.setCell ?_ ?_ _) | (with_reducible refine Below.drew ?_) | (with_reducible refine below_drewN ?_ _) | (apply bthen2; (with_reducible assumption)) | go_size))
    clear qx0 qx1 qxl qy0 qy1 qyl
    clear hV hB Xx Xy I1 I2
    refine (HC2.out _ I12 I22).mono ?_; rintro e9 wy3 ⟨rfl, hb⟩
    have Xx := Yx.below hb
    have Xy := Yy.below hb
    have hB := bthen2 hb hB2
    have I1 := I12.below hb
    have I2 := I22.below hb
    clear hb hB2 Yx Yy I12 I22 HC2
    have qx0 := Xx.2.1 0 _ rfl; have qx1 := Xx.2.1 1 _ rfl; have qxl := Xx.1
    have qy0 := Xy.2.1 0 _ rfl; have qy1 := Xy.2.1 1 _ rfl; have qyl := Xy.1
    go_wp2_with fail
    refine name_worldM (fun V hV => ?_)
    have Yx : Box V (wy1.heap.size) [.bool n1, .slice a1 l1 c1] := (by subst hV; repeat' (first | assumption | (with_reducible refine Box.alloc ?_ _) | (with_reducible refine Box.set_ne ?_ (by first | (simp; done) | (simp; omega)) _)))
    have Yy : Box V (wy1.heap.size + 1) [.bool n2, .slice a2 l2 c2] := (by subst hV; repeat' (first | assumption | (with_reducible refine Box.alloc ?_ _) | (with_reducible refine Box.set_ne ?_ (by first | (simp; done) | (simp; omega)) _)))
    have hBz := hB.size
    have hB2 : Below w.heap.size w V := by subst hV; repeat' (first | (with_reducible exact Below.refl _ _) | (with_reducible assumption) | (with_reducible refine Below.alloc ?_ ?_ _) | (with_reducible refine Below.setCell ?_ ?_ _) | (with_reducible refine Below.drew ?_) | (with_reducible refine below_drewN ?_ _) | (apply bthen2; (with_reducible assumption)) | go_size)
    clear hBz
    have I12 : Ints V (.slice a1 l1 c1) xs := by subst hV; exact Ints.below I1 (by repeat' (first | (with_reducible exact Below.refl _ _) | (with_reducible assumption) | (with_reducible refine Below.alloc ?_ ?_ _) | (with_reducible refine Below.setCell ?_ ?_ _) | (with_reducible refine Below.drew ?_) | (with_reducible refine below_drewN ?_ _) | (apply bthen2; (with_reducible assumption)) | go_size))
    have I22 : Ints V (.slice a2 l2 c2) ys := by subst hV; exact Ints.below I2 (by repeat' (first | (with_reducible exact Below.refl _ _) | (with_reducible assumption) | (with_reducible refine Below.alloc ?_ ?_ _) | (with_reducible refine Below.setCell ?_ ?_ _) | (with_reducible refine Below.drew ?_) | (with_reducible refine below_drewN ?_ _) | (apply bthen2; (with_reducible assumption)) | go_size))
    clear qx0 qx1 qxl qy0 qy1 qyl
    clear hV hB Xx Xy I1 I2
    refine (HG1.out _ I12 I22).mono ?_; rintro e9 wy4 ⟨a3, l3, c3, rfl, O3, hb⟩
    have Xx := Yx.below hb
    have Xy := Yy.below hb
    have hB := bthen2 hb hB2
    have I1 := I12.below hb
    have I2 := I22.below hb
    clear hb hB2 Yx Yy I12 I22 HG1
    have qx0 := Xx.2.1 0 _ rfl; have qx1 := Xx.2.1 1 _ rfl; have qxl := Xx.1
    have qy0 := Xy.2.1 0 _ rfl; have qy1 := Xy.2.1 1 _ rfl; have qyl := Xy.1
    have I3 := O3.ints; clear O3
    go_wp2_with fail
    refine name_worldM (fun V hV => ?_)
    have Yx : Box V (wy1.heap.size) [.bool n1, .slice a1 l1 c1] := (by subst hV; repeat' (first | assumption | (with_reducible refine Box.alloc ?_ _) | (with_reducible refine Box.set_ne ?_ (by first | (simp; done) | (simp; omega)) _)))
    have Yy : Box V (wy1.heap.size + 1) [.bool n2, .slice a2 l2 c2] := (by subst hV; repeat' (first | assumption | (with_reducible refine Box.alloc ?_ _) | (with_reducible refine Box.set_ne ?_ (by first | (simp; done) | (simp; omega)) _)))
    have Yg : Box V (wy4.heap.size) [.bool false, .slice a3 l3 c3] := (by subst hV; exact box_two (by first | omega | (simp; done) | (simp; omega)) (by simp [go_sem]) (by simp [go_sem]) (fun o => by simp [go_sem]))
    have hBz := hB.size
    have hB2 : Below w.heap.size w V := by subst hV; repeat' (first | (with_reducible exact Below.refl _ _) | (with_reducible assumption) | (with_reducible refine Below.alloc ?_ ?_ _) | (with_reducible refine Below.setCell ?_ ?_ _) | (with_reducible refine Below.drew ?_) | (with_reducible refine below_drewN ?_ _) | (apply bthen2; (with_reducible assumption)) | go_size)
    clear hBz
    have I12 : Ints V (.slice a1 l1 c1) xs := by subst hV; exact Ints.below I1 (by repeat' (first | (with_reducible exact Below.refl _ _) | (with_reducible assumption) | (with_reducible refine Below.alloc ?_ ?_ _) | (with_reducible refine Below.setCell ?_ ?_ _) | (with_reducible refine Below.drew ?_) | (with_reducible refine below_drewN ?_ _) | (apply bthen2; (with_reducible assumption)) | go_size))
    have I22 : Ints V (.slice a2 l2 c2) ys := by subst hV; exact Ints.below I2 (by repeat' (first | (with_reducible exact Below.refl _ _) | (with_reducible assumption) | (with_reducible refine Below.alloc ?_ ?_ _) | (with_reducible refine Below.setCell ?_ ?_ _) | (with_reducible refine Below.drew ?_) | (with_reducible refine below_drewN ?_ _) | (apply bthen2; (with_reducible assumption)) | go_size))
    have I32 : Ints V (.slice a3 l3 c3) [] := by subst hV; exact Ints.below I3 (by repeat' (first | (with_reducible exact Below.refl _ _) | (with_reducible assumption) | (with_reducible refine Below.alloc ?_ ?_ _) | (with_reducible refine Below.setCell ?_ ?_ _) | (with_reducible refine Below.drew ?_) | (with_reducible refine below_drewN ?_ _) | (apply bthen2; (with_reducible assumption)) | go_size))
    clear qx0 qx1 qxl qy0 qy1 qyl
    clear hV hB Xx Xy I1 I2 I3
    refine (HG2.out _ I12 I22).mono ?_; rintro e9 wy5 ⟨a4, l4, c4, rfl, O4, hb⟩
    have Xx := Yx.below hb
    have Xy := Yy.below hb
    have Xg := Yg.below hb
    have hB := bthen2 hb hB2
    have I1 := I12.below hb
    have I2 := I22.below hb
    have I3 := I32.below hb
    clear hb hB2 Yx Yy Yg I12 I22 I32 HG2
    have qx0 := Xx.2.1 0 _ rfl; have qx1 := Xx.2.1 1 _ rfl; have qxl := Xx.1
    have qy0 := Xy.2.1 0 _ rfl; have qy1 := Xy.2.1 1 _ rfl; have qyl := Xy.1
    have qg0 := Xg.2.1 0 _ rfl; have qg1 := Xg.2.1 1 _ rfl; have qgl := Xg.1
    have I4 := O4.ints; clear O4
    go_wp2_with fail
    refine name_worldM (fun V hV => ?_)
    have Yx : Box V (wy1.heap.size) [.bool n1, .slice a1 l1 c1] := (by subst hV; repeat' (first | assumption | (with_reducible refine Box.alloc ?_ _) | (with_reducible refine Box.set_ne ?_ (by first | (simp; done) | (simp; omega)) _)))
    have Yy : Box V (wy1.heap.size + 1) [.bool n2, .slice a2 l2 c2] := (by subst hV; repeat' (first | assumption | (with_reducible refine Box.alloc ?_ _) | (with_reducible refine Box.set_ne ?_ (by first | (simp; done) | (simp; omega)) _)))
    have Yg : Box V (wy4.heap.size) [.bool false, .slice a3 l3 c3] := (by subst hV; repeat' (first | assumption | (with_reducible refine Box.alloc ?_ _) | (with_reducible refine Box.set_ne ?_ (by first | (simp; done) | (simp; omega)) _)))
    have Yh : Box V (wy5.heap.size) [.bool false, .slice a4 l4 c4] := (by subst hV; exact box_two (by first | omega | (simp; done) | (simp; omega)) (by simp [go_sem]) (by simp [go_sem]) (fun o => by simp [go_sem]))
    have hBz := hB.size
    have hB2 : Below w.heap.size w V := by subst hV; repeat' (first | (with_reducible exact Below.refl _ _) | (with_reducible assumption) | (with_reducible refine Below.alloc ?_ ?_ _) | (with_reducible refine Below.setCell ?_ ?_ _) | (with_reducible refine Below.drew ?_) | (with_reducible refine below_drewN ?_ _) | (apply bthen2; (with_reducible assumption)) | go_size)
    clear hBz
    have I12 : Ints V (.slice a1 l1 c1) xs := by subst hV; exact Ints.below I1 (by repeat' (first | (with_reducible exact Below.refl _ _) | (with_reducible assumption) | (with_reducible refine Below.alloc ?_ ?_ _) | (with_reducible refine Below.setCell ?_ ?_ _) | (with_reducible refine Below.drew ?_) | (with_reducible refine below_drewN ?_ _) | (apply bthen2; (with_reducible assumption)) | go_size))
    have I22 : Ints V (.slice a2 l2 c2) ys := by subst hV; exact Ints.below I2 (by repeat' (first | (with_reducible exact Below.refl _ _) | (with_reducible assumption) | (with_reducible refine Below.alloc ?_ ?_ _) | (with_reducible refine Below.setCell ?_ ?_ _) | (with_reducible refine Below.drew ?_) | (with_reducible refine below_drewN ?_ _) | (apply bthen2; (with_reducible assumption)) | go_size))
    have I32 : Ints V (.slice a3 l3 c3) [] := by subst hV; exact Ints.below I3 (by repeat' (first | (with_reducible exact Below.refl _ _) | (with_reducible assumption) | (with_reducible refine Below.alloc ?_ ?_ _) | (with_reducible refine Below.setCell ?_ ?_ _) | (with_reducible refine Below.drew ?_) | (with_reducible refine below_drewN ?_ _) | (apply bthen2; (with_reducible assumption)) | go_size))
    have I42 : Ints V (.slice a4 l4 c4) [] := by subst hV; exact Ints.below I4 (by repeat' (first | (with_reducible exact Below.refl _ _) | (with_reducible assumption) | (with_reducible refine Below.alloc ?_ ?_ _) | (with_reducible refine Below.setCell ?_ ?_ _) | (with_reducible refine Below.drew ?_) | (with_reducible refine below_drewN ?_ _) | (apply bthen2; (with_reducible assumption)) | go_size))
    clear qx0 qx1 qxl qy0 qy1 qyl qg0 qg1 qgl
    clear hV hB Xx Xy Xg I1 I2 I3 I4
    refine (HB1.out _ I12 I22).mono ?_; rintro e9 wy6 ⟨rfl, hb⟩
    have Xx := Yx.below hb
    have Xy := Yy.below hb
    have Xg := Yg.below hb
    have Xh := Yh.below hb
    have hB := bthen2 hb hB2
    have I1 := I12.below hb
    have I2 := I22.below hb
    have I3 := I32.below hb
    have I4 := I42.below hb
    clear hb hB2 Yx Yy Yg Yh I12 I22 I32 I42 HB1
    have qx0 := Xx.2.1 0 _ rfl; have qx1 := Xx.2.1 1 _ rfl; have qxl := Xx.1
    have qy0 := Xy.2.1 0 _ rfl; have qy1 := Xy.2.1 1 _ rfl; have qyl := Xy.1
    have qg0 := Xg.2.1 0 _ rfl; have qg1 := Xg.2.1 1 _ rfl; have qgl := Xg.1
    have qh0 := Xh.2.1 0 _ rfl; have qh1 := Xh.2.1 1 _ rfl; have qhl := Xh.1
    go_wp2_with fail
    refine name_worldM (fun V hV => ?_)
    have Yx : Box V (wy1.heap.size) [.bool n1, .slice a1 l1 c1] := (by subst hV; repeat' (first | assumption | (with_reducible refine Box.alloc ?_ _) | (with_reducible refine Box.set_ne ?_ (by first | (simp; done) | (simp; omega)) _)))
    have Yy : Box V (wy1.heap.size + 1) [.bool n2, .slice a2 l2 c2] := (by subst hV; repeat' (first | assumption | (with_reducible refine Box.alloc ?_ _) | (with_reducible refine Box.set_ne ?_ (by first | (simp; done) | (simp; omega)) _)))
    have Yg : Box V (wy4.heap.size) [.bool false, .slice a3 l3 c3] := (by subst hV; repeat' (first | assumption | (with_reducible refine Box.alloc ?_ _) | (with_reducible refine Box.set_ne ?_ (by first | (simp; done) | (simp; omega)) _)))
    have Yh : Box V (wy5.heap.size) [.bool false, .slice a4 l4 c4] := (by subst hV; repeat' (first | assumption | (with_reducible refine Box.alloc ?_ _) | (with_reducible refine Box.set_ne ?_ (by first | (simp; done) | (simp; omega)) _)))
    have hBz := hB.size
    have hB2 : Below w.heap.size w V := by subst hV; repeat' (first | (with_reducible exact Below.refl _ _) | (with_reducible assumption) | (with_reducible refine Below.alloc ?_ ?_ _) | (with_reducible refine Below.setCell ?_ ?_ _) | (with_reducible refine Below.drew ?_) | (with_reducible refine below_drewN ?_ _) | (apply bthen2; (with_reducible assumption)) | go_size)
    clear hBz
    have I12 : Ints V (.slice a1 l1 c1) xs := by subst hV; exact Ints.below I1 (by repeat' (first | (with_reducible exact Below.refl _ _) | (with_reducible assumption) | (with_reducible refine Below.alloc ?_ ?_ _) | (with_reducible refine Below.setCell ?_ ?_ _) | (with_reducible refine Below.drew ?_) | (with_reducible refine below_drewN ?_ _) | (apply bthen2; (with_reducible assumption)) | go_size))
    have I22 : Ints V (.slice a2 l2 c2) ys := by subst hV; exact Ints.below I2 (by repeat' (first | (with_reducible exact Below.refl _ _) | (with_reducible assumption) | (with_reducible refine Below.alloc ?_ ?_ _) | (with_reducible refine Below.setCell ?_ ?_ _) | (with_reducible refine Below.drew ?_) | (with_reducible refine below_drewN ?_ _) | (apply bthen2; (with_reducible assumption)) | go_size))
    have I32 : Ints V (.slice a3 l3 c3) [] := by subst hV; exact Ints.below I3 (by repeat' (first | (with_reducible exact Below.refl _ _) | (with_reducible assumption) | (with_reducible refine Below.alloc ?_ ?_ _) | (with_reducible refine Below.setCell ?_ ?_ _) | (with_reducible refine Below.drew ?_) | (with_reducible refine below_drewN ?_ _) | (apply bthen2; (with_reducible assumption)) | go_size))
    have I42 : Ints V (.slice a4 l4 c4) [] := by subst hV; exact Ints.below I4 (by repeat' (first | (with_reducible exact Below.refl _ _) | (with_reducible assumption) | (with_reducible refine Below.alloc ?_ ?_ _) | (with_reducible refine Below.setCell ?_ ?_ _) | (with_reducible refine Below.drew ?_) | (with_reducible refine below_drewN ?_ _) | (apply bthen2; (with_reducible assumption)) | go_size))
    clear qx0 qx1 qxl qy0 qy1 qyl qg0 qg1 qgl qh0 qh1 qhl
    clear hV hB Xx Xy Xg Xh I1 I2 I3 I4
    refine (HB2.out _ I12 I22).mono ?_; rintro e9 wy7 ⟨rfl, hb⟩
    have Xx := Yx.below hb
    have Xy := Yy.below hb
    have Xg := Yg.below hb
    have Xh := Yh.below hb
    have hB := bthen2 hb hB2
    have I1 := I12.below hb
    have I2 := I22.below hb
    have I3 := I32.below hb
    have I4 := I42.below hb
    clear hb hB2 Yx Yy Yg Yh I12 I22 I32 I42 HB2
    have qx0 := Xx.2.1 0 _ rfl; have qx1 := Xx.2.1 1 _ rfl; have qxl := Xx.1
    have qy0 := Xy.2.1 0 _ rfl; have qy1 := Xy.2.1 1 _ rfl; have qyl := Xy.1
    have qg0 := Xg.2.1 0 _ rfl; have qg1 := Xg.2.1 1 _ rfl; have qgl := Xg.1
    have qh0 := Xh.2.1 0 _ rfl; have qh1 := Xh.2.1 1 _ rfl; have qhl := Xh.1
    go_wp2_with fail
    refine name_worldM (fun V hV => ?_)
    have Yx : Box V (wy1.heap.size) [.bool n1, .slice a1 l1 c1] := (by subst hV; repeat' (first | assumption | (with_reducible refine Box.alloc ?_ _) | (with_reducible refine Box.set_ne ?_ (by first | (simp; done) | (simp; omega)) _)))
    have Yy : Box V (wy1.heap.size + 1) [.bool n2, .slice a2 l2 c2] := (by subst hV; repeat' (first | assumption | (with_reducible refine Box.alloc ?_ _) | (with_reducible refine Box.set_ne ?_ (by first | (simp; done) | (simp; omega)) _)))
    have Yg : Box V (wy4.heap.size) [.bool false, .slice a3 l3 c3] := (by subst hV; repeat' (first | assumption | (with_reducible refine Box.alloc ?_ _) | (with_reducible refine Box.set_ne ?_ (by first | (simp; done) | (simp; omega)) _)))
    have Yh : Box V (wy5.heap.size) [.bool false, .slice a4 l4 c4] := (by subst hV; repeat' (first | assumption | (with_reducible refine Box.alloc ?_ _) | (with_reducible refine Box.set_ne ?_ (by first | (simp; done) | (simp; omega)) _)))
    have hBz := hB.size
    have hB2 : Below w.heap.size w V := by subst hV; repeat' (first | (with_reducible exact Below.refl _ _) | (with_reducible assumption) | (with_reducible refine Below.alloc ?_ ?_ _) | (with_reducible refine Below.setCell ?_ ?_ _) | (with_reducible refine Below.drew ?_) | (with_reducible refine below_drewN ?_ _) | (apply bthen2; (with_reducible assumption)) | go_size)
    clear hBz
    have I12 : Ints V (.slice a1 l1 c1) xs := by subst hV; exact Ints.below I1 (by repeat' (first | (with_reducible exact Below.refl _ _) | (with_reducible assumption) | (with_reducible refine Below.alloc ?_ ?_ _) | (with_reducible refine Below.setCell ?_ ?_ _) | (with_reducible refine Below.drew ?_) | (with_reducible refine below_drewN ?_ _) | (apply bthen2; (with_reducible assumption)) | go_size))
    have I22 : Ints V (.slice a2 l2 c2) ys := by subst hV; exact Ints.below I2 (by repeat' (first | (with_reducible exact Below.refl _ _) | (with_reducible assumption) | (with_reducible refine Below.alloc ?_ ?_ _) | (with_reducible refine Below.setCell ?_ ?_ _) | (with_reducible refine Below.drew ?_) | (with_reducible refine below_drewN ?_ _) | (apply bthen2; (with_reducible assumption)) | go_size))
    have I32 : Ints V (.slice a3 l3 c3) [] := by subst hV; exact Ints.below I3 (by repeat' (first | (with_reducible exact Below.refl _ _) | (with_reducible assumption) | (with_reducible refine Below.alloc ?_ ?_ _) | (with_reducible refine Below.setCell ?_ ?_ _) | (with_reducible refine Below.drew ?_) | (with_reducible refine below_drewN ?_ _) | (apply bthen2; (with_reducible assumption)) | go_size))
    have I42 : Ints V (.slice a4 l4 c4) [] := by subst hV; exact Ints.below I4 (by repeat' (first | (with_reducible exact Below.refl _ _) | (with_reducible assumption) | (with_reducible refine Below.alloc ?_ ?_ _) | (with_reducible refine Below.setCell ?_ ?_ _) | (with_reducible refine Below.drew ?_) | (with_reducible refine below_drewN ?_ _) | (apply bthen2; (with_reducible assumption)) | go_size))
    clear qx0 qx1 qxl qy0 qy1 qyl qg0 qg1 qgl qh0 qh1 qhl
    clear hV hB Xx Xy Xg Xh I1 I2 I3 I4
    refine (pSameWhole_same false _ _ _ _ _ _ [] _ I32 I42).mono ?_; rintro e9 wy8 ⟨rfl, hb⟩
    have Xx := Yx.below hb
    have Xy := Yy.below hb
    have Xg := Yg.below hb
    have Xh := Yh.below hb
    have hB := bthen2 hb hB2
    have I1 := I12.below hb
    have I2 := I22.below hb
    have I3 := I32.below hb
    have I4 := I42.below hb
    clear hb hB2 Yx Yy Yg Yh I12 I22 I32 I42 
    have qx0 := Xx.2.1 0 _ rfl; have qx1 := Xx.2.1 1 _ rfl; have qxl := Xx.1
    have qy0 := Xy.2.1 0 _ rfl; have qy1 := Xy.2.1 1 _ rfl; have qyl := Xy.1
    have qg0 := Xg.2.1 0 _ rfl; have qg1 := Xg.2.1 1 _ rfl; have qgl := Xg.1
    have qh0 := Xh.2.1 0 _ rfl; have qh1 := Xh.2.1 1 _ rfl; have qhl := Xh.1
    clear I4
    go_wp2_with fail
    go_ret; exact gives rfl (by repeat' (first | (with_reducible exact Below.refl _ _) | (with_reducible assumption) | (with_reducible refine Below.alloc ?_ ?_ _) | (with_reducible refine Below.setCell ?_ ?_ _) | (with_reducible refine Below.drew ?_) | (with_reducible refine below_drewN ?_ _) | (apply bthen2; (with_reducible assumption)) | go_size))
  · obtain ⟨cr, g, gs, e1, e2, hgl, e3⟩ := cmp_yes hv
    rw [e1] at HC1 HC2; rw [e2] at HG1 HG2
    clear hv e1 e2
    rcases e3 with e3 | ⟨bt, p, q, e3, k1, k2, k3, k4, k5, k6⟩
    · rw [e3] at HB1 HB2
      clear HL1 HL2 e3
      go_wp2_with fail
      refine name_worldM (fun V hV => ?_)
      have Yx : Box V (wy1.heap.size) [.bool n1, .slice a1 l1 c1] := (by subst hV; exact box_two (by first | omega | (simp; done) | (simp; omega)) (by simp [go_sem]) (by simp [go_sem]) (fun o => by simp [go_sem]))
      have Yy : Box V (wy1.heap.size + 1) [.bool n2, .slice a2 l2 c2] := (by subst hV; exact box_two (by first | omega | (simp; done) | (simp; omega)) (by simp [go_sem]) (by simp [go_sem]) (fun o => by simp [go_sem]))
      have hBz := hB.size
      have hB2 : Below w.heap.size w V := by subst hV; repeat' (first | (with_reducible exact Below.refl _ _) | (with_reducible assumption) | (with_reducible refine Below.alloc ?_ ?_ _) | (with_reducible refine Below.setCell ?_ ?_ _) | (with_reducible refine Below.drew ?_) | (with_reducible refine below_drewN ?_ _) | (apply bthen2; (with_reducible assumption)) | go_size)
      clear hBz
      have I12 : Ints V (.slice a1 l1 c1) xs := by subst hV; exact Ints.below I1 (by repeat' (first | (with_reducible exact Below.refl _ _) | (with_reducible assumption) | (with_reducible refine Below.alloc ?_ ?_ _) | (with_reducible refine Below.setCell ?_ ?_ _) | (with_reducible refine Below.drew ?_) | (with_reducible refine below_drewN ?_ _) | (apply bthen2; (with_reducible assumption)) | go_size))
      have I22 : Ints V (.slice a2 l2 c2) ys := by subst hV; exact Ints.below I2 (by repeat' (first | (with_reducible exact Below.refl _ _) | (with_reducible assumption) | (with_reducible refine Below.alloc ?_ ?_ _) | (with_reducible refine Below.setCell ?_ ?_ _) | (with_reducible refine Below.drew ?_) | (with_reducible refine below_drewN ?_ _) | (apply bthen2; (with_reducible assumption)) | go_size))
      clear hV hB  I1 I2
      refine (HC1.out _ I12 I22).mono ?_; rintro e9 wy2 ⟨rfl, hb⟩
      have Xx := Yx.below hb
      have Xy := Yy.below hb
      have hB := bthen2 hb hB2
      have I1 := I12.below hb
      have I2 := I22.below hb
      clear hb hB2 Yx Yy I12 I22 HC1
      have qx0 := Xx.2.1 0 _ rfl; have qx1 := Xx.2.1 1 _ rfl; have qxl := Xx.1
      have qy0 := Xy.2.1 0 _ rfl; have qy1 := Xy.2.1 1 _ rfl; have qyl := Xy.1
      go_wp2_with fail
      refine name_worldM (fun V hV => ?_)
      have Yx : Box V (wy1.heap.size) [.bool n1, .slice a1 l1 c1] := (by subst hV; repeat' (first | assumption | (with_reducible refine Box.alloc ?_ _) | (with_reducible refine Box.set_ne ?_ (by first | (simp; done) | (simp; omega)) _)))
      have Yy : Box V (wy1.heap.size + 1) [.bool n2, .slice a2 l2 c2] := (by subst hV; repeat' (first | assumption | (with_reducible refine Box.alloc ?_ _) | (with_reducible refine Box.set_ne ?_ (by first | (simp; done) | (simp; omega)) _)))
      have hBz := hB.size
      have hB2 : Below w.heap.size w V := by subst hV; repeat' (first | (with_reducible exact Below.refl _ _) | (with_reducible assumption) | (with_reducible refine Below.alloc ?_ ?_ _) | (with_reducible refine Below.setCell ?_ ?_ _) | (with_reducible refine Below.drew ?_) | (with_reducible refine below_drewN ?_ _) | (apply bthen2; (with_reducible assumption)) | go_size)
      clear hBz
      have I12 : Ints V (.slice a1 l1 c1) xs := by subst hV; exact Ints.below I1 (by repeat' (first | (with_reducible exact Below.refl _ _) | (with_reducible assumption) | (with_reducible refine Below.alloc ?_ ?_ _) | (with_reducible refine Below.setCell ?_ ?_ _) | (with_reducible refine Below.drew ?_) | (with_reducible refine below_drewN ?_ _) | (apply bthen2; (with_reducible assumption)) | go_size))
      have I22 : Ints V (.slice a2 l2 c2) ys := by subst hV; exact Ints.below I2 (by repeat' (first | (with_reducible exact Below.refl _ _) | (with_reducible assumption) | (with_reducible refine Below.alloc ?_ ?_ _) | (with_reducible refine Below.setCell ?_ ?_ _) | (with_reducible refine Below.drew ?_) | (with_reducible refine below_drewN ?_ _) | (apply bthen2; (with_reducible assumption)) | go_size))
      clear qx0 qx1 qxl qy0 qy1 qyl
      clear hV hB Xx Xy I1 I2
      refine (HC2.out _ I12 I22).mono ?_; rintro e9 wy3 ⟨rfl, hb⟩
      have Xx := Yx.below hb
      have Xy := Yy.below hb
      have hB := bthen2 hb hB2
      have I1 := I12.below hb
      have I2 := I22.below hb
      clear hb hB2 Yx Yy I12 I22 HC2
      have qx0 := Xx.2.1 0 _ rfl; have qx1 := Xx.2.1 1 _ rfl; have qxl := Xx.1
      have qy0 := Xy.2.1 0 _ rfl; have qy1 := Xy.2.1 1 _ rfl; have qyl := Xy.1
      go_wp2_with fail
      refine name_worldM (fun V hV => ?_)
      have Yx : Box V (wy1.heap.size) [.bool n1, .slice a1 l1 c1] := (by subst hV; repeat' (first | assumption | (with_reducible refine Box.alloc ?_ _) | (with_reducible refine Box.set_ne ?_ (by first | (simp; done) | (simp; omega)) _)))
      have Yy : Box V (wy1.heap.size + 1) [.bool n2, .slice a2 l2 c2] := (by subst hV; repeat' (first | assumption | (with_reducible refine Box.alloc ?_ _) | (with_reducible refine Box.set_ne ?_ (by first | (simp; done) | (simp; omega)) _)))
      have hBz := hB.size
      have hB2 : Below w.heap.size w V := by subst hV; repeat' (first | (with_reducible exact Below.refl _ _) | (with_reducible assumption) | (with_reducible refine Below.alloc ?_ ?_ _) | (with_reducible refine Below.setCell ?_ ?_ _) | (with_reducible refine Below.drew ?_) | (with_reducible refine below_drewN ?_ _) | (apply bthen2; (with_reducible assumption)) | go_size)
      clear hBz
      have I12 : Ints V (.slice a1 l1 c1) xs := by subst hV; exact Ints.below I1 (by repeat' (first | (with_reducible exact Below.refl _ _) | (with_reducible assumption) | (with_reducible refine Below.alloc ?_ ?_ _) | (with_reducible refine Below.setCell ?_ ?_ _) | (with_reducible refine Below.drew ?_) | (with_reducible refine below_drewN ?_ _) | (apply bthen2; (with_reducible assumption)) | go_size))
      have I22 : Ints V (.slice a2 l2 c2) ys := by subst hV; exact Ints.below I2 (by repeat' (first | (with_reducible exact Below.refl _ _) | (with_reducible assumption) | (with_reducible refine Below.alloc ?_ ?_ _) | (with_reducible refine Below.setCell ?_ ?_ _) | (with_reducible refine Below.drew ?_) | (with_reducible refine below_drewN ?_ _) | (apply bthen2; (with_reducible assumption)) | go_size))
      clear qx0 qx1 qxl qy0 qy1 qyl
      clear hV hB Xx Xy I1 I2
      refine (HG1.out _ I12 I22).mono ?_; rintro e9 wy4 ⟨a3, l3, c3, rfl, O3, hb⟩
      have Xx := Yx.below hb
      have Xy := Yy.below hb
      have hB := bthen2 hb hB2
      have I1 := I12.below hb
      have I2 := I22.below hb
      clear hb hB2 Yx Yy I12 I22 HG1
      have qx0 := Xx.2.1 0 _ rfl; have qx1 := Xx.2.1 1 _ rfl; have qxl := Xx.1
      have qy0 := Xy.2.1 0 _ rfl; have qy1 := Xy.2.1 1 _ rfl; have qyl := Xy.1
      have I3 := O3.ints; clear O3
      go_wp2_with fail
      refine name_worldM (fun V hV => ?_)
      have Yx : Box V (wy1.heap.size) [.bool n1, .slice a1 l1 c1] := (by subst hV; repeat' (first | assumption | (with_reducible refine Box.alloc ?_ _) | (with_reducible refine Box.set_ne ?_ (by first | (simp; done) | (simp; omega)) _)))
      have Yy : Box V (wy1.heap.size + 1) [.bool n2, .slice a2 l2 c2] := (by subst hV; repeat' (first | assumption | (with_reducible refine Box.alloc ?_ _) | (with_reducible refine Box.set_ne ?_ (by first | (simp; done) | (simp; omega)) _)))
      have Yg : Box V (wy4.heap.size) [.bool g, .slice a3 l3 c3] := (by subst hV; exact box_two (by first | omega | (simp; done) | (simp; omega)) (by simp [go_sem]) (by simp [go_sem]) (fun o => by simp [go_sem]))
      have hBz := hB.size
      have hB2 : Below w.heap.size w V := by subst hV; repeat' (first | (with_reducible exact Below.refl _ _) | (with_reducible assumption) | (with_reducible refine Below.alloc ?_ ?_ _) | (with_reducible refine Below.setCell ?_ ?_ _) | (with_reducible refine Below.drew ?_) | (with_reducible refine below_drewN ?_ _) | (apply bthen2; (with_reducible assumption)) | go_size)
      clear hBz
      have I12 : Ints V (.slice a1 l1 c1) xs := by subst hV; exact Ints.below I1 (by repeat' (first | (with_reducible exact Below.refl _ _) | (with_reducible assumption) | (with_reducible refine Below.alloc ?_ ?_ _) | (with_reducible refine Below.setCell ?_ ?_ _) | (with_reducible refine Below.drew ?_) | (with_reducible refine below_drewN ?_ _) | (apply bthen2; (with_reducible assumption)) | go_size))
      have I22 : Ints V (.slice a2 l2 c2) ys := by subst hV; exact Ints.below I2 (by repeat' (first | (with_reducible exact Below.refl _ _) | (with_reducible assumption) | (with_reducible refine Below.alloc ?_ ?_ _) | (with_reducible refine Below.setCell ?_ ?_ _) | (with_reducible refine Below.drew ?_) | (with_reducible refine below_drewN ?_ _) | (apply bthen2; (with_reducible assumption)) | go_size))
      have I32 : Ints V (.slice a3 l3 c3) gs := by subst hV; exact Ints.below I3 (by repeat' (first | (with_reducible exact Below.refl _ _) | (with_reducible assumption) | (with_reducible refine Below.alloc ?_ ?_ _) | (with_reducible refine Below.setCell ?_ ?_ _) | (with_reducible refine Below.drew ?_) | (with_reducible refine below_drewN ?_ _) | (apply bthen2; (with_reducible assumption)) | go_size))
      clear qx0 qx1 qxl qy0 qy1 qyl
      clear hV hB Xx Xy I1 I2 I3
      refine (HG2.out _ I12 I22).mono ?_; rintro e9 wy5 ⟨a4, l4, c4, rfl, O4, hb⟩
      have Xx := Yx.below hb
      have Xy := Yy.below hb
      have Xg := Yg.below hb
      have hB := bthen2 hb hB2
      have I1 := I12.below hb
      have I2 := I22.below hb
      have I3 := I32.below hb
      clear hb hB2 Yx Yy Yg I12 I22 I32 HG2
      have qx0 := Xx.2.1 0 _ rfl; have qx1 := Xx.2.1 1 _ rfl; have qxl := Xx.1
      have qy0 := Xy.2.1 0 _ rfl; have qy1 := Xy.2.1 1 _ rfl; have qyl := Xy.1
      have qg0 := Xg.2.1 0 _ rfl; have qg1 := Xg.2.1 1 _ rfl; have qgl := Xg.1
      have I4 := O4.ints; clear O4
      go_wp2_with fail
      refine name_worldM (fun V hV => ?_)
      have Yx : Box V (wy1.heap.size) [.bool n1, .slice a1 l1 c1] := (by subst hV; repeat' (first | assumption | (with_reducible refine Box.alloc ?_ _) | (with_reducible refine Box.set_ne ?_ (by first | (simp; done) | (simp; omega)) _)))
      have Yy : Box V (wy1.heap.size + 1) [.bool n2, .slice a2 l2 c2] := (by subst hV; repeat' (first | assumption | (with_reducible refine Box.alloc ?_ _) | (with_reducible refine Box.set_ne ?_ (by first | (simp; done) | (simp; omega)) _)))
      have Yg : Box V (wy4.heap.size) [.bool g, .slice a3 l3 c3] := (by subst hV; repeat' (first | assumption | (with_reducible refine Box.alloc ?_ _) | (with_reducible refine Box.set_ne ?_ (by first | (simp; done) | (simp; omega)) _)))
      have Yh : Box V (wy5.heap.size) [.bool g, .slice a4 l4 c4] := (by subst hV; exact box_two (by first | omega | (simp; done) | (simp; omega)) (by simp [go_sem]) (by simp [go_sem]) (fun o => by simp [go_sem]))
      have hBz := hB.size
      have hB2 : Below w.heap.size w V := by subst hV; repeat' (first | (with_reducible exact Below.refl _ _) | (with_reducible assumption) | (with_reducible refine Below.alloc ?_ ?_ _) | (with_reducible refine Below.setCell ?_ ?_ _) | (with_reducible refine Below.drew ?_) | (with_reducible refine below_drewN ?_ _) | (apply bthen2; (with_reducible assumption)) | go_size)
      clear hBz
      have I12 : Ints V (.slice a1 l1 c1) xs := by subst hV; exact Ints.below I1 (by repeat' (first | (with_reducible exact Below.refl _ _) | (with_reducible assumption) | (with_reducible refine Below.alloc ?_ ?_ _) | (with_reducible refine Below.setCell ?_ ?_ _) | (with_reducible refine Below.drew ?_) | (with_reducible refine below_drewN ?_ _) | (apply bthen2; (with_reducible assumption)) | go_size))
      have I22 : Ints V (.slice a2 l2 c2) ys := by subst hV; exact Ints.below I2 (by repeat' (first | (with_reducible exact Below.refl _ _) | (with_reducible assumption) | (with_reducible refine Below.alloc ?_ ?_ _) | (with_reducible refine Below.setCell ?_ ?_ _) | (with_reducible refine Below.drew ?_) | (with_reducible refine below_drewN ?_ _) | (apply bthen2; (with_reducible assumption)) | go_size))
      have I32 : Ints V (.slice a3 l3 c3) gs := by subst hV; exact Ints.below I3 (by repeat' (first | (with_reducible exact Below.refl _ _) | (with_reducible assumption) | (with_reducible refine Below.alloc ?_ ?_ _) | (with_reducible refine Below.setCell ?_ ?_ _) | (with_reducible refine Below.drew ?_) | (with_reducible refine below_drewN ?_ _) | (apply bthen2; (with_reducible assumption)) | go_size))
      have I42 : Ints V (.slice a4 l4 c4) gs := by subst hV; exact Ints.below I4 (by repeat' (first | (with_reducible exact Below.refl _ _) | (with_reducible assumption) | (with_reducible refine Below.alloc ?_ ?_ _) | (with_reducible refine Below.setCell ?_ ?_ _) | (with_reducible refine Below.drew ?_) | (with_reducible refine below_drewN ?_ _) | (apply bthen2; (with_reducible assumption)) | go_size))
      clear qx0 qx1 qxl qy0 qy1 qyl qg0 qg1 qgl
      clear hV hB Xx Xy Xg I1 I2 I3 I4
      refine (HB1.out _ I12 I22).mono ?_; rintro e9 wy6 ⟨rfl, hb⟩
      have Xx := Yx.below hb
      have Xy := Yy.below hb
      have Xg := Yg.below hb
      have Xh := Yh.below hb
      have hB := bthen2 hb hB2
      have I1 := I12.below hb
      have I2 := I22.below hb
      have I3 := I32.below hb
      have I4 := I42.below hb
      clear hb hB2 Yx Yy Yg Yh I12 I22 I32 I42 HB1
      have qx0 := Xx.2.1 0 _ rfl; have qx1 := Xx.2.1 1 _ rfl; have qxl := Xx.1
      have qy0 := Xy.2.1 0 _ rfl; have qy1 := Xy.2.1 1 _ rfl; have qyl := Xy.1
      have qg0 := Xg.2.1 0 _ rfl; have qg1 := Xg.2.1 1 _ rfl; have qgl := Xg.1
      have qh0 := Xh.2.1 0 _ rfl; have qh1 := Xh.2.1 1 _ rfl; have qhl := Xh.1
      go_wp2_with fail
      refine name_worldM (fun V hV => ?_)
      have Yx : Box V (wy1.heap.size) [.bool n1, .slice a1 l1 c1] := (by subst hV; repeat' (first | assumption | (with_reducible refine Box.alloc ?_ _) | (with_reducible refine Box.set_ne ?_ (by first | (simp; done) | (simp; omega)) _)))
      have Yy : Box V (wy1.heap.size + 1) [.bool n2, .slice a2 l2 c2] := (by subst hV; repeat' (first | assumption | (with_reducible refine Box.alloc ?_ _) | (with_reducible refine Box.set_ne ?_ (by first | (simp; done) | (simp; omega)) _)))
      have Yg : Box V (wy4.heap.size) [.bool g, .slice a3 l3 c3] := (by subst hV; repeat' (first | assumption | (with_reducible refine Box.alloc ?_ _) | (with_reducible refine Box.set_ne ?_ (by first | (simp; done) | (simp; omega)) _)))
      have Yh : Box V (wy5.heap.size) [.bool g, .slice a4 l4 c4] := (by subst hV; repeat' (first | assumption | (with_reducible refine Box.alloc ?_ _) | (with_reducible refine Box.set_ne ?_ (by first | (simp; done) | (simp; omega)) _)))
      have hBz := hB.size
      have hB2 : Below w.heap.size w V := by subst hV; repeat' (first | (with_reducible exact Below.refl _ _) | (with_reducible assumption) | (with_reducible refine Below.alloc ?_ ?_ _) | (with_reducible refine Below.setCell ?_ ?_ _) | (with_reducible refine Below.drew ?_) | (with_reducible refine below_drewN ?_ _) | (apply bthen2; (with_reducible assumption)) | go_size)
      clear hBz
      have I12 : Ints V (.slice a1 l1 c1) xs := by subst hV; exact Ints.below I1 (by repeat' (first | (with_reducible exact Below.refl _ _) | (with_reducible assumption) | (with_reducible refine Below.alloc ?_ ?_ _) | (with_reducible refine Below.setCell ?_ ?_ _) | (with_reducible refine Below.drew ?_) | (with_reducible refine below_drewN ?_ _) | (apply bthen2; (with_reducible assumption)) | go_size))
      have I22 : Ints V (.slice a2 l2 c2) ys := by subst hV; exact Ints.below I2 (by repeat' (first | (with_reducible exact Below.refl _ _) | (with_reducible assumption) | (with_reducible refine Below.alloc ?_ ?_ _) | (with_reducible refine Below.setCell ?_ ?_ _) | (with_reducible refine Below.drew ?_) | (with_reducible refine below_drewN ?_ _) | (apply bthen2; (with_reducible assumption)) | go_size))
      have I32 : Ints V (.slice a3 l3 c3) gs := by subst hV; exact Ints.below I3 (by repeat' (first | (with_reducible exact Below.refl _ _) | (with_reducible assumption) | (with_reducible refine Below.alloc ?_ ?_ _) | (with_reducible refine Below.setCell ?_ ?_ _) | (with_reducible refine Below.drew ?_) | (with_reducible refine below_drewN ?_ _) | (apply bthen2; (with_reducible assumption)) | go_size))
      have I42 : Ints V (.slice a4 l4 c4) gs := by subst hV; exact Ints.below I4 (by repeat' (first | (with_reducible exact Below.refl _ _) | (with_reducible assumption) | (with_reducible refine Below.alloc ?_ ?_ _) | (with_reducible refine Below.setCell ?_ ?_ _) | (with_reducible refine Below.drew ?_) | (with_reducible refine below_drewN ?_ _) | (apply bthen2; (with_reducible assumption)) | go_size))
      clear qx0 qx1 qxl qy0 qy1 qyl qg0 qg1 qgl qh0 qh1 qhl
      clear hV hB Xx Xy Xg Xh I1 I2 I3 I4
      refine (HB2.out _ I12 I22).mono ?_; rintro e9 wy7 ⟨rfl, hb⟩
      have Xx := Yx.below hb
      have Xy := Yy.below hb
      have Xg := Yg.below hb
      have Xh := Yh.below hb
      have hB := bthen2 hb hB2
      have I1 := I12.below hb
      have I2 := I22.below hb
      have I3 := I32.below hb
      have I4 := I42.below hb
      clear hb hB2 Yx Yy Yg Yh I12 I22 I32 I42 HB2
      have qx0 := Xx.2.1 0 _ rfl; have qx1 := Xx.2.1 1 _ rfl; have qxl := Xx.1
      have qy0 := Xy.2.1 0 _ rfl; have qy1 := Xy.2.1 1 _ rfl; have qyl := Xy.1
      have qg0 := Xg.2.1 0 _ rfl; have qg1 := Xg.2.1 1 _ rfl; have qgl := Xg.1
      have qh0 := Xh.2.1 0 _ rfl; have qh1 := Xh.2.1 1 _ rfl; have qhl := Xh.1
      go_wp2_with fail
      refine name_worldM (fun V hV => ?_)
      have Yx : Box V (wy1.heap.size) [.bool n1, .slice a1 l1 c1] := (by subst hV; repeat' (first | assumption | (with_reducible refine Box.alloc ?_ _) | (with_reducible refine Box.set_ne ?_ (by first | (simp; done) | (simp; omega)) _)))
      have Yy : Box V (wy1.heap.size + 1) [.bool n2, .slice a2 l2 c2] := (by subst hV; repeat' (first | assumption | (with_reducible refine Box.alloc ?_ _) | (with_reducible refine Box.set_ne ?_ (by first | (simp; done) | (simp; omega)) _)))
      have Yg : Box V (wy4.heap.size) [.bool g, .slice a3 l3 c3] := (by subst hV; repeat' (first | assumption | (with_reducible refine Box.alloc ?_ _) | (with_reducible refine Box.set_ne ?_ (by first | (simp; done) | (simp; omega)) _)))
      have Yh : Box V (wy5.heap.size) [.bool g, .slice a4 l4 c4] := (by subst hV; repeat' (first | assumption | (with_reducible refine Box.alloc ?_ _) | (with_reducible refine Box.set_ne ?_ (by first | (simp; done) | (simp; omega)) _)))
      have hBz := hB.size
      have hB2 : Below w.heap.size w V := by subst hV; repeat' (first | (with_reducible exact Below.refl _ _) | (with_reducible assumption) | (with_reducible refine Below.alloc ?_ ?_ _) | (with_reducible refine Below.setCell ?_ ?_ _) | (with_reducible refine Below.drew ?_) | (with_reducible refine below_drewN ?_ _) | (apply bthen2; (with_reducible assumption)) | go_size)
      clear hBz
      have I12 : Ints V (.slice a1 l1 c1) xs := by subst hV; exact Ints.below I1 (by repeat' (first | (with_reducible exact Below.refl _ _) | (with_reducible assumption) | (with_reducible refine Below.alloc ?_ ?_ _) | (with_reducible refine Below.setCell ?_ ?_ _) | (with_reducible refine Below.drew ?_) | (with_reducible refine below_drewN ?_ _) | (apply bthen2; (with_reducible assumption)) | go_size))
      have I22 : Ints V (.slice a2 l2 c2) ys := by subst hV; exact Ints.below I2 (by repeat' (first | (with_reducible exact Below.refl _ _) | (with_reducible assumption) | (with_reducible refine Below.alloc ?_ ?_ _) | (with_reducible refine Below.setCell ?_ ?_ _) | (with_reducible refine Below.drew ?_) | (with_reducible refine below_drewN ?_ _) | (apply bthen2; (with_reducible assumption)) | go_size))
      have I32 : Ints V (.slice a3 l3 c3) gs := by subst hV; exact Ints.below I3 (by repeat' (first | (with_reducible exact Below.refl _ _) | (with_reducible assumption) | (with_reducible refine Below.alloc ?_ ?_ _) | (with_reducible refine Below.setCell ?_ ?_ _) | (with_reducible refine Below.drew ?_) | (with_reducible refine below_drewN ?_ _) | (apply bthen2; (with_reducible assumption)) | go_size))
      have I42 : Ints V (.slice a4 l4 c4) gs := by subst hV; exact Ints.below I4 (by repeat' (first | (with_reducible exact Below.refl _ _) | (with_reducible assumption) | (with_reducible refine Below.alloc ?_ ?_ _) | (with_reducible refine Below.setCell ?_ ?_ _) | (with_reducible refine Below.drew ?_) | (with_reducible refine below_drewN ?_ _) | (apply bthen2; (with_reducible assumption)) | go_size))
      clear qx0 qx1 qxl qy0 qy1 qyl qg0 qg1 qgl qh0 qh1 qhl
      clear hV hB Xx Xy Xg Xh I1 I2 I3 I4
      refine (pSameWhole_same g _ _ _ _ _ _ gs _ I32 I42).mono ?_; rintro e9 wy8 ⟨rfl, hb⟩
      have Xx := Yx.below hb
      have Xy := Yy.below hb
      have Xg := Yg.below hb
      have Xh := Yh.below hb
      have hB := bthen2 hb hB2
      have I1 := I12.below hb
      have I2 := I22.below hb
      have I3 := I32.below hb
      have I4 := I42.below hb
      clear hb hB2 Yx Yy Yg Yh I12 I22 I32 I42 
      have qx0 := Xx.2.1 0 _ rfl; have qx1 := Xx.2.1 1 _ rfl; have qxl := Xx.1
      have qy0 := Xy.2.1 0 _ rfl; have qy1 := Xy.2.1 1 _ rfl; have qyl := Xy.1
      have qg0 := Xg.2.1 0 _ rfl; have qg1 := Xg.2.1 1 _ rfl; have qgl := Xg.1
      have qh0 := Xh.2.1 0 _ rfl; have qh1 := Xh.2.1 1 _ rfl; have qhl := Xh.1
      clear I4
      go_wp2_with fail
      go_ret; exact gives rfl (by repeat' (first | (with_reducible exact Below.refl _ _) | (with_reducible assumption) | (with_reducible refine Below.alloc ?_ ?_ _) | (with_reducible refine Below.setCell ?_ ?_ _) | (with_reducible refine Below.drew ?_) | (with_reducible refine below_drewN ?_ _) | (apply bthen2; (with_reducible assumption)) | go_size))
    · rw [e3] at HB1 HB2; rw [k1] at HL1; rw [k2] at HL2
      clear e3 k1 k2
      have kb1 : decide (bt < p) = false := by simpa using k4
      have kb2 : decide (bt < q) = false := by simpa using k5
      go_wp2_with fail
      refine name_worldM (fun V hV => ?_)
      have Yx : Box V (wy1.heap.size) [.bool n1, .slice a1 l1 c1] := (by subst hV; exact box_two (by first | omega | (simp; done) | (simp; omega)) (by simp [go_sem]) (by simp [go_sem]) (fun o => by simp [go_sem]))
      have Yy : Box V (wy1.heap.size + 1) [.bool n2, .slice a2 l2 c2] := (by subst hV; exact box_two (by first | omega | (simp; done) | (simp; omega)) (by simp [go_sem]) (by simp [go_sem]) (fun o => by simp [go_sem]))
      have hBz := hB.size
      have hB2 : Below w.heap.size w V := by subst hV; repeat' (first | (with_reducible exact Below.refl _ _) | (with_reducible assumption) | (with_reducible refine Below.alloc ?_ ?_ _) | (with_reducible refine Below.setCell ?_ ?_ _) | (with_reducible refine Below.drew ?_) | (with_reducible refine below_drewN ?_ _) | (apply bthen2; (with_reducible assumption)) | go_size)
      clear hBz
      have I12 : Ints V (.slice a1 l1 c1) xs := by subst hV; exact Ints.below I1 (by repeat' (first | (with_reducible exact Below.refl _ _) | (with_reducible assumption) | (with_reducible refine Below.alloc ?_ ?_ _) | (with_reducible refine Below.setCell ?_ ?_ _) | (with_reducible refine Below.drew ?_) | (with_reducible refine below_drewN ?_ _) | (apply bthen2; (with_reducible assumption)) | go_size))
      have I22 : Ints V (.slice a2 l2 c2) ys := by subst hV; exact Ints.below I2 (by repeat' (first | (with_reducible exact Below.refl _ _) | (with_reducible assumption) | (with_reducible refine Below.alloc ?_ ?_ _) | (with_reducible refine Below.setCell ?_ ?_ _) | (with_reducible refine Below.drew ?_) | (with_reducible refine below_drewN ?_ _) | (apply bthen2; (with_reducible assumption)) | go_size))
      clear hV hB  I1 I2
      refine (HC1.out _ I12 I22).mono ?_; rintro e9 wy2 ⟨rfl, hb⟩
      have Xx := Yx.below hb
      have Xy := Yy.below hb
      have hB := bthen2 hb hB2
      have I1 := I12.below hb
      have I2 := I22.below hb
      clear hb hB2 Yx Yy I12 I22 HC1
      have qx0 := Xx.2.1 0 _ rfl; have qx1 := Xx.2.1 1 _ rfl; have qxl := Xx.1
      have qy0 := Xy.2.1 0 _ rfl; have qy1 := Xy.2.1 1 _ rfl; have qyl := Xy.1
      go_wp2_with fail
      refine name_worldM (fun V hV => ?_)
      have Yx : Box V (wy1.heap.size) [.bool n1, .slice a1 l1 c1] := (by subst hV; repeat' (first | assumption | (with_reducible refine Box.alloc ?_ _) | (with_reducible refine Box.set_ne ?_ (by first | (simp; done) | (simp; omega)) _)))
      have Yy : Box V (wy1.heap.size + 1) [.bool n2, .slice a2 l2 c2] := (by subst hV; repeat' (first | assumption | (with_reducible refine Box.alloc ?_ _) | (with_reducible refine Box.set_ne ?_ (by first | (simp; done) | (simp; omega)) _)))
      have hBz := hB.size
      have hB2 : Below w.heap.size w V := by subst hV; repeat' (first | (with_reducible exact Below.refl _ _) | (with_reducible assumption) | (with_reducible refine Below.alloc ?_ ?_ _) | (with_reducible refine Below.setCell ?_ ?_ _) | (with_reducible refine Below.drew ?_) | (with_reducible refine below_drewN ?_ _) | (apply bthen2; (with_reducible assumption)) | go_size)
      clear hBz
      have I12 : Ints V (.slice a1 l1 c1) xs := by subst hV; exact Ints.below I1 (by repeat' (first | (with_reducible exact Below.refl _ _) | (with_reducible assumption) | (with_reducible refine Below.alloc ?_ ?_ _) | (with_reducible refine Below.setCell ?_ ?_ _) | (with_reducible refine Below.drew ?_) | (with_reducible refine below_drewN ?_ _) | (apply bthen2; (with_reducible assumption)) | go_size))
      have I22 : Ints V (.slice a2 l2 c2) ys := by subst hV; exact Ints.below I2 (by repeat' (first | (with_reducible exact Below.refl _ _) | (with_reducible assumption) | (with_reducible refine Below.alloc ?_ ?_ _) | (with_reducible refine Below.setCell ?_ ?_ _) | (with_reducible refine Below.drew ?_) | (with_reducible refine below_drewN ?_ _) | (apply bthen2; (with_reducible assumption)) | go_size))
      clear qx0 qx1 qxl qy0 qy1 qyl
      clear hV hB Xx Xy I1 I2
      refine (HC2.out _ I12 I22).mono ?_; rintro e9 wy3 ⟨rfl, hb⟩
      have Xx := Yx.below hb
      have Xy := Yy.below hb
      have hB := bthen2 hb hB2
      have I1 := I12.below hb
      have I2 := I22.below hb
      clear hb hB2 Yx Yy I12 I22 HC2
      have qx0 := Xx.2.1 0 _ rfl; have qx1 := Xx.2.1 1 _ rfl; have qxl := Xx.1
      have qy0 := Xy.2.1 0 _ rfl; have qy1 := Xy.2.1 1 _ rfl; have qyl := Xy.1
      go_wp2_with fail
      refine name_worldM (fun V hV => ?_)
      have Yx : Box V (wy1.heap.size) [.bool n1, .slice a1 l1 c1] := (by subst hV; repeat' (first | assumption | (with_reducible refine Box.alloc ?_ _) | (with_reducible refine Box.set_ne ?_ (by first | (simp; done) | (simp; omega)) _)))
      have Yy : Box V (wy1.heap.size + 1) [.bool n2, .slice a2 l2 c2] := (by subst hV; repeat' (first | assumption | (with_reducible refine Box.alloc ?_ _) | (with_reducible refine Box.set_ne ?_ (by first | (simp; done) | (simp; omega)) _)))
      have hBz := hB.size
      have hB2 : Below w.heap.size w V := by subst hV; repeat' (first | (with_reducible exact Below.refl _ _) | (with_reducible assumption) | (with_reducible refine Below.alloc ?_ ?_ _) | (with_reducible refine Below.setCell ?_ ?_ _) | (with_reducible refine Below.drew ?_) | (with_reducible refine below_drewN ?_ _) | (apply bthen2; (with_reducible assumption)) | go_size)
      clear hBz
      have I12 : Ints V (.slice a1 l1 c1) xs := by subst hV; exact Ints.below I1 (by repeat' (first | (with_reducible exact Below.refl _ _) | (with_reducible assumption) | (with_reducible refine Below.alloc ?_ ?_ _) | (with_reducible refine Below.setCell ?_ ?_ _) | (with_reducible refine Below.drew ?_) | (with_reducible refine below_drewN ?_ _) | (apply bthen2; (with_reducible assumption)) | go_size))
      have I22 : Ints V (.slice a2 l2 c2) ys := by subst hV; exact Ints.below I2 (by repeat' (first | (with_reducible exact Below.refl _ _) | (with_reducible assumption) | (with_reducible refine Below.alloc ?_ ?_ _) | (with_reducible refine Below.setCell ?_ ?_ _) | (with_reducible refine Below.drew ?_) | (with_reducible refine below_drewN ?_ _) | (apply bthen2; (with_reducible assumption)) | go_size))
      clear qx0 qx1 qxl qy0 qy1 qyl
      clear hV hB Xx Xy I1 I2
      refine (HG1.out _ I12 I22).mono ?_; rintro e9 wy4 ⟨a3, l3, c3, rfl, O3, hb⟩
      have Xx := Yx.below hb
      have Xy := Yy.below hb
      have hB := bthen2 hb hB2
      have I1 := I12.below hb
      have I2 := I22.below hb
      clear hb hB2 Yx Yy I12 I22 HG1
      have qx0 := Xx.2.1 0 _ rfl; have qx1 := Xx.2.1 1 _ rfl; have qxl := Xx.1
      have qy0 := Xy.2.1 0 _ rfl; have qy1 := Xy.2.1 1 _ rfl; have qyl := Xy.1
      have I3 := O3.ints; clear O3
      go_wp2_with fail
      refine name_worldM (fun V hV => ?_)
      have Yx : Box V (wy1.heap.size) [.bool n1, .slice a1 l1 c1] := (by subst hV; repeat' (first | assumption | (with_reducible refine Box.alloc ?_ _) | (with_reducible refine Box.set_ne ?_ (by first | (simp; done) | (simp; omega)) _)))
      have Yy : Box V (wy1.heap.size + 1) [.bool n2, .slice a2 l2 c2] := (by subst hV; repeat' (first | assumption | (with_reducible refine Box.alloc ?_ _) | (with_reducible refine Box.set_ne ?_ (by first | (simp; done) | (simp; omega)) _)))
      have Yg : Box V (wy4.heap.size) [.bool g, .slice a3 l3 c3] := (by subst hV; exact box_two (by first | omega | (simp; done) | (simp; omega)) (by simp [go_sem]) (by simp [go_sem]) (fun o => by simp [go_sem]))
      have hBz := hB.size
      have hB2 : Below w.heap.size w V := by subst hV; repeat' (first | (with_reducible exact Below.refl _ _) | (with_reducible assumption) | (with_reducible refine Below.alloc ?_ ?_ _) | (with_reducible refine Below.setCell ?_ ?_ _) | (with_reducible refine Below.drew ?_) | (with_reducible refine below_drewN ?_ _) | (apply bthen2; (with_reducible assumption)) | go_size)
      clear hBz
      have I12 : Ints V (.slice a1 l1 c1) xs := by subst hV; exact Ints.below I1 (by repeat' (first | (with_reducible exact Below.refl _ _) | (with_reducible assumption) | (with_reducible refine Below.alloc ?_ ?_ _) | (with_reducible refine Below.setCell ?_ ?_ _) | (with_reducible refine Below.drew ?_) | (with_reducible refine below_drewN ?_ _) | (apply bthen2; (with_reducible assumption)) | go_size))
      have I22 : Ints V (.slice a2 l2 c2) ys := by subst hV; exact Ints.below I2 (by repeat' (first | (with_reducible exact Below.refl _ _) | (with_reducible assumption) | (with_reducible refine Below.alloc ?_ ?_ _) | (with_reducible refine Below.setCell ?_ ?_ _) | (with_reducible refine Below.drew ?_) | (with_reducible refine below_drewN ?_ _) | (apply bthen2; (with_reducible assumption)) | go_size))
      have I32 : Ints V (.slice a3 l3 c3) gs := by subst hV; exact Ints.below I3 (by repeat' (first | (with_reducible exact Below.refl _ _) | (with_reducible assumption) | (with_reducible refine Below.alloc ?_ ?_ _) | (with_reducible refine Below.setCell ?_ ?_ _) | (with_reducible refine Below.drew ?_) | (with_reducible refine below_drewN ?_ _) | (apply bthen2; (with_reducible assumption)) | go_size))
      clear qx0 qx1 qxl qy0 qy1 qyl
      clear hV hB Xx Xy I1 I2 I3
      refine (HG2.out _ I12 I22).mono ?_; rintro e9 wy5 ⟨a4, l4, c4, rfl, O4, hb⟩
      have Xx := Yx.below hb
      have Xy := Yy.below hb
      have Xg := Yg.below hb
      have hB := bthen2 hb hB2
      have I1 := I12.below hb
      have I2 := I22.below hb
      have I3 := I32.below hb
      clear hb hB2 Yx Yy Yg I12 I22 I32 HG2
      have qx0 := Xx.2.1 0 _ rfl; have qx1 := Xx.2.1 1 _ rfl; have qxl := Xx.1
      have qy0 := Xy.2.1 0 _ rfl; have qy1 := Xy.2.1 1 _ rfl; have qyl := Xy.1
      have qg0 := Xg.2.1 0 _ rfl; have qg1 := Xg.2.1 1 _ rfl; have qgl := Xg.1
      have I4 := O4.ints; clear O4
      go_wp2_with fail
      refine name_worldM (fun V hV => ?_)
      have Yx : Box V (wy1.heap.size) [.bool n1, .slice a1 l1 c1] := (by subst hV; repeat' (first | assumption | (with_reducible refine Box.alloc ?_ _) | (with_reducible refine Box.set_ne ?_ (by first | (simp; done) | (simp; omega)) _)))
      have Yy : Box V (wy1.heap.size + 1) [.bool n2, .slice a2 l2 c2] := (by subst hV; repeat' (first | assumption | (with_reducible refine Box.alloc ?_ _) | (with_reducible refine Box.set_ne ?_ (by first | (simp; done) | (simp; omega)) _)))
      have Yg : Box V (wy4.heap.size) [.bool g, .slice a3 l3 c3] := (by subst hV; repeat' (first | assumption | (with_reducible refine Box.alloc ?_ _) | (with_reducible refine Box.set_ne ?_ (by first | (simp; done) | (simp; omega)) _)))
      have Yh : Box V (wy5.heap.size) [.bool g, .slice a4 l4 c4] := (by subst hV; exact box_two (by first | omega | (simp; done) | (simp; omega)) (by simp [go_sem]) (by simp [go_sem]) (fun o => by simp [go_sem]))
      have hBz := hB.size
      have hB2 : Below w.heap.size w V := by subst hV; repeat' (first | (with_reducible exact Below.refl _ _) | (with_reducible assumption) | (with_reducible refine Below.alloc ?_ ?_ _) | (with_reducible refine Below.setCell ?_ ?_ _) | (with_reducible refine Below.drew ?_) | (with_reducible refine below_drewN ?_ _) | (apply bthen2; (with_reducible assumption)) | go_size)
      clear hBz
      have I12 : Ints V (.slice a1 l1 c1) xs := by subst hV; exact Ints.below I1 (by repeat' (first | (with_reducible exact Below.refl _ _) | (with_reducible assumption) | (with_reducible refine Below.alloc ?_ ?_ _) | (with_reducible refine Below.setCell ?_ ?_ _) | (with_reducible refine Below.drew ?_) | (with_reducible refine below_drewN ?_ _) | (apply bthen2; (with_reducible assumption)) | go_size))
      have I22 : Ints V (.slice a2 l2 c2) ys := by subst hV; exact Ints.below I2 (by repeat' (first | (with_reducible exact Below.refl _ _) | (with_reducible assumption) | (with_reducible refine Below.alloc ?_ ?_ _) | (with_reducible refine Below.setCell ?_ ?_ _) | (with_reducible refine Below.drew ?_) | (with_reducible refine below_drewN ?_ _) | (apply bthen2; (with_reducible assumption)) | go_size))
      have I32 : Ints V (.slice a3 l3 c3) gs := by subst hV; exact Ints.below I3 (by repeat' (first | (with_reducible exact Below.refl _ _) | (with_reducible assumption) | (with_reducible refine Below.alloc ?_ ?_ _) | (with_reducible refine Below.setCell ?_ ?_ _) | (with_reducible refine Below.drew ?_) | (with_reducible refine below_drewN ?_ _) | (apply bthen2; (with_reducible assumption)) | go_size))
      have I42 : Ints V (.slice a4 l4 c4) gs := by subst hV; exact Ints.below I4 (by repeat' (first | (with_reducible exact Below.refl _ _) | (with_reducible assumption) | (with_reducible refine Below.alloc ?_ ?_ _) | (with_reducible refine Below.setCell ?_ ?_ _) | (with_reducible refine Below.drew ?_) | (with_reducible refine below_drewN ?_ _) | (apply bthen2; (with_reducible assumption)) | go_size))
      clear qx0 qx1 qxl qy0 qy1 qyl qg0 qg1 qgl
      clear hV hB Xx Xy Xg I1 I2 I3 I4
      refine (HB1.out _ I12 I22).mono ?_; rintro e9 wy6 ⟨rfl, hb⟩
      have Xx := Yx.below hb
      have Xy := Yy.below hb
      have Xg := Yg.below hb
      have Xh := Yh.below hb
      have hB := bthen2 hb hB2
      have I1 := I12.below hb
      have I2 := I22.below hb
      have I3 := I32.below hb
      have I4 := I42.below hb
      clear hb hB2 Yx Yy Yg Yh I12 I22 I32 I42 HB1
      have qx0 := Xx.2.1 0 _ rfl; have qx1 := Xx.2.1 1 _ rfl; have qxl := Xx.1
      have qy0 := Xy.2.1 0 _ rfl; have qy1 := Xy.2.1 1 _ rfl; have qyl := Xy.1
      have qg0 := Xg.2.1 0 _ rfl; have qg1 := Xg.2.1 1 _ rfl; have qgl := Xg.1
      have qh0 := Xh.2.1 0 _ rfl; have qh1 := Xh.2.1 1 _ rfl; have qhl := Xh.1
      go_wp2_with fail
      refine name_worldM (fun V hV => ?_)
      have Yx : Box V (wy1.heap.size) [.bool n1, .slice a1 l1 c1] := (by subst hV; repeat' (first | assumption | (with_reducible refine Box.alloc ?_ _) | (with_reducible refine Box.set_ne ?_ (by first | (simp; done) | (simp; omega)) _)))
      have Yy : Box V (wy1.heap.size + 1) [.bool n2, .slice a2 l2 c2] := (by subst hV; repeat' (first | assumption | (with_reducible refine Box.alloc ?_ _) | (with_reducible refine Box.set_ne ?_ (by first | (simp; done) | (simp; omega)) _)))
      have Yg : Box V (wy4.heap.size) [.bool g, .slice a3 l3 c3] := (by subst hV; repeat' (first | assumption | (with_reducible refine Box.alloc ?_ _) | (with_reducible refine Box.set_ne ?_ (by first | (simp; done) | (simp; omega)) _)))
      have Yh : Box V (wy5.heap.size) [.bool g, .slice a4 l4 c4] := (by subst hV; repeat' (first | assumption | (with_reducible refine Box.alloc ?_ _) | (with_reducible refine Box.set_ne ?_ (by first | (simp; done) | (simp; omega)) _)))
      have hBz := hB.size
      have hB2 : Below w.heap.size w V := by subst hV; repeat' (first | (with_reducible exact Below.refl _ _) | (with_reducible assumption) | (with_reducible refine Below.alloc ?_ ?_ _) | (with_reducible refine Below.setCell ?_ ?_ _) | (with_reducible refine Below.drew ?_) | (with_reducible refine below_drewN ?_ _) | (apply bthen2; (with_reducible assumption)) | go_size)
      clear hBz
      have I12 : Ints V (.slice a1 l1 c1) xs := by subst hV; exact Ints.below I1 (by repeat' (first | (with_reducible exact Below.refl _ _) | (with_reducible assumption) | (with_reducible refine Below.alloc ?_ ?_ _) | (with_reducible refine Below.setCell ?_ ?_ _) | (with_reducible refine Below.drew ?_) | (with_reducible refine below_drewN ?_ _) | (apply bthen2; (with_reducible assumption)) | go_size))
      have I22 : Ints V (.slice a2 l2 c2) ys := by subst hV; exact Ints.below I2 (by repeat' (first | (with_reducible exact Below.refl _ _) | (with_reducible assumption) | (with_reducible refine Below.alloc ?_ ?_ _) | (with_reducible refine Below.setCell ?_ ?_ _) | (with_reducible refine Below.drew ?_) | (with_reducible refine below_drewN ?_ _) | (apply bthen2; (with_reducible assumption)) | go_size))
      have I32 : Ints V (.slice a3 l3 c3) gs := by subst hV; exact Ints.below I3 (by repeat' (first | (with_reducible exact Below.refl _ _) | (with_reducible assumption) | (with_reducible refine Below.alloc ?_ ?_ _) | (with_reducible refine Below.setCell ?_ ?_ _) | (with_reducible refine Below.drew ?_) | (with_reducible refine below_drewN ?_ _) | (apply bthen2; (with_reducible assumption)) | go_size))
      have I42 : Ints V (.slice a4 l4 c4) gs := by subst hV; exact Ints.below I4 (by repeat' (first | (with_reducible exact Below.refl _ _) | (with_reducible assumption) | (with_reducible refine Below.alloc ?_ ?_ _) | (with_reducible refine Below.setCell ?_ ?_ _) | (with_reducible refine Below.drew ?_) | (with_reducible refine below_drewN ?_ _) | (apply bthen2; (with_reducible assumption)) | go_size))
      clear qx0 qx1 qxl qy0 qy1 qyl qg0 qg1 qgl qh0 qh1 qhl
      clear hV hB Xx Xy Xg Xh I1 I2 I3 I4
      refine (HB2.out _ I12 I22).mono ?_; rintro e9 wy7 ⟨rfl, hb⟩
      have Xx := Yx.below hb
      have Xy := Yy.below hb
      have Xg := Yg.below hb
      have Xh := Yh.below hb
      have hB := bthen2 hb hB2
      have I1 := I12.below hb
      have I2 := I22.below hb
      have I3 := I32.below hb
      have I4 := I42.below hb
      clear hb hB2 Yx Yy Yg Yh I12 I22 I32 I42 HB2
      have qx0 := Xx.2.1 0 _ rfl; have qx1 := Xx.2.1 1 _ rfl; have qxl := Xx.1
      have qy0 := Xy.2.1 0 _ rfl; have qy1 := Xy.2.1 1 _ rfl; have qyl := Xy.1
      have qg0 := Xg.2.1 0 _ rfl; have qg1 := Xg.2.1 1 _ rfl; have qgl := Xg.1
      have qh0 := Xh.2.1 0 _ rfl; have qh1 := Xh.2.1 1 _ rfl; have qhl := Xh.1
      go_wp2_with fail
      refine name_worldM (fun V hV => ?_)
      have Yx : Box V (wy1.heap.size) [.bool n1, .slice a1 l1 c1] := (by subst hV; repeat' (first | assumption | (with_reducible refine Box.alloc ?_ _) | (with_reducible refine Box.set_ne ?_ (by first | (simp; done) | (simp; omega)) _)))
      have Yy : Box V (wy1.heap.size + 1) [.bool n2, .slice a2 l2 c2] := (by subst hV; repeat' (first | assumption | (with_reducible refine Box.alloc ?_ _) | (with_reducible refine Box.set_ne ?_ (by first | (simp; done) | (simp; omega)) _)))
      have Yg : Box V (wy4.heap.size) [.bool g, .slice a3 l3 c3] := (by subst hV; repeat' (first | assumption | (with_reducible refine Box.alloc ?_ _) | (with_reducible refine Box.set_ne ?_ (by first | (simp; done) | (simp; omega)) _)))
      have Yh : Box V (wy5.heap.size) [.bool g, .slice a4 l4 c4] := (by subst hV; repeat' (first | assumption | (with_reducible refine Box.alloc ?_ _) | (with_reducible refine Box.set_ne ?_ (by first | (simp; done) | (simp; omega)) _)))
      have hBz := hB.size
      have hB2 : Below w.heap.size w V := by subst hV; repeat' (first | (with_reducible exact Below.refl _ _) | (with_reducible assumption) | (with_reducible refine Below.alloc ?_ ?_ _) | (with_reducible refine Below.setCell ?_ ?_ _) | (with_reducible refine Below.drew ?_) | (with_reducible refine below_drewN ?_ _) | (apply bthen2; (with_reducible assumption)) | go_size)
      clear hBz
      have I12 : Ints V (.slice a1 l1 c1) xs := by subst hV; exact Ints.below I1 (by repeat' (first | (with_reducible exact Below.refl _ _) | (with_reducible assumption) | (with_reducible refine Below.alloc ?_ ?_ _) | (with_reducible refine Below.setCell ?_ ?_ _) | (with_reducible refine Below.drew ?_) | (with_reducible refine below_drewN ?_ _) | (apply bthen2; (with_reducible assumption)) | go_size))
      have I22 : Ints V (.slice a2 l2 c2) ys := by subst hV; exact Ints.below I2 (by repeat' (first | (with_reducible exact Below.refl _ _) | (with_reducible assumption) | (with_reducible refine Below.alloc ?_ ?_ _) | (with_reducible refine Below.setCell ?_ ?_ _) | (with_reducible refine Below.drew ?_) | (with_reducible refine below_drewN ?_ _) | (apply bthen2; (with_reducible assumption)) | go_size))
      have I32 : Ints V (.slice a3 l3 c3) gs := by subst hV; exact Ints.below I3 (by repeat' (first | (with_reducible exact Below.refl _ _) | (with_reducible assumption) | (with_reducible refine Below.alloc ?_ ?_ _) | (with_reducible refine Below.setCell ?_ ?_ _) | (with_reducible refine Below.drew ?_) | (with_reducible refine below_drewN ?_ _) | (apply bthen2; (with_reducible assumption)) | go_size))
      have I42 : Ints V (.slice a4 l4 c4) gs := by subst hV; exact Ints.below I4 (by repeat' (first | (with_reducible exact Below.refl _ _) | (with_reducible assumption) | (with_reducible refine Below.alloc ?_ ?_ _) | (with_reducible refine Below.setCell ?_ ?_ _) | (with_reducible refine Below.drew ?_) | (with_reducible refine below_drewN ?_ _) | (apply bthen2; (with_reducible assumption)) | go_size))
      clear qx0 qx1 qxl qy0 qy1 qyl qg0 qg1 qgl qh0 qh1 qhl
      clear hV hB Xx Xy Xg Xh I1 I2 I3 I4
      refine (pSameWhole_same g _ _ _ _ _ _ gs _ I32 I42).mono ?_; rintro e9 wy8 ⟨rfl, hb⟩
      have Xx := Yx.below hb
      have Xy := Yy.below hb
      have Xg := Yg.below hb
      have Xh := Yh.below hb
      have hB := bthen2 hb hB2
      have I1 := I12.below hb
      have I2 := I22.below hb
      have I3 := I32.below hb
      have I4 := I42.below hb
      clear hb hB2 Yx Yy Yg Yh I12 I22 I32 I42 
      have qx0 := Xx.2.1 0 _ rfl; have qx1 := Xx.2.1 1 _ rfl; have qxl := Xx.1
      have qy0 := Xy.2.1 0 _ rfl; have qy1 := Xy.2.1 1 _ rfl; have qyl := Xy.1
      have qg0 := Xg.2.1 0 _ rfl; have qg1 := Xg.2.1 1 _ rfl; have qgl := Xg.1
      have qh0 := Xh.2.1 0 _ rfl; have qh1 := Xh.2.1 1 _ rfl; have qhl := Xh.1
      clear I4
      go_wp2_with fail
      refine name_worldM (fun V hV => ?_)
      have Yx : Box V (wy1.heap.size) [.bool n1, .slice a1 l1 c1] := (by subst hV; repeat' (first | assumption | (with_reducible refine Box.alloc ?_ _) | (with_reducible refine Box.set_ne ?_ (by first | (simp; done) | (simp; omega)) _)))
      have Yy : Box V (wy1.heap.size + 1) [.bool n2, .slice a2 l2 c2] := (by subst hV; repeat' (first | assumption | (with_reducible refine Box.alloc ?_ _) | (with_reducible refine Box.set_ne ?_ (by first | (simp; done) | (simp; omega)) _)))
      have Yg : Box V (wy4.heap.size) [.bool g, .slice a3 l3 c3] := (by subst hV; repeat' (first | assumption | (with_reducible refine Box.alloc ?_ _) | (with_reducible refine Box.set_ne ?_ (by first | (simp; done) | (simp; omega)) _)))
      have Yh : Box V (wy5.heap.size) [.bool g, .slice a4 l4 c4] := (by subst hV; repeat' (first | assumption | (with_reducible refine Box.alloc ?_ _) | (with_reducible refine Box.set_ne ?_ (by first | (simp; done) | (simp; omega)) _)))
      have hBz := hB.size
      have hB2 : Below w.heap.size w V := by subst hV; repeat' (first | (with_reducible exact Below.refl _ _) | (with_reducible assumption) | (with_reducible refine Below.alloc ?_ ?_ _) | (with_reducible refine Below.setCell ?_ ?_ _) | (with_reducible refine Below.drew ?_) | (with_reducible refine below_drewN ?_ _) | (apply bthen2; (with_reducible assumption)) | go_size)
      clear hBz
      have I12 : Ints V (.slice a1 l1 c1) xs := by subst hV; exact Ints.below I1 (by repeat' (first | (with_reducible exact Below.refl _ _) | (with_reducible assumption) | (with_reducible refine Below.alloc ?_ ?_ _) | (with_reducible refine Below.setCell ?_ ?_ _) | (with_reducible refine Below.drew ?_) | (with_reducible refine below_drewN ?_ _) | (apply bthen2; (with_reducible assumption)) | go_size))
      have I22 : Ints V (.slice a2 l2 c2) ys := by subst hV; exact Ints.below I2 (by repeat' (first | (with_reducible exact Below.refl _ _) | (with_reducible assumption) | (with_reducible refine Below.alloc ?_ ?_ _) | (with_reducible refine Below.setCell ?_ ?_ _) | (with_reducible refine Below.drew ?_) | (with_reducible refine below_drewN ?_ _) | (apply bthen2; (with_reducible assumption)) | go_size))
      have I32 : Ints V (.slice a3 l3 c3) gs := by subst hV; exact Ints.below I3 (by repeat' (first | (with_reducible exact Below.refl _ _) | (with_reducible assumption) | (with_reducible refine Below.alloc ?_ ?_ _) | (with_reducible refine Below.setCell ?_ ?_ _) | (with_reducible refine Below.drew ?_) | (with_reducible refine below_drewN ?_ _) | (apply bthen2; (with_reducible assumption)) | go_size))
      clear qx0 qx1 qxl qy0 qy1 qyl qg0 qg1 qgl qh0 qh1 qhl
      clear hV hB Xx Xy Xg Xh I1 I2 I3
      refine (HL1.out _ I12).mono ?_; rintro e9 wy9 ⟨rfl, hb⟩
      have Xx := Yx.below hb
      have Xy := Yy.below hb
      have Xg := Yg.below hb
      have Xh := Yh.below hb
      have hB := bthen2 hb hB2
      have I1 := I12.below hb
      have I2 := I22.below hb
      have I3 := I32.below hb
      clear hb hB2 Yx Yy Yg Yh I12 I22 I32 HL1
      have qx0 := Xx.2.1 0 _ rfl; have qx1 := Xx.2.1 1 _ rfl; have qxl := Xx.1
      have qy0 := Xy.2.1 0 _ rfl; have qy1 := Xy.2.1 1 _ rfl; have qyl := Xy.1
      have qg0 := Xg.2.1 0 _ rfl; have qg1 := Xg.2.1 1 _ rfl; have qgl := Xg.1
      have qh0 := Xh.2.1 0 _ rfl; have qh1 := Xh.2.1 1 _ rfl; have qhl := Xh.1
      go_wp2_with fail
      refine name_worldM (fun V hV => ?_)
      have Yx : Box V (wy1.heap.size) [.bool n1, .slice a1 l1 c1] := (by subst hV; repeat' (first | assumption | (with_reducible refine Box.alloc ?_ _) | (with_reducible refine Box.set_ne ?_ (by first | (simp; done) | (simp; omega)) _)))
      have Yy : Box V (wy1.heap.size + 1) [.bool n2, .slice a2 l2 c2] := (by subst hV; repeat' (first | assumption | (with_reducible refine Box.alloc ?_ _) | (with_reducible refine Box.set_ne ?_ (by first | (simp; done) | (simp; omega)) _)))
      have Yg : Box V (wy4.heap.size) [.bool g, .slice a3 l3 c3] := (by subst hV; repeat' (first | assumption | (with_reducible refine Box.alloc ?_ _) | (with_reducible refine Box.set_ne ?_ (by first | (simp; done) | (simp; omega)) _)))
      have Yh : Box V (wy5.heap.size) [.bool g, .slice a4 l4 c4] := (by subst hV; repeat' (first | assumption | (with_reducible refine Box.alloc ?_ _) | (with_reducible refine Box.set_ne ?_ (by first | (simp; done) | (simp; omega)) _)))
      have hBz := hB.size
      have hB2 : Below w.heap.size w V := by subst hV; repeat' (first | (with_reducible exact Below.refl _ _) | (with_reducible assumption) | (with_reducible refine Below.alloc ?_ ?_ _) | (with_reducible refine Below.setCell ?_ ?_ _) | (with_reducible refine Below.drew ?_) | (with_reducible refine below_drewN ?_ _) | (apply bthen2; (with_reducible assumption)) | go_size)
      clear hBz
      have I12 : Ints V (.slice a1 l1 c1) xs := by subst hV; exact Ints.below I1 (by repeat' (first | (with_reducible exact Below.refl _ _) | (with_reducible assumption) | (with_reducible refine Below.alloc ?_ ?_ _) | (with_reducible refine Below.setCell ?_ ?_ _) | (with_reducible refine Below.drew ?_) | (with_reducible refine below_drewN ?_ _) | (apply bthen2; (with_reducible assumption)) | go_size))
      have I22 : Ints V (.slice a2 l2 c2) ys := by subst hV; exact Ints.below I2 (by repeat' (first | (with_reducible exact Below.refl _ _) | (with_reducible assumption) | (with_reducible refine Below.alloc ?_ ?_ _) | (with_reducible refine Below.setCell ?_ ?_ _) | (with_reducible refine Below.drew ?_) | (with_reducible refine below_drewN ?_ _) | (apply bthen2; (with_reducible assumption)) | go_size))
      have I32 : Ints V (.slice a3 l3 c3) gs := by subst hV; exact Ints.below I3 (by repeat' (first | (with_reducible exact Below.refl _ _) | (with_reducible assumption) | (with_reducible refine Below.alloc ?_ ?_ _) | (with_reducible refine Below.setCell ?_ ?_ _) | (with_reducible refine Below.drew ?_) | (with_reducible refine below_drewN ?_ _) | (apply bthen2; (with_reducible assumption)) | go_size))
      clear qx0 qx1 qxl qy0 qy1 qyl qg0 qg1 qgl qh0 qh1 qhl
      clear hV hB Xx Xy Xg Xh I1 I2 I3
      refine (HL2.out _ I22).mono ?_; rintro e9 wy10 ⟨rfl, hb⟩
      have Xx := Yx.below hb
      have Xy := Yy.below hb
      have Xg := Yg.below hb
      have Xh := Yh.below hb
      have hB := bthen2 hb hB2
      have I1 := I12.below hb
      have I2 := I22.below hb
      have I3 := I32.below hb
      clear hb hB2 Yx Yy Yg Yh I12 I22 I32 HL2
      have qx0 := Xx.2.1 0 _ rfl; have qx1 := Xx.2.1 1 _ rfl; have qxl := Xx.1
      have qy0 := Xy.2.1 0 _ rfl; have qy1 := Xy.2.1 1 _ rfl; have qyl := Xy.1
      have qg0 := Xg.2.1 0 _ rfl; have qg1 := Xg.2.1 1 _ rfl; have qgl := Xg.1
      have qh0 := Xh.2.1 0 _ rfl; have qh1 := Xh.2.1 1 _ rfl; have qhl := Xh.1
      rcases (show bt = p ∨ (¬ bt = p ∧ bt = q) by omega) with k7 | ⟨k7, k8⟩
      all_goals
        clear k6
        first | (subst k8; have k9 : decide (bt = p) = false := (by simpa using k7)) | subst k7
        have HL3 := Lib.hid (fun W h => BitLength_any g a3 l3 c3 gs W h)
        rw [k3] at HL3
        go_wp2_with fail
        refine name_worldM (fun V hV => ?_)
        have Yx : Box V (wy1.heap.size) [.bool n1, .slice a1 l1 c1] := (by subst hV; repeat' (first | assumption | (with_reducible refine Box.alloc ?_ _) | (with_reducible refine Box.set_ne ?_ (by first | (simp; done) | (simp; omega)) _)))
        have Yy : Box V (wy1.heap.size + 1) [.bool n2, .slice a2 l2 c2] := (by subst hV; repeat' (first | assumption | (with_reducible refine Box.alloc ?_ _) | (with_reducible refine Box.set_ne ?_ (by first | (simp; done) | (simp; omega)) _)))
        have Yg : Box V (wy4.heap.size) [.bool g, .slice a3 l3 c3] := (by subst hV; repeat' (first | assumption | (with_reducible refine Box.alloc ?_ _) | (with_reducible refine Box.set_ne ?_ (by first | (simp; done) | (simp; omega)) _)))
        have Yh : Box V (wy5.heap.size) [.bool g, .slice a4 l4 c4] := (by subst hV; repeat' (first | assumption | (with_reducible refine Box.alloc ?_ _) | (with_reducible refine Box.set_ne ?_ (by first | (simp; done) | (simp; omega)) _)))
        have hBz := hB.size
        have hB2 : Below w.heap.size w V := by subst hV; repeat' (first | (with_reducible exact Below.refl _ _) | (with_reducible assumption) | (with_reducible refine Below.alloc ?_ ?_ _) | (with_reducible refine Below.setCell ?_ ?_ _) | (with_reducible refine Below.drew ?_) | (with_reducible refine below_drewN ?_ _) | (apply bthen2; (with_reducible assumption)) | go_size)
        clear hBz
        have I12 : Ints V (.slice a1 l1 c1) xs := by subst hV; exact Ints.below I1 (by repeat' (first | (with_reducible exact Below.refl _ _) | (with_reducible assumption) | (with_reducible refine Below.alloc ?_ ?_ _) | (with_reducible refine Below.setCell ?_ ?_ _) | (with_reducible refine Below.drew ?_) | (with_reducible refine below_drewN ?_ _) | (apply bthen2; (with_reducible assumption)) | go_size))
        have I22 : Ints V (.slice a2 l2 c2) ys := by subst hV; exact Ints.below I2 (by repeat' (first | (with_reducible exact Below.refl _ _) | (with_reducible assumption) | (with_reducible refine Below.alloc ?_ ?_ _) | (with_reducible refine Below.setCell ?_ ?_ _) | (with_reducible refine Below.drew ?_) | (with_reducible refine below_drewN ?_ _) | (apply bthen2; (with_reducible assumption)) | go_size))
        have I32 : Ints V (.slice a3 l3 c3) gs := by subst hV; exact Ints.below I3 (by repeat' (first | (with_reducible exact Below.refl _ _) | (with_reducible assumption) | (with_reducible refine Below.alloc ?_ ?_ _) | (with_reducible refine Below.setCell ?_ ?_ _) | (with_reducible refine Below.drew ?_) | (with_reducible refine below_drewN ?_ _) | (apply bthen2; (with_reducible assumption)) | go_size))
        clear qx0 qx1 qxl qy0 qy1 qyl qg0 qg1 qgl qh0 qh1 qhl
        clear hV hB Xx Xy Xg Xh I1 I2 I3
        refine (HL3.out _ I32).mono ?_; rintro e9 wy11 ⟨rfl, hb⟩
        have Xx := Yx.below hb
        have Xy := Yy.below hb
        have Xg := Yg.below hb
        have Xh := Yh.below hb
        have hB := bthen2 hb hB2
        have I1 := I12.below hb
        have I2 := I22.below hb
        have I3 := I32.below hb
        clear hb hB2 Yx Yy Yg Yh I12 I22 I32 HL3
        have qx0 := Xx.2.1 0 _ rfl; have qx1 := Xx.2.1 1 _ rfl; have qxl := Xx.1
        have qy0 := Xy.2.1 0 _ rfl; have qy1 := Xy.2.1 1 _ rfl; have qyl := Xy.1
        have qg0 := Xg.2.1 0 _ rfl; have qg1 := Xg.2.1 1 _ rfl; have qgl := Xg.1
        have qh0 := Xh.2.1 0 _ rfl; have qh1 := Xh.2.1 1 _ rfl; have qhl := Xh.1
        go_wp2_with fail
        go_ret; exact gives rfl (by repeat' (first | (with_reducible exact Below.refl _ _) | (with_reducible assumption) | (with_reducible refine Below.alloc ?_ ?_ _) | (with_reducible refine Below.setCell ?_ ?_ _) | (with_reducible refine Below.drew ?_) | (with_reducible refine below_drewN ?_ _) | (apply bthen2; (with_reducible assumption)) | go_size))

set_option maxRecDepth 100000 in
set_option maxHeartbeats 16000000 in
theorem lg_b (w wf : World) (am : Option Addr) (lm cm : Nat) (u0 u2 u3 u4 u5 u6 u7 u8 u9 u10 u11 u12 u13 u14 u15 u16 u17 u18 u19 u20 u21 u22 u23 u24 u25 u26 u27 u28 u29 u30 u31 u32 u33 u34 u35 u36 u37 u38 u39 u40 u41 u42 u43 u44 u45 u46 u47 u48 u49 u50 u51 u52 u53 u54 u55 u56 u57 u58 u59 u60 u61 u62 u63 u64 u65 u66 u67 u68 u69 u70 u71 u72 u73 u74 u75 u76 u77 u78 u79 u80 u81 u82 u83 u84 u85 u86 u87 u88 u89 u90 u91 u92 u93 u94 u95 u96 u97 u98 u99 u100 u101 u102 u103 u104 u105 u106 u107 u108 u109 u110 u111 u112 u113 u114 u115 u116 u117 u118 u119 u120 u121 u122 u123 u124 u125 u126 u127 u128 u129 u130 u131 u132 u133 u134 u135 u136 u137 u138 u139 u140 u141 u142 u143 u144 u145 u146 u147 u148 u149 u150 u151 u152 u153 u154 u155 u156 u157 u158 u159 u160 u161 u162 u163 u164 u165 u166 u167 u168 u169 u170 u171 u172 u173 u174 u175 u176 u177 u178 u179 u180 u181 u182 u183 u184 u185 u186 u187 u188 u189 u190 u191 u192 u193 u194 u195 u196 u197 u198 u199 u200 u201 u202 u203 u204 u205 u206 u207 u208 u209 u210 u211 u212 u213 u214 u215 u216 u217 u218 u219 u220 u221 u222 u223 u224 u225 u226 u227 u228 u229 u230 u231 u232 u233 u234 u235 u236 u237 u238 u239 u240 u241 u242 u243 u244 u245 u246 u247 u248 u249 u250 u251 u252 u253 u254 u255 u256 u257 u258 u259 u260 u261 u262 u263 u264 u265 u266 u267 u268 u269 u270 u271 u272 u273 u274 u275 u276 u277 u278 u279 u280 u281 u282 u283 u284 u285 u286 u287 u288 u289 u290 u291 u292 u293 u294 u295 u296 u297 u298 u299 u300 u301 u302 u303 u304 u305 u306 u307 u308 u309 u310 u311 u312 u313 u314 u315 u316 u317 u318 u319 u320 u321 u322 u323 u324 u325 u326 u327 u328 u329 u330 u331 u332 u333 u334 u335 u336 : Value)
    (Y : Byts w w.heap.size (.slice am lm cm)) (hB : Below w.heap.size w wf) :
    Code.wp Try.prog (cS (cS (cS (cS (cS (cS (cS (cB Try.f5)))))))) (bodyPost Try.prog Try.f5 (Gives (.bool true) w)) ⟨(u0 :: .slice am lm cm :: u2 :: u3 :: u4 :: u5 :: u6 :: u7 :: u8 :: u9 :: u10 :: u11 :: u12 :: u13 :: u14 :: u15 :: u16 :: u17 :: u18 :: u19 :: u20 :: u21 :: u22 :: u23 :: u24 :: u25 :: u26 :: u27 :: u28 :: u29 :: u30 :: u31 :: u32 :: u33 :: u34 :: u35 :: u36 :: u37 :: u38 :: u39 :: u40 :: u41 :: u42 :: u43 :: u44 :: u45 :: u46 :: u47 :: u48 :: u49 :: u50 :: u51 :: u52 :: u53 :: u54 :: u55 :: u56 :: u57 :: u58 :: u59 :: u60 :: u61 :: u62 :: u63 :: u64 :: u65 :: u66 :: u67 :: u68 :: u69 :: u70 :: u71 :: u72 :: u73 :: u74 :: u75 :: u76 :: u77 :: u78 :: u79 :: u80 :: u81 :: u82 :: u83 :: u84 :: u85 :: u86 :: u87 :: u88 :: u89 :: u90 :: u91 :: u92 :: u93 :: u94 :: u95 :: u96 :: u97 :: u98 :: u99 :: u100 :: u101 :: u102 :: u103 :: u104 :: u105 :: u106 :: u107 :: u108 :: u109 :: u110 :: u111 :: u112 :: u113 :: u114 :: u115 :: u116 :: u117 :: u118 :: u119 :: u120 :: u121 :: u122 :: u123 :: u124 :: u125 :: u126 :: u127 :: u128 :: u129 :: u130 :: u131 :: u132 :: u133 :: u134 :: u135 :: u136 :: u137 :: u138 :: u139 :: u140 :: u141 :: u142 :: u143 :: u144 :: u145 :: u146 :: u147 :: u148 :: u149 :: u150 :: u151 :: u152 :: u153 :: u154 :: u155 :: u156 :: u157 :: u158 :: u159 :: u160 :: u161 :: u162 :: u163 :: u164 :: u165 :: u166 :: u167 :: u168 :: u169 :: u170 :: u171 :: u172 :: u173 :: u174 :: u175 :: u176 :: u177 :: u178 :: u179 :: u180 :: u181 :: u182 :: u183 :: u184 :: u185 :: u186 :: u187 :: u188 :: u189 :: u190 :: u191 :: u192 :: u193 :: u194 :: u195 :: u196 :: u197 :: u198 :: u199 :: u200 :: u201 :: u202 :: u203 :: u204 :: u205 :: u206 :: u207 :: u208 :: u209 :: u210 :: u211 :: u212 :: u213 :: u214 :: u215 :: u216 :: u217 :: u218 :: u219 :: u220 :: u221 :: u222 :: u223 :: u224 :: u225 :: u226 :: u227 :: u228 :: u229 :: u230 :: u231 :: u232 :: u233 :: u234 :: u235 :: u236 :: u237 :: u238 :: u239 :: u240 :: u241 :: u242 :: u243 :: u244 :: u245 :: u246 :: u247 :: u248 :: u249 :: u250 :: u251 :: u252 :: u253 :: u254 :: u255 :: u256 :: u257 :: u258 :: u259 :: u260 :: u261 :: u262 :: u263 :: u264 :: u265 :: u266 :: u267 :: u268 :: u269 :: u270 :: u271 :: u272 :: u273 :: u274 :: u275 :: u276 :: u277 :: u278 :: u279 :: u280 :: u281 :: u282 :: u283 :: u284 :: u285 :: u286 :: u287 :: u288 :: u289 :: u290 :: u291 :: u292 :: u293 :: u294 :: u295 :: u296 :: u297 :: u298 :: u299 :: u300 :: u301 :: u302 :: u303 :: u304 :: u305 :: u306 :: u307 :: u308 :: u309 :: u310 :: u311 :: u312 :: u313 :: u314 :: u315 :: u316 :: u317 :: u318 :: u319 :: u320 :: u321 :: u322 :: u323 :: u324 :: u325 :: u326 :: u327 :: u328 :: u329 :: u330 :: u331 :: u332 :: u333 :: u334 :: u335 :: u336 :: []).toArray, []⟩ wf := by
  have Y1 := Lib.hid Y; clear Y
  show Code.wp _ (Code.seq _ _) _ _ _
  go_wp2_with fail
  refine name_worldM (fun V hV => ?_)
  have hBz := hB.size
  have hB2 : Below w.heap.size w V := by subst hV; repeat' (first | (with_reducible exact Below.refl _ _) | (with_reducible assumption) | (with_reducible refine Below.alloc ?_ ?_ _) | (with_reducible refine Below.setCell ?_ ?_ _) | (with_reducible refine Below.drew ?_) | (with_reducible refine below_drewN ?_ _) | (apply bthen2; (with_reducible assumption)) | go_size)
  clear hBz
  clear hV hB 
  refine (DrawRatioLogC ((Y1.out.below hB2 (Nat.le_refl _)).monoW hB2.size)).mono ?_; rintro e9 wy1 ⟨n1, a1, l1, c1, xs, n2, a2, l2, c2, ys, m, rfl, I1, hx1, I2, hx2, hb⟩
  have hB := bthen2 hb hB2
  clear hb hB2  
  have H1 := Lib.hid (fun W h h' => RatioLog_any n1 n2 a1 a2 l1 c1 l2 c2 xs ys m W h h')
  have H2 := Lib.hid (fun W h h' => sRatioLog_any n1 n2 a1 a2 l1 c1 l2 c2 xs ys m W h h')
  have H3 := Lib.hid (fun W h h' => RatioLog_any n2 n1 a2 a1 l2 c2 l1 c1 ys xs m W h h')
  obtain ⟨p, q, ok, hr⟩ : ∃ p q ok, rlV n1 xs n2 ys m = (p, q, ok) := ⟨_, _, _, rfl⟩
  rw [hr] at H1 H2
  have HR := Lib.hid hr; clear hr
  go_wp2_with fail
  refine name_worldM (fun V hV => ?_)
  have Yx : Box V (wy1.heap.size) [.bool n1, .slice a1 l1 c1] := (by subst hV; exact box_two (by first | omega | (simp; done) | (simp; omega)) (by simp [go_sem]) (by simp [go_sem]) (fun o => by simp [go_sem]))
  have Yy : Box V (wy1.heap.size + 1) [.bool n2, .slice a2 l2 c2] := (by subst hV; exact box_two (by first | omega | (simp; done) | (simp; omega)) (by simp [go_sem]) (by simp [go_sem]) (fun o => by simp [go_sem]))
  have hBz := hB.size
  have hB2 : Below w.heap.size w V := by subst hV; repeat' (first | (with_reducible exact Below.refl _ _) | (with_reducible assumption) | (with_reducible refine Below.alloc ?_ ?_ _) | (with_reducible refine Below.setCell ?_ ?_ _) | (with_reducible refine Below.drew ?_) | (with_reducible refine below_drewN ?_ _) | (apply bthen2; (with_reducible assumption)) | go_size)
  clear hBz
  have I12 : Ints V (.slice a1 l1 c1) xs := by subst hV; exact Ints.below I1 (by repeat' (first | (with_reducible exact Below.refl _ _) | (with_reducible assumption) | (with_reducible refine Below.alloc ?_ ?_ _) | (with_reducible refine Below.setCell ?_ ?_ _) | (with_reducible refine Below.drew ?_) | (with_reducible refine below_drewN ?_ _) | (apply bthen2; (with_reducible assumption)) | go_size))
  have I22 : Ints V (.slice a2 l2 c2) ys := by subst hV; exact Ints.below I2 (by repeat' (first | (with_reducible exact Below.refl _ _) | (with_reducible assumption) | (with_reducible refine Below.alloc ?_ ?_ _) | (with_reducible refine Below.setCell ?_ ?_ _) | (with_reducible refine Below.drew ?_) | (with_reducible refine below_drewN ?_ _) | (apply bthen2; (with_reducible assumption)) | go_size))
  clear hV hB  I1 I2
  refine (H1.out _ I12 I22).mono ?_; rintro e9 wy2 ⟨rfl, hb⟩
  have Xx := Yx.below hb
  have Xy := Yy.below hb
  have hB := bthen2 hb hB2
  have I1 := I12.below hb
  have I2 := I22.below hb
  clear hb hB2 Yx Yy I12 I22 H1
  have qx0 := Xx.2.1 0 _ rfl; have qx1 := Xx.2.1 1 _ rfl; have qxl := Xx.1
  have qy0 := Xy.2.1 0 _ rfl; have qy1 := Xy.2.1 1 _ rfl; have qyl := Xy.1
  go_wp2_with fail
  refine name_worldM (fun V hV => ?_)
  have Yx : Box V (wy1.heap.size) [.bool n1, .slice a1 l1 c1] := (by subst hV; repeat' (first | assumption | (with_reducible refine Box.alloc ?_ _) | (with_reducible refine Box.set_ne ?_ (by first | (simp; done) | (simp; omega)) _)))
  have Yy : Box V (wy1.heap.size + 1) [.bool n2, .slice a2 l2 c2] := (by subst hV; repeat' (first | assumption | (with_reducible refine Box.alloc ?_ _) | (with_reducible refine Box.set_ne ?_ (by first | (simp; done) | (simp; omega)) _)))
  have hBz := hB.size
  have hB2 : Below w.heap.size w V := by subst hV; repeat' (first | (with_reducible exact Below.refl _ _) | (with_reducible assumption) | (with_reducible refine Below.alloc ?_ ?_ _) | (with_reducible refine Below.setCell ?_ ?_ _) | (with_reducible refine Below.drew ?_) | (with_reducible refine below_drewN ?_ _) | (apply bthen2; (with_reducible assumption)) | go_size)
  clear hBz
  have I12 : Ints V (.slice a1 l1 c1) xs := by subst hV; exact Ints.below I1 (by repeat' (first | (with_reducible exact Below.refl _ _) | (with_reducible assumption) | (with_reducible refine Below.alloc ?_ ?_ _) | (with_reducible refine Below.setCell ?_ ?_ _) | (with_reducible refine Below.drew ?_) | (with_reducible refine below_drewN ?_ _) | (apply bthen2; (with_reducible assumption)) | go_size))
  have I22 : Ints V (.slice a2 l2 c2) ys := by subst hV; exact Ints.below I2 (by repeat' (first | (with_reducible exact Below.refl _ _) | (with_reducible assumption) | (with_reducible refine Below.alloc ?_ ?_ _) | (with_reducible refine Below.setCell ?_ ?_ _) | (with_reducible refine Below.drew ?_) | (with_reducible refine below_drewN ?_ _) | (apply bthen2; (with_reducible assumption)) | go_size))
  clear qx0 qx1 qxl qy0 qy1 qyl
  clear hV hB Xx Xy I1 I2
  refine (H2.out _ I12 I22).mono ?_; rintro e9 wy3 ⟨rfl, hb⟩
  have Xx := Yx.below hb
  have Xy := Yy.below hb
  have hB := bthen2 hb hB2
  have I1 := I12.below hb
  have I2 := I22.below hb
  clear hb hB2 Yx Yy I12 I22 H2
  have qx0 := Xx.2.1 0 _ rfl; have qx1 := Xx.2.1 1 _ rfl; have qxl := Xx.1
  have qy0 := Xy.2.1 0 _ rfl; have qy1 := Xy.2.1 1 _ rfl; have qyl := Xy.1
  cases ok
  · skip
    clear H3 HR I1 I2
    go_upto_if 177 with fail
    clear qx0 qx1 qxl qy0 qy1 qyl
    iterate 4 go_step
    exact lg_c w wy3 am lm cm _ _ _ _ _ _ _ _ _ _ _ _ _ _ _ _ _ _ _ _ _ _ _ _ _ _ _ _ _ _ _ _ _ _ _ _ _ _ _ _ _ _ _ _ _ _ _ _ _ _ _ _ _ _ _ _ _ _ _ _ _ _ _ _ _ _ _ _ _ _ _ _ _ _ _ _ _ _ _ _ _ _ _ _ _ _ _ _ _ _ _ _ _ _ _ _ _ _ _ _ _ _ _ _ _ _ _ _ _ _ _ _ _ _ _ _ _ _ _ _ _ _ _ _ _ _ _ _ _ _ _ _ _ _ _ _ _ _ _ _ _ _ _ _ _ _ _ _ _ _ _ _ _ _ _ _ _ _ _ _ _ _ _ _ _ _ _ _ _ _ _ _ _ _ _ _ _ _ _ _ _ _ _ _ _ _ _ _ _ _ _ _ _ _ _ _ _ _ _ _ _ _ _ _ _ _ _ _ _ _ _ _ _ _ _ _ _ _ _ _ _ _ _ _ _ _ _ _ _ _ _ _ _ _ _ _ _ _ _ _ _ _ _ _ _ _ _ _ _ _ _ _ _ _ _ _ _ _ _ _ _ _ _ _ _ _ _ _ _ _ _ _ _ _ _ _ _ _ _ _ _ _ _ _ _ _ _ _ _ _ _ _ _ _ _ _ _ _ _ _ _ _ _ _ _ _ _ _ _ _ _ _ _ _ _ _ _ _ _ _ _ _ _ _ _ _ _ _ _ _ _ _ _ _ _ _ Y1.out hB
  · skip
    obtain ⟨g1, g2, g3, g4⟩ := rl_law HR.out
    rw [g1] at H3; clear g1 HR
    have kw1 : IntKind.i64.wrap (-q) = -q := IntWalk.i64_in _ (by omega); have kw2 : IntKind.i64.wrap (-p) = -p := IntWalk.i64_in _ (by omega); have kw3 : IntKind.i64.wrap (p + 2) = q := by rw [IntWalk.i64_in _ (by omega)]; omega
    go_wp2_with fail
    refine name_worldM (fun V hV => ?_)
    have Yx : Box V (wy1.heap.size) [.bool n1, .slice a1 l1 c1] := (by subst hV; repeat' (first | assumption | (with_reducible refine Box.alloc ?_ _) | (with_reducible refine Box.set_ne ?_ (by first | (simp; done) | (simp; omega)) _)))
    have Yy : Box V (wy1.heap.size + 1) [.bool n2, .slice a2 l2 c2] := (by subst hV; repeat' (first | assumption | (with_reducible refine Box.alloc ?_ _) | (with_reducible refine Box.set_ne ?_ (by first | (simp; done) | (simp; omega)) _)))
    have hBz := hB.size
    have hB2 : Below w.heap.size w V := by subst hV; repeat' (first | (with_reducible exact Below.refl _ _) | (with_reducible assumption) | (with_reducible refine Below.alloc ?_ ?_ _) | (with_reducible refine Below.setCell ?_ ?_ _) | (with_reducible refine Below.drew ?_) | (with_reducible refine below_drewN ?_ _) | (apply bthen2; (with_reducible assumption)) | go_size)
    clear hBz
    have I12 : Ints V (.slice a1 l1 c1) xs := by subst hV; exact Ints.below I1 (by repeat' (first | (with_reducible exact Below.refl _ _) | (with_reducible assumption) | (with_reducible refine Below.alloc ?_ ?_ _) | (with_reducible refine Below.setCell ?_ ?_ _) | (with_reducible refine Below.drew ?_) | (with_reducible refine below_drewN ?_ _) | (apply bthen2; (with_reducible assumption)) | go_size))
    have I22 : Ints V (.slice a2 l2 c2) ys := by subst hV; exact Ints.below I2 (by repeat' (first | (with_reducible exact Below.refl _ _) | (with_reducible assumption) | (with_reducible refine Below.alloc ?_ ?_ _) | (with_reducible refine Below.setCell ?_ ?_ _) | (with_reducible refine Below.drew ?_) | (with_reducible refine below_drewN ?_ _) | (apply bthen2; (with_reducible assumption)) | go_size))
    clear qx0 qx1 qxl qy0 qy1 qyl
    clear hV hB Xx Xy I1 I2
    refine (H3.out _ I22 I12).mono ?_; rintro e9 wy4 ⟨rfl, hb⟩
    have Xx := Yx.below hb
    have Xy := Yy.below hb
    have hB := bthen2 hb hB2
    have I1 := I12.below hb
    have I2 := I22.below hb
    clear hb hB2 Yx Yy I12 I22 H3
    have qx0 := Xx.2.1 0 _ rfl; have qx1 := Xx.2.1 1 _ rfl; have qxl := Xx.1
    have qy0 := Xy.2.1 0 _ rfl; have qy1 := Xy.2.1 1 _ rfl; have qyl := Xy.1
    clear I1 I2
    go_upto_if 205 with fail
    clear qx0 qx1 qxl qy0 qy1 qyl
    first | exact lg_c w wy4 am lm cm _ _ _ _ _ _ _ _ _ _ _ _ _ _ _ _ _ _ _ _ _ _ _ _ _ _ _ _ _ _ _ _ _ _ _ _ _ _ _ _ _ _ _ _ _ _ _ _ _ _ _ _ _ _ _ _ _ _ _ _ _ _ _ _ _ _ _ _ _ _ _ _ _ _ _ _ _ _ _ _ _ _ _ _ _ _ _ _ _ _ _ _ _ _ _ _ _ _ _ _ _ _ _ _ _ _ _ _ _ _ _ _ _ _ _ _ _ _ _ _ _ _ _ _ _ _ _ _ _ _ _ _ _ _ _ _ _ _ _ _ _ _ _ _ _ _ _ _ _ _ _ _ _ _ _ _ _ _ _ _ _ _ _ _ _ _ _ _ _ _ _ _ _ _ _ _ _ _ _ _ _ _ _ _ _ _ _ _ _ _ _ _ _ _ _ _ _ _ _ _ _ _ _ _ _ _ _ _ _ _ _ _ _ _ _ _ _ _ _ _ _ _ _ _ _ _ _ _ _ _ _ _ _ _ _ _ _ _ _ _ _ _ _ _ _ _ _ _ _ _ _ _ _ _ _ _ _ _ _ _ _ _ _ _ _ _ _ _ _ _ _ _ _ _ _ _ _ _ _ _ _ _ _ _ _ _ _ _ _ _ _ _ _ _ _ _ _ _ _ _ _ _ _ _ _ _ _ _ _ _ _ _ _ _ _ _ _ _ _ _ _ _ _ _ _ _ _ _ _ _ _ _ _ _ _ _ Y1.out hB | (go_step; first | exact lg_c w wy4 am lm cm _ _ _ _ _ _ _ _ _ _ _ _ _ _ _ _ _ _ _ _ _ _ _ _ _ _ _ _ _ _ _ _ _ _ _ _ _ _ _ _ _ _ _ _ _ _ _ _ _ _ _ _ _ _ _ _ _ _ _ _ _ _ _ _ _ _ _ _ _ _ _ _ _ _ _ _ _ _ _ _ _ _ _ _ _ _ _ _ _ _ _ _ _ _ _ _ _ _ _ _ _ _ _ _ _ _ _ _ _ _ _ _ _ _ _ _ _ _ _ _ _ _ _ _ _ _ _ _ _ _ _ _ _ _ _ _ _ _ _ _ _ _ _ _ _ _ _ _ _ _ _ _ _ _ _ _ _ _ _ _ _ _ _ _ _ _ _ _ _ _ _ _ _ _ _ _ _ _ _ _ _ _ _ _ _ _ _ _ _ _ _ _ _ _ _ _ _ _ _ _ _ _ _ _ _ _ _ _ _ _ _ _ _ _ _ _ _ _ _ _ _ _ _ _ _ _ _ _ _ _ _ _ _ _ _ _ _ _ _ _ _ _ _ _ _ _ _ _ _ _ _ _ _ _ _ _ _ _ _ _ _ _ _ _ _ _ _ _ _ _ _ _ _ _ _ _ _ _ _ _ _ _ _ _ _ _ _ _ _ _ _ _ _ _ _ _ _ _ _ _ _ _ _ _ _ _ _ _ _ _ _ _ _ _ _ _ _ _ _ _ _ _ _ _ _ _ _ _ _ _ _ _ _ _ _ _ Y1.out hB | (go_step; first | exact lg_c w wy4 am lm cm _ _ _ _ _ _ _ _ _ _ _ _ _ _ _ _ _ _ _ _ _ _ _ _ _ _ _ _ _ _ _ _ _ _ _ _ _ _ _ _ _ _ _ _ _ _ _ _ _ _ _ _ _ _ _ _ _ _ _ _ _ _ _ _ _ _ _ _ _ _ _ _ _ _ _ _ _ _ _ _ _ _ _ _ _ _ _ _ _ _ _ _ _ _ _ _ _ _ _ _ _ _ _ _ _ _ _ _ _ _ _ _ _ _ _ _ _ _ _ _ _ _ _ _ _ _ _ _ _ _ _ _ _ _ _ _ _ _ _ _ _ _ _ _ _ _ _ _ _ _ _ _ _ _ _ _ _ _ _ _ _ _ _ _ _ _ _ _ _ _ _ _ _ _ _ _ _ _ _ _ _ _ _ _ _ _ _ _ _ _ _ _ _ _ _ _ _ _ _ _ _ _ _ _ _ _ _ _ _ _ _ _ _ _ _ _ _ _ _ _ _ _ _ _ _ _ _ _ _ _ _ _ _ _ _ _ _ _ _ _ _ _ _ _ _ _ _ _ _ _ _ _ _ _ _ _ _ _ _ _ _ _ _ _ _ _ _ _ _ _ _ _ _ _ _ _ _ _ _ _ _ _ _ _ _ _ _ _ _ _ _ _ _ _ _ _ _ _ _ _ _ _ _ _ _ _ _ _ _ _ _ _ _ _ _ _ _ _ _ _ _ _ _ _ _ _ _ _ _ _ _ _ _ _ _ _ Y1.out hB | (go_step; first | exact lg_c w wy4 am lm cm _ _ _ _ _ _ _ _ _ _ _ _ _ _ _ _ _ _ _ _ _ _ _ _ _ _ _ _ _ _ _ _ _ _ _ _ _ _ _ _ _ _ _ _ _ _ _ _ _ _ _ _ _ _ _ _ _ _ _ _ _ _ _ _ _ _ _ _ _ _ _ _ _ _ _ _ _ _ _ _ _ _ _ _ _ _ _ _ _ _ _ _ _ _ _ _ _ _ _ _ _ _ _ _ _ _ _ _ _ _ _ _ _ _ _ _ _ _ _ _ _ _ _ _ _ _ _ _ _ _ _ _ _ _ _ _ _ _ _ _ _ _ _ _ _ _ _ _ _ _ _ _ _ _ _ _ _ _ _ _ _ _ _ _ _ _ _ _ _ _ _ _ _ _ _ _ _ _ _ _ _ _ _ _ _ _ _ _ _ _ _ _ _ _ _ _ _ _ _ _ _ _ _ _ _ _ _ _ _ _ _ _ _ _ _ _ _ _ _ _ _ _ _ _ _ _ _ _ _ _ _ _ _ _ _ _ _ _ _ _ _ _ _ _ _ _ _ _ _ _ _ _ _ _ _ _ _ _ _ _ _ _ _ _ _ _ _ _ _ _ _ _ _ _ _ _ _ _ _ _ _ _ _ _ _ _ _ _ _ _ _ _ _ _ _ _ _ _ _ _ _ _ _ _ _ _ _ _ _ _ _ _ _ _ _ _ _ _ _ _ _ _ _ _ _ _ _ _ _ _ _ _ _ _ _ _ Y1.out hB | (go_step; first | exact lg_c w wy4 am lm cm _ _ _ _ _ _ _ _ _ _ _ _ _ _ _ _ _ _ _ _ _ _ _ _ _ _ _ _ _ _ _ _ _ _ _ _ _ _ _ _ _ _ _ _ _ _ _ _ _ _ _ _ _ _ _ _ _ _ _ _ _ _ _ _ _ _ _ _ _ _ _ _ _ _ _ _ _ _ _ _ _ _ _ _ _ _ _ _ _ _ _ _ _ _ _ _ _ _ _ _ _ _ _ _ _ _ _ _ _ _ _ _ _ _ _ _ _ _ _ _ _ _ _ _ _ _ _ _ _ _ _ _ _ _ _ _ _ _ _ _ _ _ _ _ _ _ _ _ _ _ _ _ _ _ _ _ _ _ _ _ _ _ _ _ _ _ _ _ _ _ _ _ _ _ _ _ _ _ _ _ _ _ _ _ _ _ _ _ _ _ _ _ _ _ _ _ _ _ _ _ _ _ _ _ _ _ _ _ _ _ _ _ _ _ _ _ _ _ _ _ _ _ _ _ _ _ _ _ _ _ _ _ _ _ _ _ _ _ _ _ _ _ _ _ _ _ _ _ _ _ _ _ _ _ _ _ _ _ _ _ _ _ _ _ _ _ _ _ _ _ _ _ _ _ _ _ _ _ _ _ _ _ _ _ _ _ _ _ _ _ _ _ _ _ _ _ _ _ _ _ _ _ _ _ _ _ _ _ _ _ _ _ _ _ _ _ _ _ _ _ _ _ _ _ _ _ _ _ _ _ _ _ _ _ _ _ Y1.out hB | (go_step; first | exact lg_c w wy4 am lm cm _ _ _ _ _ _ _ _ _ _ _ _ _ _ _ _ _ _ _ _ _ _ _ _ _ _ _ _ _ _ _ _ _ _ _ _ _ _ _ _ _ _ _ _ _ _ _ _ _ _ _ _ _ _ _ _ _ _ _ _ _ _ _ _ _ _ _ _ _ _ _ _ _ _ _ _ _ _ _ _ _ _ _ _ _ _ _ _ _ _ _ _ _ _ _ _ _ _ _ _ _ _ _ _ _ _ _ _ _ _ _ _ _ _ _ _ _ _ _ _ _ _ _ _ _ _ _ _ _ _ _ _ _ _ _ _ _ _ _ _ _ _ _ _ _ _ _ _ _ _ _ _ _ _ _ _ _ _ _ _ _ _ _ _ _ _ _ _ _ _ _ _ _ _ _ _ _ _ _ _ _ _ _ _ _ _ _ _ _ _ _ _ _ _ _ _ _ _ _ _ _ _ _ _ _ _ _ _ _ _ _ _ _ _ _ _ _ _ _ _ _ _ _ _ _ _ _ _ _ _ _ _ _ _ _ _ _ _ _ _ _ _ _ _ _ _ _ _ _ _ _ _ _ _ _ _ _ _ _ _ _ _ _ _ _ _ _ _ _ _ _ _ _ _ _ _ _ _ _ _ _ _ _ _ _ _ _ _ _ _ _ _ _ _ _ _ _ _ _ _ _ _ _ _ _ _ _ _ _ _ _ _ _ _ _ _ _ _ _ _ _ _ _ _ _ _ _ _ _ _ _ _ _ _ _ _ Y1.out hB | (go_step; first | exact lg_c w wy4 am lm cm _ _ _ _ _ _ _ _ _ _ _ _ _ _ _ _ _ _ _ _ _ _ _ _ _ _ _ _ _ _ _ _ _ _ _ _ _ _ _ _ _ _ _ _ _ _ _ _ _ _ _ _ _ _ _ _ _ _ _ _ _ _ _ _ _ _ _ _ _ _ _ _ _ _ _ _ _ _ _ _ _ _ _ _ _ _ _ _ _ _ _ _ _ _ _ _ _ _ _ _ _ _ _ _ _ _ _ _ _ _ _ _ _ _ _ _ _ _ _ _ _ _ _ _ _ _ _ _ _ _ _ _ _ _ _ _ _ _ _ _ _ _ _ _ _ _ _ _ _ _ _ _ _ _ _ _ _ _ _ _ _ _ _ _ _ _ _ _ _ _ _ _ _ _ _ _ _ _ _ _ _ _ _ _ _ _ _ _ _ _ _ _ _ _ _ _ _ _ _ _ _ _ _ _ _ _ _ _ _ _ _ _ _ _ _ _ _ _ _ _ _ _ _ _ _ _ _ _ _ _ _ _ _ _ _ _ _ _ _ _ _ _ _ _ _ _ _ _ _ _ _ _ _ _ _ _ _ _ _ _ _ _ _ _ _ _ _ _ _ _ _ _ _ _ _ _ _ _ _ _ _ _ _ _ _ _ _ _ _ _ _ _ _ _ _ _ _ _ _ _ _ _ _ _ _ _ _ _ _ _ _ _ _ _ _ _ _ _ _ _ _ _ _ _ _ _ _ _ _ _ _ _ _ _ _ _ Y1.out hB | (go_step; first | exact lg_c w wy4 am lm cm _ _ _ _ _ _ _ _ _ _ _ _ _ _ _ _ _ _ _ _ _ _ _ _ _ _ _ _ _ _ _ _ _ _ _ _ _ _ _ _ _ _ _ _ _ _ _ _ _ _ _ _ _ _ _ _ _ _ _ _ _ _ _ _ _ _ _ _ _ _ _ _ _ _ _ _ _ _ _ _ _ _ _ _ _ _ _ _ _ _ _ _ _ _ _ _ _ _ _ _ _ _ _ _ _ _ _ _ _ _ _ _ _ _ _ _ _ _ _ _ _ _ _ _ _ _ _ _ _ _ _ _ _ _ _ _ _ _ _ _ _ _ _ _ _ _ _ _ _ _ _ _ _ _ _ _ _ _ _ _ _ _ _ _ _ _ _ _ _ _ _ _ _ _ _ _ _ _ _ _ _ _ _ _ _ _ _ _ _ _ _ _ _ _ _ _ _ _ _ _ _ _ _ _ _ _ _ _ _ _ _ _ _ _ _ _ _ _ _ _ _ _ _ _ _ _ _ _ _ _ _ _ _ _ _ _ _ _ _ _ _ _ _ _ _ _ _ _ _ _ _ _ _ _ _ _ _ _ _ _ _ _ _ _ _ _ _ _ _ _ _ _ _ _ _ _ _ _ _ _ _ _ _ _ _ _ _ _ _ _ _ _ _ _ _ _ _ _ _ _ _ _ _ _ _ _ _ _ _ _ _ _ _ _ _ _ _ _ _ _ _ _ _ _ _ _ _ _ _ _ _ _ _ _ _ _ Y1.out hB | (go_step; first | exact lg_c w wy4 am lm cm _ _ _ _ _ _ _ _ _ _ _ _ _ _ _ _ _ _ _ _ _ _ _ _ _ _ _ _ _ _ _ _ _ _ _ _ _ _ _ _ _ _ _ _ _ _ _ _ _ _ _ _ _ _ _ _ _ _ _ _ _ _ _ _ _ _ _ _ _ _ _ _ _ _ _ _ _ _ _ _ _ _ _ _ _ _ _ _ _ _ _ _ _ _ _ _ _ _ _ _ _ _ _ _ _ _ _ _ _ _ _ _ _ _ _ _ _ _ _ _ _ _ _ _ _ _ _ _ _ _ _ _ _ _ _ _ _ _ _ _ _ _ _ _ _ _ _ _ _ _ _ _ _ _ _ _ _ _ _ _ _ _ _ _ _ _ _ _ _ _ _ _ _ _ _ _ _ _ _ _ _ _ _ _ _ _ _ _ _ _ _ _ _ _ _ _ _ _ _ _ _ _ _ _ _ _ _ _ _ _ _ _ _ _ _ _ _ _ _ _ _ _ _ _ _ _ _ _ _ _ _ _ _ _ _ _ _ _ _ _ _ _ _ _ _ _ _ _ _ _ _ _ _ _ _ _ _ _ _ _ _ _ _ _ _ _ _ _ _ _ _ _ _ _ _ _ _ _ _ _ _ _ _ _ _ _ _ _ _ _ _ _ _ _ _ _ _ _ _ _ _ _ _ _ _ _ _ _ _ _ _ _ _ _ _ _ _ _ _ _ _ _ _ _ _ _ _ _ _ _ _ _ _ _ _ _ Y1.out hB | (go_step; first | exact lg_c w wy4 am lm cm _ _ _ _ _ _ _ _ _ _ _ _ _ _ _ _ _ _ _ _ _ _ _ _ _ _ _ _ _ _ _ _ _ _ _ _ _ _ _ _ _ _ _ _ _ _ _ _ _ _ _ _ _ _ _ _ _ _ _ _ _ _ _ _ _ _ _ _ _ _ _ _ _ _ _ _ _ _ _ _ _ _ _ _ _ _ _ _ _ _ _ _ _ _ _ _ _ _ _ _ _ _ _ _ _ _ _ _ _ _ _ _ _ _ _ _ _ _ _ _ _ _ _ _ _ _ _ _ _ _ _ _ _ _ _ _ _ _ _ _ _ _ _ _ _ _ _ _ _ _ _ _ _ _ _ _ _ _ _ _ _ _ _ _ _ _ _ _ _ _ _ _ _ _ _ _ _ _ _ _ _ _ _ _ _ _ _ _ _ _ _ _ _ _ _ _ _ _ _ _ _ _ _ _ _ _ _ _ _ _ _ _ _ _ _ _ _ _ _ _ _ _ _ _ _ _ _ _ _ _ _ _ _ _ _ _ _ _ _ _ _ _ _ _ _ _ _ _ _ _ _ _ _ _ _ _ _ _ _ _ _ _ _ _ _ _ _ _ _ _ _ _ _ _ _ _ _ _ _ _ _ _ _ _ _ _ _ _ _ _ _ _ _ _ _ _ _ _ _ _ _ _ _ _ _ _ _ _ _ _ _ _ _ _ _ _ _ _ _ _ _ _ _ _ _ _ _ _ _ _ _ _ _ _ _ _ Y1.out hB | fail)))))))))

end Go.Proofs.Ytelkmldmebdcgaa
