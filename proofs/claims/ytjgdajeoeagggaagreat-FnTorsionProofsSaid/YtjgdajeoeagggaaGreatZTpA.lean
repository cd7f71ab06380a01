import Derived.Test.YtjgdajeoeagggaaGreatZDrU
import Derived.Test.YtjgdajeoeagggaaGreatZGoS
import Derived.Test.YtjgdajeoeagggaaGreatZK13
set_option linter.unusedSimpArgs false
set_option linter.unusedVariables false
namespace Go.Proofs.YtjgdajeoeagggaaGreat
open Go.RowKit
/-! ### FnTorsionProofs in parts -/
def BytsW (w : World) (v : Value) : Prop := Byts w w.heap.size v
theorem BytsW.below {w w' : World} {v : Value} (h : BytsW w v) (hb : Below w.heap.size w w') : BytsW w' v := Byts.mono (Byts.below h hb (Nat.le_refl _)) hb.size
theorem ckV_f (a b : Int) (L : List P3) : ∃ b1 b2 : Bool, ckV a b L = .tuple #[.bool b1, .bool b2] := by
  unfold ckV; split <;> exact ⟨_, _, rfl⟩
theorem itV_f (a b x y e : Int) : ∃ b1 b2 : Bool, itV a b x y e = .tuple #[.bool b1, .bool b2] := by
  unfold itV; split <;> exact ⟨_, _, rfl⟩
set_option maxRecDepth 100000 in
set_option maxHeartbeats 16000000 in
theorem tpE (w wf : World) (am : Option Addr) (lm cm : Nat) {u0 u2 u3 u4 u5 u6 u7 u8 u9 u10 u11 u12 u13 u14 u15 u16 u17 u18 u19 u20 u21 u22 u23 u24 u25 u26 u27 u28 u29 u30 u31 u32 u33 u34 u35 u36 u37 u38 u39 u40 u41 u42 u43 u44 u45 u46 u47 u48 u49 u50 u51 u52 u53 u54 u55 u56 u57 u58 u59 u60 u61 u62 u63 u64 u65 u66 u67 u68 u69 u70 u71 u72 u73 u74 u75 u76 u77 u78 u79 u80 u81 u82 u83 u84 u85 u86 u87 u88 u89 u90 u91 u92 u93 u94 u95 u96 u97 u98 u99 u100 u101 u102 u103 u104 u105 u106 u107 u108 u109 u110 u111 u112 u113 u114 u115 u116 u117 u118 u119 u120 u121 u122 u123 u124 u125 u126 u127 u128 u129 u130 u131 u132 u133 u134 u135 u136 u137 u138 u139 u140 u141 u142 u143 u144 u145 u146 u147 u148 u149 u150 u151 u152 u153 u154 u155 u156 u157 u158 u159 u160 u161 u162 u163 u164 u165 u166 u167 u168 u169 u170 u171 u172 u173 u174 u175 u176 u177 u178 u179 u180 u181 u182 u183 u184 u185 u186 u187 u188 u189 u190 u191 u192 u193 u194 u195 u196 u197 u198 u199 u200 u201 u202 u203 u204 u205 u206 u207 u208 u209 u210 u211 u212 u213 u214 u215 u216 u217 u218 u219 u220 u221 u222 u223 u224 u225 u226 u227 u228 u229 u230 u231 u232 u233 u234 u235 u236 u237 u238 u239 u240 u241 u242 u243 u244 u245 u246 u247 u248 u249 u250 u251 u252 u253 u254 u255 u256 u257 u258 u259 u260 u261 u262 u263 u264 u265 u266 u267 u268 u269 u270 u271 u272 u273 u274 u275 u276 u277 u278 u279 u280 u281 u282 u283 u284 u285 u286 u287 u288 u289 u290 u291 u292 u293 u294 u295 u296 u297 u298 u299 u300 u301 u302 u303 u304 u305 u306 u307 u308 u309 u310 u311 u312 u313 u314 u315 u316 u317 u318 u319 u320 u321 u322 u323 u324 u325 u326 u327 u328 u329 u330 u331 u332 u333 u334 u335 u336 u337 u338 u339 u340 u341 u342 u343 u344 u345 u346 u347 u348 u349 u350 u351 u352 u353 u354 u355 u356 u357 u358 u359 u360 u361 u362 u363 u364 u365 u366 u367 u368 u369 u370 u371 u372 u373 u374 u375 u376 u377 u378 u379 u380 u381 u382 u383 u384 u385 u386 u387 u388 : Value}
    (hM : BytsW wf (.slice am lm cm)) (hB : Below w.heap.size w wf) :
    Code.wp Tryz.prog (cS (cS (cS (cS (cS (cS (cS (cS (cS (cS (cS (cS (cS (cS (cS (cS (cS (cS (cS (cB Tryz.f4)))))))))))))))))))) (bodyPost Tryz.prog Tryz.f4 (Gives (.bool true) w)) ⟨(u0 :: .slice am lm cm :: u2 :: u3 :: u4 :: u5 :: u6 :: u7 :: u8 :: u9 :: u10 :: u11 :: u12 :: u13 :: u14 :: u15 :: u16 :: u17 :: u18 :: u19 :: u20 :: u21 :: u22 :: u23 :: u24 :: u25 :: u26 :: u27 :: u28 :: u29 :: u30 :: u31 :: u32 :: u33 :: u34 :: u35 :: u36 :: u37 :: u38 :: u39 :: u40 :: u41 :: u42 :: u43 :: u44 :: u45 :: u46 :: u47 :: u48 :: u49 :: u50 :: u51 :: u52 :: u53 :: u54 :: u55 :: u56 :: u57 :: u58 :: u59 :: u60 :: u61 :: u62 :: u63 :: u64 :: u65 :: u66 :: u67 :: u68 :: u69 :: u70 :: u71 :: u72 :: u73 :: u74 :: u75 :: u76 :: u77 :: u78 :: u79 :: u80 :: u81 :: u82 :: u83 :: u84 :: u85 :: u86 :: u87 :: u88 :: u89 :: u90 :: u91 :: u92 :: u93 :: u94 :: u95 :: u96 :: u97 :: u98 :: u99 :: u100 :: u101 :: u102 :: u103 :: u104 :: u105 :: u106 :: u107 :: u108 :: u109 :: u110 :: u111 :: u112 :: u113 :: u114 :: u115 :: u116 :: u117 :: u118 :: u119 :: u120 :: u121 :: u122 :: u123 :: u124 :: u125 :: u126 :: u127 :: u128 :: u129 :: u130 :: u131 :: u132 :: u133 :: u134 :: u135 :: u136 :: u137 :: u138 :: u139 :: u140 :: u141 :: u142 :: u143 :: u144 :: u145 :: u146 :: u147 :: u148 :: u149 :: u150 :: u151 :: u152 :: u153 :: u154 :: u155 :: u156 :: u157 :: u158 :: u159 :: u160 :: u161 :: u162 :: u163 :: u164 :: u165 :: u166 :: u167 :: u168 :: u169 :: u170 :: u171 :: u172 :: u173 :: u174 :: u175 :: u176 :: u177 :: u178 :: u179 :: u180 :: u181 :: u182 :: u183 :: u184 :: u185 :: u186 :: u187 :: u188 :: u189 :: u190 :: u191 :: u192 :: u193 :: u194 :: u195 :: u196 :: u197 :: u198 :: u199 :: u200 :: u201 :: u202 :: u203 :: u204 :: u205 :: u206 :: u207 :: u208 :: u209 :: u210 :: u211 :: u212 :: u213 :: u214 :: u215 :: u216 :: u217 :: u218 :: u219 :: u220 :: u221 :: u222 :: u223 :: u224 :: u225 :: u226 :: u227 :: u228 :: u229 :: u230 :: u231 :: u232 :: u233 :: u234 :: u235 :: u236 :: u237 :: u238 :: u239 :: u240 :: u241 :: u242 :: u243 :: u244 :: u245 :: u246 :: u247 :: u248 :: u249 :: u250 :: u251 :: u252 :: u253 :: u254 :: u255 :: u256 :: u257 :: u258 :: u259 :: u260 :: u261 :: u262 :: u263 :: u264 :: u265 :: u266 :: u267 :: u268 :: u269 :: u270 :: u271 :: u272 :: u273 :: u274 :: u275 :: u276 :: u277 :: u278 :: u279 :: u280 :: u281 :: u282 :: u283 :: u284 :: u285 :: u286 :: u287 :: u288 :: u289 :: u290 :: u291 :: u292 :: u293 :: u294 :: u295 :: u296 :: u297 :: u298 :: u299 :: u300 :: u301 :: u302 :: u303 :: u304 :: u305 :: u306 :: u307 :: u308 :: u309 :: u310 :: u311 :: u312 :: u313 :: u314 :: u315 :: u316 :: u317 :: u318 :: u319 :: u320 :: u321 :: u322 :: u323 :: u324 :: u325 :: u326 :: u327 :: u328 :: u329 :: u330 :: u331 :: u332 :: u333 :: u334 :: u335 :: u336 :: u337 :: u338 :: u339 :: u340 :: u341 :: u342 :: u343 :: u344 :: u345 :: u346 :: u347 :: u348 :: u349 :: u350 :: u351 :: u352 :: u353 :: u354 :: u355 :: u356 :: u357 :: u358 :: u359 :: u360 :: u361 :: u362 :: u363 :: u364 :: u365 :: u366 :: u367 :: u368 :: u369 :: u370 :: u371 :: u372 :: u373 :: u374 :: u375 :: u376 :: u377 :: u378 :: u379 :: u380 :: u381 :: u382 :: u383 :: u384 :: u385 :: u386 :: u387 :: u388 :: []).toArray, []⟩ wf := by
  show Code.wp _ (Code.seq _ _) _ _ _
  go_wp2_with fail
  refine name_worldM (fun V hV => ?_)
  have hBz := hB.size
  have hV1 : Below wf.heap.size wf V := by subst hV; repeat' (first | (with_reducible first | exact bq1 _ _ | assumption | refine bq2 ?_ ?_ _ | refine bq3 ?_ ?_ _ | refine bq4 ?_ | refine bq5 ?_ _) | (apply bthen2; (with_reducible assumption)) | go_size)
  have hB2 := bthen2 hV1 hB
  clear hBz
  have hM2 := hM.below hV1
  clear hV1
  clear hV hB  hM
  refine (DrawCheckTorsionC hM2).mono ?_; rintro e9 wy1 ⟨x, y, la, ll, lc, L, rfl, PL, hb⟩
  have hB := bthen2 hb hB2
  have hM := hM2.below hb
  clear hb hB2  hM2 
  obtain ⟨b1, b2, hck⟩ := ckV_f x y L
  have HC1 := Lib.hid (fun W h => CheckTorsion_any x y L la ll lc W h); have HC2 := Lib.hid (fun W h => sCheckTorsion_any x y L la ll lc W h)
  rw [hck] at HC1 HC2; clear hck
  go_wp2_with fail
  refine name_worldM (fun V hV => ?_)
  have hBz := hB.size
  have hV1 : Below wy1.heap.size wy1 V := by subst hV; repeat' (first | (with_reducible first | exact bq1 _ _ | assumption | refine bq2 ?_ ?_ _ | refine bq3 ?_ ?_ _ | refine bq4 ?_ | refine bq5 ?_ _) | (apply bthen2; (with_reducible assumption)) | go_size)
  have Yw : Box V (wy1.heap.size) [.int .i64 x, .int .i64 y] := (by subst hV; exact box_two (by first | omega | (simp; done) | (simp; omega)) (by simp [go_sem]) (by simp [go_sem]) (fun o => by simp [go_sem]))
  have hB2 := bthen2 hV1 hB
  clear hBz
  have hM2 := hM.below hV1
  have PL2 := PL.below hV1
  clear hV1
  clear hV hB  hM PL
  refine (HC1.out _ PL2).mono ?_; rintro e9 wy2 ⟨rfl, hb⟩
  have Xw := Yw.below hb
  have hB := bthen2 hb hB2
  have hM := hM2.below hb
  have PL := PL2.below hb
  clear hb hB2 Yw hM2 PL2 HC1
  have qw0 := Xw.2.1 0 _ rfl; have qw1 := Xw.2.1 1 _ rfl; have qwl := Xw.1
  go_wp2_with fail
  refine name_worldM (fun V hV => ?_)
  have hBz := hB.size
  have hV1 : Below wy2.heap.size wy2 V := by subst hV; repeat' (first | (with_reducible first | exact bq1 _ _ | assumption | refine bq2 ?_ ?_ _ | refine bq3 ?_ ?_ _ | refine bq4 ?_ | refine bq5 ?_ _) | (apply bthen2; (with_reducible assumption)) | go_size)
  have Yw := Xw.below hV1
  have hB2 := bthen2 hV1 hB
  clear hBz
  have hM2 := hM.below hV1
  have PL2 := PL.below hV1
  clear hV1
  clear qw0 qw1 qwl
  clear hV hB Xw hM PL
  refine (HC2.out _ PL2).mono ?_; rintro e9 wy3 ⟨rfl, hb⟩
  have Xw := Yw.below hb
  have hB := bthen2 hb hB2
  have hM := hM2.below hb
  have PL := PL2.below hb
  clear hb hB2 Yw hM2 PL2 HC2 PL
  have qw0 := Xw.2.1 0 _ rfl; have qw1 := Xw.2.1 1 _ rfl; have qwl := Xw.1
  go_wp2_with fail
  refine name_worldM (fun V hV => ?_)
  have hBz := hB.size
  have hV1 : Below wy3.heap.size wy3 V := by subst hV; repeat' (first | (with_reducible first | exact bq1 _ _ | assumption | refine bq2 ?_ ?_ _ | refine bq3 ?_ ?_ _ | refine bq4 ?_ | refine bq5 ?_ _) | (apply bthen2; (with_reducible assumption)) | go_size)
  have hB2 := bthen2 hV1 hB
  clear hBz
  have hM2 := hM.below hV1
  clear hV1
  clear qw0 qw1 qwl
  clear hV hB Xw hM
  refine (DrawIsTorsionPointC hM2).mono ?_; rintro e9 wy4 ⟨vx, vy, px, py, pe, rfl, hb⟩
  have hB := bthen2 hb hB2
  have hM := hM2.below hb
  clear hb hB2  hM2 
  obtain ⟨c1, c2, hit⟩ := itV_f vx vy px py pe
  have HT1 := Lib.hid (fun W => IsTorsionPoint_any vx vy px py pe W); have HT2 := Lib.hid (fun W => sIsTorsionPoint_any vx vy px py pe W)
  rw [hit] at HT1 HT2; clear hit hM
  go_wp2_with fail
  refine name_worldM (fun V hV => ?_)
  have hBz := hB.size
  have hV1 : Below wy4.heap.size wy4 V := by subst hV; repeat' (first | (with_reducible first | exact bq1 _ _ | assumption | refine bq2 ?_ ?_ _ | refine bq3 ?_ ?_ _ | refine bq4 ?_ | refine bq5 ?_ _) | (apply bthen2; (with_reducible assumption)) | go_size)
  have Yv : Box V (wy4.heap.size) [.int .i64 vx, .int .i64 vy] := (by subst hV; exact box_two (by first | omega | (simp; done) | (simp; omega)) (by simp [go_sem]) (by simp [go_sem]) (fun o => by simp [go_sem]))
  have Yp : Box V (wy4.heap.size + 1) [.int .i64 px, .int .i64 py, .int .i64 pe] := (by subst hV; exact box_three (by first | omega | (simp; done) | (simp; omega)) (by simp [go_sem]) (by simp [go_sem]) (by simp [go_sem]) (fun o => by simp [go_sem]))
  have hB2 := bthen2 hV1 hB
  clear hBz
  clear hV1
  clear hV hB 
  refine (HT1.out _).mono ?_; rintro e9 wy5 ⟨rfl, hb⟩
  have Xv := Yv.below hb
  have Xp := Yp.below hb
  have hB := bthen2 hb hB2
  clear hb hB2 Yv Yp HT1
  have qv0 := Xv.2.1 0 _ rfl; have qv1 := Xv.2.1 1 _ rfl; have qvl := Xv.1
  have qp0 := Xp.2.1 0 _ rfl; have qp1 := Xp.2.1 1 _ rfl; have qp2 := Xp.2.1 2 _ rfl; have qpl := Xp.1
  go_wp2_with fail
  refine name_worldM (fun V hV => ?_)
  have hBz := hB.size
  have hV1 : Below wy5.heap.size wy5 V := by subst hV; repeat' (first | (with_reducible first | exact bq1 _ _ | assumption | refine bq2 ?_ ?_ _ | refine bq3 ?_ ?_ _ | refine bq4 ?_ | refine bq5 ?_ _) | (apply bthen2; (with_reducible assumption)) | go_size)
  have Yv := Xv.below hV1
  have Yp := Xp.below hV1
  have hB2 := bthen2 hV1 hB
  clear hBz
  clear hV1
  clear qv0 qv1 qvl qp0 qp1 qp2 qpl
  clear hV hB Xv Xp
  refine (HT2.out _).mono ?_; rintro e9 wy6 ⟨rfl, hb⟩
  have Xv := Yv.below hb
  have Xp := Yp.below hb
  have hB := bthen2 hb hB2
  clear hb hB2 Yv Yp HT2
  have qv0 := Xv.2.1 0 _ rfl; have qv1 := Xv.2.1 1 _ rfl; have qvl := Xv.1
  have qp0 := Xp.2.1 0 _ rfl; have qp1 := Xp.2.1 1 _ rfl; have qp2 := Xp.2.1 2 _ rfl; have qpl := Xp.1
  go_wp2_with fail
  go_ret; exact gives (by simp) gr
theorem red_facts (a b x y e q : Int) : rpOk a b x y e q = true → ∃ u v t, ∃ okd : Bool, dpV a b x y e = .tuple #[.agg #[.int .i64 u, .int .i64 v, .int .i64 t], .bool okd] ∧ isC a b = true ∧ gdB a b q = true ∧ OnF a b q (rpL a b x y e q) ∧ (okd = true → rpOk a b u v t q = true ∧ rpL a b u v t q = dbL a q (rpL a b x y e q)) := by
  intro h
  have h0 := h
  unfold rpOk at h
  rw [Bool.and_eq_true] at h
  obtain ⟨hp, hg⟩ := h
  obtain ⟨hC, pv⟩ := ptB_PVG hp
  rw [rp_t h0]
  unfold dpV
  rw [if_pos hp]
  unfold sumV
  cases hs : EC.sumO a (x, y, e) (x, y, e) with
  | none => exact ⟨0, 0, 0, false, rfl, hC, hg, red_law hp hg, fun k => by cases k⟩
  | some r =>
    obtain ⟨u, v, t⟩ := r
    obtain ⟨pv2, h2⟩ := dbl_law hp hg hs
    have hp2 := PV_ptBM hC pv2
    have hk : rpOk a b u v t q = true := by unfold rpOk; rw [hp2, hg]; rfl
    exact ⟨u, v, t, true, rfl, hC, hg, red_law hp hg, fun _ => ⟨hk, by rw [rp_t hk]; exact h2⟩⟩
set_option maxRecDepth 100000 in
set_option maxHeartbeats 16000000 in
theorem tpD (w wf : World) (am : Option Addr) (lm cm : Nat) {u0 u2 u3 u4 u5 u6 u7 u8 u9 u10 u11 u12 u13 u14 u15 u16 u17 u18 u19 u20 u21 u22 u23 u24 u25 u26 u27 u28 u29 u30 u31 u32 u33 u34 u35 u36 u37 u38 u39 u40 u41 u42 u43 u44 u45 u46 u47 u48 u49 u50 u51 u52 u53 u54 u55 u56 u57 u58 u59 u60 u61 u62 u63 u64 u65 u66 u67 u68 u69 u70 u71 u72 u73 u74 u75 u76 u77 u78 u79 u80 u81 u82 u83 u84 u85 u86 u87 u88 u89 u90 u91 u92 u93 u94 u95 u96 u97 u98 u99 u100 u101 u102 u103 u104 u105 u106 u107 u108 u109 u110 u111 u112 u113 u114 u115 u116 u117 u118 u119 u120 u121 u122 u123 u124 u125 u126 u127 u128 u129 u130 u131 u132 u133 u134 u135 u136 u137 u138 u139 u140 u141 u142 u143 u144 u145 u146 u147 u148 u149 u150 u151 u152 u153 u154 u155 u156 u157 u158 u159 u160 u161 u162 u163 u164 u165 u166 u167 u168 u169 u170 u171 u172 u173 u174 u175 u176 u177 u178 u179 u180 u181 u182 u183 u184 u185 u186 u187 u188 u189 u190 u191 u192 u193 u194 u195 u196 u197 u198 u199 u200 u201 u202 u203 u204 u205 u206 u207 u208 u209 u210 u211 u212 u213 u214 u215 u216 u217 u218 u219 u220 u221 u222 u223 u224 u225 u226 u227 u228 u229 u230 u231 u232 u233 u234 u235 u236 u237 u238 u239 u240 u241 u242 u243 u244 u245 u246 u247 u248 u249 u250 u251 u252 u253 u254 u255 u256 u257 u258 u259 u260 u261 u262 u263 u264 u265 u266 u267 u268 u269 u270 u271 u272 u273 u274 u275 u276 u277 u278 u279 u280 u281 u282 u283 u284 u285 u286 u287 u288 u289 u290 u291 u292 u293 u294 u295 u296 u297 u298 u299 u300 u301 u302 u303 u304 u305 u306 u307 u308 u309 u310 u311 u312 u313 u314 u315 u316 u317 u318 u319 u320 u321 u322 u323 u324 u325 u326 u327 u328 u329 u330 u331 u332 u333 u334 u335 u336 u337 u338 u339 u340 u341 u342 u343 u344 u345 u346 u347 u348 u349 u350 u351 u352 u353 u354 u355 u356 u357 u358 u359 u360 u361 u362 u363 u364 u365 u366 u367 u368 u369 u370 u371 u372 u373 u374 u375 u376 u377 u378 u379 u380 u381 u382 u383 u384 u385 u386 u387 u388 : Value}
    (hM : BytsW wf (.slice am lm cm)) (hB : Below w.heap.size w wf) :
    Code.wp Tryz.prog (cS (cS (cS (cS (cS (cS (cS (cS (cS (cS (cS (cS (cS (cS (cB Tryz.f4))))))))))))))) (bodyPost Tryz.prog Tryz.f4 (Gives (.bool true) w)) ⟨(u0 :: .slice am lm cm :: u2 :: u3 :: u4 :: u5 :: u6 :: u7 :: u8 :: u9 :: u10 :: u11 :: u12 :: u13 :: u14 :: u15 :: u16 :: u17 :: u18 :: u19 :: u20 :: u21 :: u22 :: u23 :: u24 :: u25 :: u26 :: u27 :: u28 :: u29 :: u30 :: u31 :: u32 :: u33 :: u34 :: u35 :: u36 :: u37 :: u38 :: u39 :: u40 :: u41 :: u42 :: u43 :: u44 :: u45 :: u46 :: u47 :: u48 :: u49 :: u50 :: u51 :: u52 :: u53 :: u54 :: u55 :: u56 :: u57 :: u58 :: u59 :: u60 :: u61 :: u62 :: u63 :: u64 :: u65 :: u66 :: u67 :: u68 :: u69 :: u70 :: u71 :: u72 :: u73 :: u74 :: u75 :: u76 :: u77 :: u78 :: u79 :: u80 :: u81 :: u82 :: u83 :: u84 :: u85 :: u86 :: u87 :: u88 :: u89 :: u90 :: u91 :: u92 :: u93 :: u94 :: u95 :: u96 :: u97 :: u98 :: u99 :: u100 :: u101 :: u102 :: u103 :: u104 :: u105 :: u106 :: u107 :: u108 :: u109 :: u110 :: u111 :: u112 :: u113 :: u114 :: u115 :: u116 :: u117 :: u118 :: u119 :: u120 :: u121 :: u122 :: u123 :: u124 :: u125 :: u126 :: u127 :: u128 :: u129 :: u130 :: u131 :: u132 :: u133 :: u134 :: u135 :: u136 :: u137 :: u138 :: u139 :: u140 :: u141 :: u142 :: u143 :: u144 :: u145 :: u146 :: u147 :: u148 :: u149 :: u150 :: u151 :: u152 :: u153 :: u154 :: u155 :: u156 :: u157 :: u158 :: u159 :: u160 :: u161 :: u162 :: u163 :: u164 :: u165 :: u166 :: u167 :: u168 :: u169 :: u170 :: u171 :: u172 :: u173 :: u174 :: u175 :: u176 :: u177 :: u178 :: u179 :: u180 :: u181 :: u182 :: u183 :: u184 :: u185 :: u186 :: u187 :: u188 :: u189 :: u190 :: u191 :: u192 :: u193 :: u194 :: u195 :: u196 :: u197 :: u198 :: u199 :: u200 :: u201 :: u202 :: u203 :: u204 :: u205 :: u206 :: u207 :: u208 :: u209 :: u210 :: u211 :: u212 :: u213 :: u214 :: u215 :: u216 :: u217 :: u218 :: u219 :: u220 :: u221 :: u222 :: u223 :: u224 :: u225 :: u226 :: u227 :: u228 :: u229 :: u230 :: u231 :: u232 :: u233 :: u234 :: u235 :: u236 :: u237 :: u238 :: u239 :: u240 :: u241 :: u242 :: u243 :: u244 :: u245 :: u246 :: u247 :: u248 :: u249 :: u250 :: u251 :: u252 :: u253 :: u254 :: u255 :: u256 :: u257 :: u258 :: u259 :: u260 :: u261 :: u262 :: u263 :: u264 :: u265 :: u266 :: u267 :: u268 :: u269 :: u270 :: u271 :: u272 :: u273 :: u274 :: u275 :: u276 :: u277 :: u278 :: u279 :: u280 :: u281 :: u282 :: u283 :: u284 :: u285 :: u286 :: u287 :: u288 :: u289 :: u290 :: u291 :: u292 :: u293 :: u294 :: u295 :: u296 :: u297 :: u298 :: u299 :: u300 :: u301 :: u302 :: u303 :: u304 :: u305 :: u306 :: u307 :: u308 :: u309 :: u310 :: u311 :: u312 :: u313 :: u314 :: u315 :: u316 :: u317 :: u318 :: u319 :: u320 :: u321 :: u322 :: u323 :: u324 :: u325 :: u326 :: u327 :: u328 :: u329 :: u330 :: u331 :: u332 :: u333 :: u334 :: u335 :: u336 :: u337 :: u338 :: u339 :: u340 :: u341 :: u342 :: u343 :: u344 :: u345 :: u346 :: u347 :: u348 :: u349 :: u350 :: u351 :: u352 :: u353 :: u354 :: u355 :: u356 :: u357 :: u358 :: u359 :: u360 :: u361 :: u362 :: u363 :: u364 :: u365 :: u366 :: u367 :: u368 :: u369 :: u370 :: u371 :: u372 :: u373 :: u374 :: u375 :: u376 :: u377 :: u378 :: u379 :: u380 :: u381 :: u382 :: u383 :: u384 :: u385 :: u386 :: u387 :: u388 :: []).toArray, []⟩ wf := by
  show Code.wp _ (Code.seq _ _) _ _ _
  go_wp2_with fail
  refine name_worldM (fun V hV => ?_)
  have hBz := hB.size
  have hV1 : Below wf.heap.size wf V := by subst hV; repeat' (first | (with_reducible first | exact bq1 _ _ | assumption | refine bq2 ?_ ?_ _ | refine bq3 ?_ ?_ _ | refine bq4 ?_ | refine bq5 ?_ _) | (apply bthen2; (with_reducible assumption)) | go_size)
  have hB2 := bthen2 hV1 hB
  clear hBz
  have hM2 := hM.below hV1
  clear hV1
  clear hV hB  hM
  refine (DrawReducePointC hM2).mono ?_; rintro e9 wy1 ⟨va, vb, px, py, pe, q, rfl, hb⟩
  have hB := bthen2 hb hB2
  have hM := hM2.below hb
  clear hb hB2  hM2 
  have HR1 := Lib.hid (fun W => ReducePoint_any va vb px py pe q W); have HR2 := Lib.hid (fun W => sReducePoint_any va vb px py pe q W)
  obtain ⟨L1, hL1⟩ : ∃ L1, rpL va vb px py pe q = L1 := ⟨_, rfl⟩
  obtain ⟨ok, hok⟩ : ∃ ok, rpOk va vb px py pe q = ok := ⟨_, rfl⟩
  rw [hL1, hok] at HR1 HR2
  have HF := Lib.hid (show ok = true → ∃ u v t, ∃ okd : Bool, dpV va vb px py pe = .tuple #[.agg #[.int .i64 u, .int .i64 v, .int .i64 t], .bool okd] ∧ isC va vb = true ∧ gdB va vb q = true ∧ OnF va vb q L1 ∧ (okd = true → rpOk va vb u v t q = true ∧ rpL va vb u v t q = dbL va q L1) from by rw [← hL1, ← hok]; exact red_facts va vb px py pe q)
  clear hL1 hok
  go_wp2_with fail
  refine name_worldM (fun V hV => ?_)
  have hBz := hB.size
  have hV1 : Below wy1.heap.size wy1 V := by subst hV; repeat' (first | (with_reducible first | exact bq1 _ _ | assumption | refine bq2 ?_ ?_ _ | refine bq3 ?_ ?_ _ | refine bq4 ?_ | refine bq5 ?_ _) | (apply bthen2; (with_reducible assumption)) | go_size)
  have Yv : Box V (wy1.heap.size) [.int .i64 va, .int .i64 vb] := (by subst hV; exact box_two (by first | omega | (simp; done) | (simp; omega)) (by simp [go_sem]) (by simp [go_sem]) (fun o => by simp [go_sem]))
  have Yp : Box V (wy1.heap.size + 1) [.int .i64 px, .int .i64 py, .int .i64 pe] := (by subst hV; exact box_three (by first | omega | (simp; done) | (simp; omega)) (by simp [go_sem]) (by simp [go_sem]) (by simp [go_sem]) (fun o => by simp [go_sem]))
  have hB2 := bthen2 hV1 hB
  clear hBz
  have hM2 := hM.below hV1
  clear hV1
  clear hV hB  hM
  refine (HR1.out _).mono ?_; rintro e9 wy2 ⟨sa, sl, sc, rfl, O1, hb⟩
  have Xv := Yv.below hb
  have Xp := Yp.below hb
  have hB := bthen2 hb hB2
  have hM := hM2.below hb
  clear hb hB2 Yv Yp hM2 HR1
  have qv0 := Xv.2.1 0 _ rfl; have qv1 := Xv.2.1 1 _ rfl; have qvl := Xv.1
  have qp0 := Xp.2.1 0 _ rfl; have qp1 := Xp.2.1 1 _ rfl; have qp2 := Xp.2.1 2 _ rfl; have qpl := Xp.1
  have I1 := O1.ints; clear O1
  go_wp2_with fail
  refine name_worldM (fun V hV => ?_)
  have hBz := hB.size
  have hV1 : Below wy2.heap.size wy2 V := by subst hV; repeat' (first | (with_reducible first | exact bq1 _ _ | assumption | refine bq2 ?_ ?_ _ | refine bq3 ?_ ?_ _ | refine bq4 ?_ | refine bq5 ?_ _) | (apply bthen2; (with_reducible assumption)) | go_size)
  have Yv := Xv.below hV1
  have Yp := Xp.below hV1
  have hB2 := bthen2 hV1 hB
  clear hBz
  have hM2 := hM.below hV1
  have I12 := I1.below hV1
  clear hV1
  clear qv0 qv1 qvl qp0 qp1 qp2 qpl
  clear hV hB Xv Xp hM I1
  refine (HR2.out _).mono ?_; rintro e9 wy3 ⟨ta, tl, tc, rfl, O2, hb⟩
  have Xv := Yv.below hb
  have Xp := Yp.below hb
  have hB := bthen2 hb hB2
  have hM := hM2.below hb
  have I1 := I12.below hb
  clear hb hB2 Yv Yp hM2 I12 HR2
  have qv0 := Xv.2.1 0 _ rfl; have qv1 := Xv.2.1 1 _ rfl; have qvl := Xv.1
  have qp0 := Xp.2.1 0 _ rfl; have qp1 := Xp.2.1 1 _ rfl; have qp2 := Xp.2.1 2 _ rfl; have qpl := Xp.1
  have I2 := O2.ints; clear O2
  go_wp2_with fail
  refine name_worldM (fun V hV => ?_)
  have hBz := hB.size
  have hV1 : Below wy3.heap.size wy3 V := by subst hV; repeat' (first | (with_reducible first | exact bq1 _ _ | assumption | refine bq2 ?_ ?_ _ | refine bq3 ?_ ?_ _ | refine bq4 ?_ | refine bq5 ?_ _) | (apply bthen2; (with_reducible assumption)) | go_size)
  have Yv := Xv.below hV1
  have Yp := Xp.below hV1
  have hB2 := bthen2 hV1 hB
  clear hBz
  have hM2 := hM.below hV1
  have I12 := I1.below hV1
  have I22 := I2.below hV1
  clear hV1
  clear qv0 qv1 qvl qp0 qp1 qp2 qpl
  clear hV hB Xv Xp hM I1 I2
  refine (sameIntsG_same _ _ L1 _ I12 I22).mono ?_; rintro e9 wy4 ⟨rfl, hb⟩
  have Xv := Yv.below hb
  have Xp := Yp.below hb
  have hB := bthen2 hb hB2
  have hM := hM2.below hb
  have I1 := I12.below hb
  have I2 := I22.below hb
  clear hb hB2 Yv Yp hM2 I12 I22 I2
  have qv0 := Xv.2.1 0 _ rfl; have qv1 := Xv.2.1 1 _ rfl; have qvl := Xv.1
  have qp0 := Xp.2.1 0 _ rfl; have qp1 := Xp.2.1 1 _ rfl; have qp2 := Xp.2.1 2 _ rfl; have qpl := Xp.1
  cases ok
  · skip
    clear I1 HF
    have hBz9 := hB.size
    go_upto_if 273 with fail
    clear qv0 qv1 qvl qp0 qp1 qp2 qpl
    first | refine tpE w _ am lm cm ?_ ?_ | (go_step; first | refine tpE w _ am lm cm ?_ ?_ | (go_step; first | refine tpE w _ am lm cm ?_ ?_ | (go_step; first | refine tpE w _ am lm cm ?_ ?_ | (go_step; first | refine tpE w _ am lm cm ?_ ?_ | (go_step; first | refine tpE w _ am lm cm ?_ ?_ | (go_step; refine tpE w _ am lm cm ?_ ?_))))))
    · exact BytsW.below hM gr
    · repeat' (first | (with_reducible first | exact bq1 _ _ | assumption | refine bq2 ?_ ?_ _ | refine bq3 ?_ ?_ _ | refine bq4 ?_ | refine bq5 ?_ _) | (apply bthen2; (with_reducible assumption)) | go_size)
  · skip
    obtain ⟨u, v, t, okd, hd, hC, hg, hon, hdd⟩ := HF.out rfl; clear HF
    by_cases h199 : q ≤ 199
    · skip
      have hq9 : decide (q ≤ 199) = true := by simpa using h199
      have HI := Lib.hid (fun W h => IsPointModulo_t va vb q L1 sa sl sc hC h199 hg hon W h)
      have HA := Lib.hid (fun W h => AddModulo_t va vb q L1 sa sl sc hC h199 hg hon W h)
      have HD1 := Lib.hid (fun W => DoublePoint_any va vb px py pe W); have HD2 := Lib.hid (fun W => sDoublePoint_any va vb px py pe W)
      have HRR := Lib.hid (fun W => ReducePoint_any va vb u v t q W)
      rw [hd] at HD1 HD2; clear hd hC hg hon
      have HDD := Lib.hid hdd; clear hdd
      go_wp2_with fail
      refine name_worldM (fun V hV => ?_)
      have hBz := hB.size
      have hV1 : Below wy4.heap.size wy4 V := by subst hV; repeat' (first | (with_reducible first | exact bq1 _ _ | assumption | refine bq2 ?_ ?_ _ | refine bq3 ?_ ?_ _ | refine bq4 ?_ | refine bq5 ?_ _) | (apply bthen2; (with_reducible assumption)) | go_size)
      have Yv := Xv.below hV1
      have Yp := Xp.below hV1
      have hB2 := bthen2 hV1 hB
      clear hBz
      have hM2 := hM.below hV1
      have I12 := I1.below hV1
      clear hV1
      clear qv0 qv1 qvl qp0 qp1 qp2 qpl
      clear hV hB Xv Xp hM I1
      refine (HI.out _ I12).mono ?_; rintro e9 wy5 ⟨rfl, hb⟩
      have Xv := Yv.below hb
      have Xp := Yp.below hb
      have hB := bthen2 hb hB2
      have hM := hM2.below hb
      have I1 := I12.below hb
      clear hb hB2 Yv Yp hM2 I12 HI
      have qv0 := Xv.2.1 0 _ rfl; have qv1 := Xv.2.1 1 _ rfl; have qvl := Xv.1
      have qp0 := Xp.2.1 0 _ rfl; have qp1 := Xp.2.1 1 _ rfl; have qp2 := Xp.2.1 2 _ rfl; have qpl := Xp.1
      go_wp2_with fail
      refine name_worldM (fun V hV => ?_)
      have hBz := hB.size
      have hV1 : Below wy5.heap.size wy5 V := by subst hV; repeat' (first | (with_reducible first | exact bq1 _ _ | assumption | refine bq2 ?_ ?_ _ | refine bq3 ?_ ?_ _ | refine bq4 ?_ | refine bq5 ?_ _) | (apply bthen2; (with_reducible assumption)) | go_size)
      have Yv := Xv.below hV1
      have Yp := Xp.below hV1
      have hB2 := bthen2 hV1 hB
      clear hBz
      have hM2 := hM.below hV1
      have I12 := I1.below hV1
      clear hV1
      clear qv0 qv1 qvl qp0 qp1 qp2 qpl
      clear hV hB Xv Xp hM I1
      refine (HD1.out _).mono ?_; rintro e9 wy6 ⟨rfl, hb⟩
      have Xv := Yv.below hb
      have Xp := Yp.below hb
      have hB := bthen2 hb hB2
      have hM := hM2.below hb
      have I1 := I12.below hb
      clear hb hB2 Yv Yp hM2 I12 HD1
      have qv0 := Xv.2.1 0 _ rfl; have qv1 := Xv.2.1 1 _ rfl; have qvl := Xv.1
      have qp0 := Xp.2.1 0 _ rfl; have qp1 := Xp.2.1 1 _ rfl; have qp2 := Xp.2.1 2 _ rfl; have qpl := Xp.1
      go_wp2_with fail
      refine name_worldM (fun V hV => ?_)
      have hBz := hB.size
      have hV1 : Below wy6.heap.size wy6 V := by subst hV; repeat' (first | (with_reducible first | exact bq1 _ _ | assumption | refine bq2 ?_ ?_ _ | refine bq3 ?_ ?_ _ | refine bq4 ?_ | refine bq5 ?_ _) | (apply bthen2; (with_reducible assumption)) | go_size)
      have Yv := Xv.below hV1
      have Yp := Xp.below hV1
      have Yd : Box V (wy6.heap.size) [.int .i64 u, .int .i64 v, .int .i64 t] := (by subst hV; exact box_three (by first | omega | (simp; done) | (simp; omega)) (by simp [go_sem]) (by simp [go_sem]) (by simp [go_sem]) (fun o => by simp [go_sem]))
      have hB2 := bthen2 hV1 hB
      clear hBz
      have hM2 := hM.below hV1
      have I12 := I1.below hV1
      clear hV1
      clear qv0 qv1 qvl qp0 qp1 qp2 qpl
      clear hV hB Xv Xp hM I1
      refine (HD2.out _).mono ?_; rintro e9 wy7 ⟨rfl, hb⟩
      have Xv := Yv.below hb
      have Xp := Yp.below hb
      have Xd := Yd.below hb
      have hB := bthen2 hb hB2
      have hM := hM2.below hb
      have I1 := I12.below hb
      clear hb hB2 Yv Yp Yd hM2 I12 HD2
      have qv0 := Xv.2.1 0 _ rfl; have qv1 := Xv.2.1 1 _ rfl; have qvl := Xv.1
      have qp0 := Xp.2.1 0 _ rfl; have qp1 := Xp.2.1 1 _ rfl; have qp2 := Xp.2.1 2 _ rfl; have qpl := Xp.1
      have qd0 := Xd.2.1 0 _ rfl; have qd1 := Xd.2.1 1 _ rfl; have qd2 := Xd.2.1 2 _ rfl; have qdl := Xd.1
      cases okd
      · skip
        clear I1 HA HRR HDD
        have hBz9 := hB.size
        go_upto_if 309 with fail
        clear qv0 qv1 qvl qp0 qp1 qp2 qpl qd0 qd1 qd2 qdl
        first | refine tpE w _ am lm cm ?_ ?_ | (go_step; first | refine tpE w _ am lm cm ?_ ?_ | (go_step; first | refine tpE w _ am lm cm ?_ ?_ | (go_step; first | refine tpE w _ am lm cm ?_ ?_ | (go_step; first | refine tpE w _ am lm cm ?_ ?_ | (go_step; first | refine tpE w _ am lm cm ?_ ?_ | (go_step; refine tpE w _ am lm cm ?_ ?_))))))
        · exact BytsW.below hM gr
        · repeat' (first | (with_reducible first | exact bq1 _ _ | assumption | refine bq2 ?_ ?_ _ | refine bq3 ?_ ?_ _ | refine bq4 ?_ | refine bq5 ?_ _) | (apply bthen2; (with_reducible assumption)) | go_size)
      · skip
        obtain ⟨g1, g2⟩ := HDD.out rfl; clear HDD; rw [g1, g2] at HRR; clear g1 g2
        generalize dbL va q L1 = D at *
        go_wp2_with fail
        refine name_worldM (fun V hV => ?_)
        have hBz := hB.size
        have hV1 : Below wy7.heap.size wy7 V := by subst hV; repeat' (first | (with_reducible first | exact bq1 _ _ | assumption | refine bq2 ?_ ?_ _ | refine bq3 ?_ ?_ _ | refine bq4 ?_ | refine bq5 ?_ _) | (apply bthen2; (with_reducible assumption)) | go_size)
        have Yv := Xv.below hV1
        have Yp := Xp.below hV1
        have Yd := Xd.below hV1
        have Ye : Box V (wy7.heap.size) [.int .i64 u, .int .i64 v, .int .i64 t] := (by subst hV; exact box_three (by first | omega | (simp; done) | (simp; omega)) (by simp [go_sem]) (by simp [go_sem]) (by simp [go_sem]) (fun o => by simp [go_sem]))
        have hB2 := bthen2 hV1 hB
        clear hBz
        have hM2 := hM.below hV1
        have I12 := I1.below hV1
        clear hV1
        clear qv0 qv1 qvl qp0 qp1 qp2 qpl qd0 qd1 qd2 qdl
        clear hV hB Xv Xp Xd hM I1
        refine (HRR.out _).mono ?_; rintro e9 wy8 ⟨ra, rl, rc, rfl, O3, hb⟩
        have Xv := Yv.below hb
        have Xp := Yp.below hb
        have Xd := Yd.below hb
        have Xe := Ye.below hb
        have hB := bthen2 hb hB2
        have hM := hM2.below hb
        have I1 := I12.below hb
        clear hb hB2 Yv Yp Yd Ye hM2 I12 HRR
        have qv0 := Xv.2.1 0 _ rfl; have qv1 := Xv.2.1 1 _ rfl; have qvl := Xv.1
        have qp0 := Xp.2.1 0 _ rfl; have qp1 := Xp.2.1 1 _ rfl; have qp2 := Xp.2.1 2 _ rfl; have qpl := Xp.1
        have qd0 := Xd.2.1 0 _ rfl; have qd1 := Xd.2.1 1 _ rfl; have qd2 := Xd.2.1 2 _ rfl; have qdl := Xd.1
        have qe0 := Xe.2.1 0 _ rfl; have qe1 := Xe.2.1 1 _ rfl; have qe2 := Xe.2.1 2 _ rfl; have qel := Xe.1
        have I3 := O3.ints; clear O3
        go_wp2_with fail
        refine name_worldM (fun V hV => ?_)
        have hBz := hB.size
        have hV1 : Below wy8.heap.size wy8 V := by subst hV; repeat' (first | (with_reducible first | exact bq1 _ _ | assumption | refine bq2 ?_ ?_ _ | refine bq3 ?_ ?_ _ | refine bq4 ?_ | refine bq5 ?_ _) | (apply bthen2; (with_reducible assumption)) | go_size)
        have Yv := Xv.below hV1
        have hB2 := bthen2 hV1 hB
        clear hBz
        have hM2 := hM.below hV1
        have I12 := I1.below hV1
        have I32 := I3.below hV1
        clear hV1
        clear qv0 qv1 qvl qp0 qp1 qp2 qpl qd0 qd1 qd2 qdl qe0 qe1 qe2 qel
        clear hV hB Xv Xp Xd Xe hM I1 I3
        refine (HA.out _ I12).mono ?_; rintro e9 wy9 ⟨na, nl, nc, rfl, O4, hb⟩
        have Xv := Yv.below hb
        have hB := bthen2 hb hB2
        have hM := hM2.below hb
        have I1 := I12.below hb
        have I3 := I32.below hb
        clear hb hB2 Yv hM2 I12 I32 HA
        have qv0 := Xv.2.1 0 _ rfl; have qv1 := Xv.2.1 1 _ rfl; have qvl := Xv.1
        have I4 := O4.ints; clear O4 I1
        go_wp2_with fail
        refine name_worldM (fun V hV => ?_)
        have hBz := hB.size
        have hV1 : Below wy9.heap.size wy9 V := by subst hV; repeat' (first | (with_reducible first | exact bq1 _ _ | assumption | refine bq2 ?_ ?_ _ | refine bq3 ?_ ?_ _ | refine bq4 ?_ | refine bq5 ?_ _) | (apply bthen2; (with_reducible assumption)) | go_size)
        have Yv := Xv.below hV1
        have hB2 := bthen2 hV1 hB
        clear hBz
        have hM2 := hM.below hV1
        have I32 := I3.below hV1
        have I42 := I4.below hV1
        clear hV1
        clear qv0 qv1 qvl
        clear hV hB Xv hM I3 I4
        refine (sameIntsG_same _ _ D _ I32 I42).mono ?_; rintro e9 wy10 ⟨rfl, hb⟩
        have Xv := Yv.below hb
        have hB := bthen2 hb hB2
        have hM := hM2.below hb
        have I3 := I32.below hb
        have I4 := I42.below hb
        clear hb hB2 Yv hM2 I32 I42 I3 I4
        have qv0 := Xv.2.1 0 _ rfl; have qv1 := Xv.2.1 1 _ rfl; have qvl := Xv.1
        have hBz9 := hB.size
        go_upto_if 336 with fail
        clear qv0 qv1 qvl
        first | refine tpE w _ am lm cm ?_ ?_ | (go_step; first | refine tpE w _ am lm cm ?_ ?_ | (go_step; first | refine tpE w _ am lm cm ?_ ?_ | (go_step; first | refine tpE w _ am lm cm ?_ ?_ | (go_step; first | refine tpE w _ am lm cm ?_ ?_ | (go_step; first | refine tpE w _ am lm cm ?_ ?_ | (go_step; refine tpE w _ am lm cm ?_ ?_))))))
        · exact BytsW.below hM gr
        · repeat' (first | (with_reducible first | exact bq1 _ _ | assumption | refine bq2 ?_ ?_ _ | refine bq3 ?_ ?_ _ | refine bq4 ?_ | refine bq5 ?_ _) | (apply bthen2; (with_reducible assumption)) | go_size)
    · skip
      have hq9 : decide (q ≤ 199) = false := by simpa using h199
      clear I1 hd hC hg hon hdd
      have hBz9 := hB.size
      go_upto_if 273 with fail
      clear qv0 qv1 qvl qp0 qp1 qp2 qpl
      first | refine tpE w _ am lm cm ?_ ?_ | (go_step; first | refine tpE w _ am lm cm ?_ ?_ | (go_step; first | refine tpE w _ am lm cm ?_ ?_ | (go_step; first | refine tpE w _ am lm cm ?_ ?_ | (go_step; first | refine tpE w _ am lm cm ?_ ?_ | (go_step; first | refine tpE w _ am lm cm ?_ ?_ | (go_step; refine tpE w _ am lm cm ?_ ?_))))))
      · exact BytsW.below hM gr
      · repeat' (first | (with_reducible first | exact bq1 _ _ | assumption | refine bq2 ?_ ?_ _ | refine bq3 ?_ ?_ _ | refine bq4 ?_ | refine bq5 ?_ _) | (apply bthen2; (with_reducible assumption)) | go_size)
theorem tb_facts (a b m : Int) : ∃ bd : Int, tbR a b m = .tuple #[.int .i64 bd, .bool (gpOk a b m)] ∧ (gpOk a b m = true → isC a b = true ∧ 1 ≤ m ∧ m ≤ 8 ∧ ((gpR a b m).length : Int) = m ∧
    (∀ j, j < (gpR a b m).length → gdB a b ((gpR a b m).getD j 0) = true ∧ cnt a b ((gpR a b m).getD j 0) % bd = 0 ∧ 1 ≤ cnt a b ((gpR a b m).getD j 0) ∧ cnt a b ((gpR a b m).getD j 0) ≤ 2000) ∧ 1 ≤ bd ∧ bd ≤ 2000 ∧
    (2 ≤ m → ∃ ls : Int, tbR a b (m - 1) = .tuple #[.int .i64 ls, .bool true] ∧ ls % bd = 0 ∧ 0 ≤ ls ∧ ls ≤ 2000)) := by
  cases hk : gpOk a b m with
  | false =>
    refine ⟨0, ?_, fun h => by cases h⟩
    unfold gpOk at hk
    unfold tbR
    rw [hk]; rfl
  | true =>
    have hk0 := hk
    unfold gpOk at hk
    rw [Bool.and_eq_true] at hk
    obtain ⟨hC, hm⟩ := hk
    obtain ⟨m1, m2⟩ := inB_iff.1 hm
    obtain ⟨p1, p2⟩ := tbV_pos hC m1 m2
    refine ⟨tbV a b m, tbR_t hC hm, fun _ => ⟨hC, m1, m2, ?_, ?_, p1, p2, fun h2 => ?_⟩⟩
    · rw [gpR_t hk0]; exact gpl_len hC (by omega) m2
    · intro j hj
      rw [gpR_t hk0] at hj ⊢
      have h1 := gpl_at hj
      have h2 := cnt_gp (b := b) j hj
      have e : (gpl a b m).getD j 0 = (gpl a b m)[j] := by simp [List.getD, List.getElem?_eq_getElem hj]
      refine ⟨h1.2.2, mod_zero_of (tbV_dvd ?_), h2.1, h2.2⟩
      rw [e]; exact List.getElem_mem hj
    · obtain ⟨q1, q2⟩ := tbV_pos hC (k := m - 1) (by omega) (by omega)
      exact ⟨tbV a b (m - 1), tbR_t hC (inB_t (by omega) (by omega)), mod_zero_of (tbV_less m1), by omega, q2⟩
set_option maxRecDepth 100000 in
set_option maxHeartbeats 16000000 in
theorem tpB (w wf : World) (am : Option Addr) (lm cm : Nat) {u0 u2 u3 u4 u5 u6 u7 u8 u9 u10 u11 u12 u13 u14 u15 u16 u17 u18 u19 u20 u21 u22 u23 u24 u25 u26 u27 u28 u29 u30 u31 u32 u33 u34 u35 u36 u37 u38 u39 u40 u41 u42 u43 u44 u45 u46 u47 u48 u49 u50 u51 u52 u53 u54 u55 u56 u57 u58 u59 u60 u61 u62 u63 u64 u65 u66 u67 u68 u69 u70 u71 u72 u73 u74 u75 u76 u77 u78 u79 u80 u81 u82 u83 u84 u85 u86 u87 u88 u89 u90 u91 u92 u93 u94 u95 u96 u97 u98 u99 u100 u101 u102 u103 u104 u105 u106 u107 u108 u109 u110 u111 u112 u113 u114 u115 u116 u117 u118 u119 u120 u121 u122 u123 u124 u125 u126 u127 u128 u129 u130 u131 u132 u133 u134 u135 u136 u137 u138 u139 u140 u141 u142 u143 u144 u145 u146 u147 u148 u149 u150 u151 u152 u153 u154 u155 u156 u157 u158 u159 u160 u161 u162 u163 u164 u165 u166 u167 u168 u169 u170 u171 u172 u173 u174 u175 u176 u177 u178 u179 u180 u181 u182 u183 u184 u185 u186 u187 u188 u189 u190 u191 u192 u193 u194 u195 u196 u197 u198 u199 u200 u201 u202 u203 u204 u205 u206 u207 u208 u209 u210 u211 u212 u213 u214 u215 u216 u217 u218 u219 u220 u221 u222 u223 u224 u225 u226 u227 u228 u229 u230 u231 u232 u233 u234 u235 u236 u237 u238 u239 u240 u241 u242 u243 u244 u245 u246 u247 u248 u249 u250 u251 u252 u253 u254 u255 u256 u257 u258 u259 u260 u261 u262 u263 u264 u265 u266 u267 u268 u269 u270 u271 u272 u273 u274 u275 u276 u277 u278 u279 u280 u281 u282 u283 u284 u285 u286 u287 u288 u289 u290 u291 u292 u293 u294 u295 u296 u297 u298 u299 u300 u301 u302 u303 u304 u305 u306 u307 u308 u309 u310 u311 u312 u313 u314 u315 u316 u317 u318 u319 u320 u321 u322 u323 u324 u325 u326 u327 u328 u329 u330 u331 u332 u333 u334 u335 u336 u337 u338 u339 u340 u341 u342 u343 u344 u345 u346 u347 u348 u349 u350 u351 u352 u353 u354 u355 u356 u357 u358 u359 u360 u361 u362 u363 u364 u365 u366 u367 u368 u369 u370 u371 u372 u373 u374 u375 u376 u377 u378 u379 u380 u381 u382 u383 u384 u385 u386 u387 u388 : Value}
    (hM : BytsW wf (.slice am lm cm)) (hB : Below w.heap.size w wf) :
    Code.wp Tryz.prog (cS (cS (cS (cS (cS (cS (cS (cB Tryz.f4)))))))) (bodyPost Tryz.prog Tryz.f4 (Gives (.bool true) w)) ⟨(u0 :: .slice am lm cm :: u2 :: u3 :: u4 :: u5 :: u6 :: u7 :: u8 :: u9 :: u10 :: u11 :: u12 :: u13 :: u14 :: u15 :: u16 :: u17 :: u18 :: u19 :: u20 :: u21 :: u22 :: u23 :: u24 :: u25 :: u26 :: u27 :: u28 :: u29 :: u30 :: u31 :: u32 :: u33 :: u34 :: u35 :: u36 :: u37 :: u38 :: u39 :: u40 :: u41 :: u42 :: u43 :: u44 :: u45 :: u46 :: u47 :: u48 :: u49 :: u50 :: u51 :: u52 :: u53 :: u54 :: u55 :: u56 :: u57 :: u58 :: u59 :: u60 :: u61 :: u62 :: u63 :: u64 :: u65 :: u66 :: u67 :: u68 :: u69 :: u70 :: u71 :: u72 :: u73 :: u74 :: u75 :: u76 :: u77 :: u78 :: u79 :: u80 :: u81 :: u82 :: u83 :: u84 :: u85 :: u86 :: u87 :: u88 :: u89 :: u90 :: u91 :: u92 :: u93 :: u94 :: u95 :: u96 :: u97 :: u98 :: u99 :: u100 :: u101 :: u102 :: u103 :: u104 :: u105 :: u106 :: u107 :: u108 :: u109 :: u110 :: u111 :: u112 :: u113 :: u114 :: u115 :: u116 :: u117 :: u118 :: u119 :: u120 :: u121 :: u122 :: u123 :: u124 :: u125 :: u126 :: u127 :: u128 :: u129 :: u130 :: u131 :: u132 :: u133 :: u134 :: u135 :: u136 :: u137 :: u138 :: u139 :: u140 :: u141 :: u142 :: u143 :: u144 :: u145 :: u146 :: u147 :: u148 :: u149 :: u150 :: u151 :: u152 :: u153 :: u154 :: u155 :: u156 :: u157 :: u158 :: u159 :: u160 :: u161 :: u162 :: u163 :: u164 :: u165 :: u166 :: u167 :: u168 :: u169 :: u170 :: u171 :: u172 :: u173 :: u174 :: u175 :: u176 :: u177 :: u178 :: u179 :: u180 :: u181 :: u182 :: u183 :: u184 :: u185 :: u186 :: u187 :: u188 :: u189 :: u190 :: u191 :: u192 :: u193 :: u194 :: u195 :: u196 :: u197 :: u198 :: u199 :: u200 :: u201 :: u202 :: u203 :: u204 :: u205 :: u206 :: u207 :: u208 :: u209 :: u210 :: u211 :: u212 :: u213 :: u214 :: u215 :: u216 :: u217 :: u218 :: u219 :: u220 :: u221 :: u222 :: u223 :: u224 :: u225 :: u226 :: u227 :: u228 :: u229 :: u230 :: u231 :: u232 :: u233 :: u234 :: u235 :: u236 :: u237 :: u238 :: u239 :: u240 :: u241 :: u242 :: u243 :: u244 :: u245 :: u246 :: u247 :: u248 :: u249 :: u250 :: u251 :: u252 :: u253 :: u254 :: u255 :: u256 :: u257 :: u258 :: u259 :: u260 :: u261 :: u262 :: u263 :: u264 :: u265 :: u266 :: u267 :: u268 :: u269 :: u270 :: u271 :: u272 :: u273 :: u274 :: u275 :: u276 :: u277 :: u278 :: u279 :: u280 :: u281 :: u282 :: u283 :: u284 :: u285 :: u286 :: u287 :: u288 :: u289 :: u290 :: u291 :: u292 :: u293 :: u294 :: u295 :: u296 :: u297 :: u298 :: u299 :: u300 :: u301 :: u302 :: u303 :: u304 :: u305 :: u306 :: u307 :: u308 :: u309 :: u310 :: u311 :: u312 :: u313 :: u314 :: u315 :: u316 :: u317 :: u318 :: u319 :: u320 :: u321 :: u322 :: u323 :: u324 :: u325 :: u326 :: u327 :: u328 :: u329 :: u330 :: u331 :: u332 :: u333 :: u334 :: u335 :: u336 :: u337 :: u338 :: u339 :: u340 :: u341 :: u342 :: u343 :: u344 :: u345 :: u346 :: u347 :: u348 :: u349 :: u350 :: u351 :: u352 :: u353 :: u354 :: u355 :: u356 :: u357 :: u358 :: u359 :: u360 :: u361 :: u362 :: u363 :: u364 :: u365 :: u366 :: u367 :: u368 :: u369 :: u370 :: u371 :: u372 :: u373 :: u374 :: u375 :: u376 :: u377 :: u378 :: u379 :: u380 :: u381 :: u382 :: u383 :: u384 :: u385 :: u386 :: u387 :: u388 :: []).toArray, []⟩ wf := by
  show Code.wp _ (Code.seq _ _) _ _ _
  go_wp2_with fail
  refine name_worldM (fun V hV => ?_)
  have hBz := hB.size
  have hV1 : Below wf.heap.size wf V := by subst hV; repeat' (first | (with_reducible first | exact bq1 _ _ | assumption | refine bq2 ?_ ?_ _ | refine bq3 ?_ ?_ _ | refine bq4 ?_ | refine bq5 ?_ _) | (apply bthen2; (with_reducible assumption)) | go_size)
  have hB2 := bthen2 hV1 hB
  clear hBz
  have hM2 := hM.below hV1
  clear hV1
  clear hV hB  hM
  refine (DrawTorsionBoundC hM2).mono ?_; rintro e9 wy1 ⟨a, b, m, rfl, hb⟩
  have hB := bthen2 hb hB2
  have hM := hM2.below hb
  clear hb hB2  hM2 
  have HT1 := Lib.hid (fun W => TorsionBound_any a b m W); have HT2 := Lib.hid (fun W => sTorsionBound_any a b m W)
  have HG1 := Lib.hid (fun W => GoodPrimesOf_any a b m W); have HG2 := Lib.hid (fun W => sGoodPrimesOf_any a b m W)
  obtain ⟨L, hL⟩ : ∃ L, gpR a b m = L := ⟨_, rfl⟩
  obtain ⟨ok, hok⟩ : ∃ ok, gpOk a b m = ok := ⟨_, rfl⟩
  obtain ⟨bd, hbd, hF⟩ := tb_facts a b m
  rw [hL, hok] at HG1 HG2; rw [hbd, hok] at HT1 HT2; rw [hL, hok] at hF; have HF := Lib.hid hF
  clear hL hok hbd hF
  go_wp2_with fail
  refine name_worldM (fun V hV => ?_)
  have hBz := hB.size
  have hV1 : Below wy1.heap.size wy1 V := by subst hV; repeat' (first | (with_reducible first | exact bq1 _ _ | assumption | refine bq2 ?_ ?_ _ | refine bq3 ?_ ?_ _ | refine bq4 ?_ | refine bq5 ?_ _) | (apply bthen2; (with_reducible assumption)) | go_size)
  have Yu : Box V (wy1.heap.size) [.int .i64 a, .int .i64 b] := (by subst hV; exact box_two (by first | omega | (simp; done) | (simp; omega)) (by simp [go_sem]) (by simp [go_sem]) (fun o => by simp [go_sem]))
  have hB2 := bthen2 hV1 hB
  clear hBz
  have hM2 := hM.below hV1
  clear hV1
  clear hV hB  hM
  refine (HT1.out _).mono ?_; rintro e9 wy2 ⟨rfl, hb⟩
  have Xu := Yu.below hb
  have hB := bthen2 hb hB2
  have hM := hM2.below hb
  clear hb hB2 Yu hM2 HT1
  have qu0 := Xu.2.1 0 _ rfl; have qu1 := Xu.2.1 1 _ rfl; have qul := Xu.1
  go_wp2_with fail
  refine name_worldM (fun V hV => ?_)
  have hBz := hB.size
  have hV1 : Below wy2.heap.size wy2 V := by subst hV; repeat' (first | (with_reducible first | exact bq1 _ _ | assumption | refine bq2 ?_ ?_ _ | refine bq3 ?_ ?_ _ | refine bq4 ?_ | refine bq5 ?_ _) | (apply bthen2; (with_reducible assumption)) | go_size)
  have Yu := Xu.below hV1
  have hB2 := bthen2 hV1 hB
  clear hBz
  have hM2 := hM.below hV1
  clear hV1
  clear qu0 qu1 qul
  clear hV hB Xu hM
  refine (HT2.out _).mono ?_; rintro e9 wy3 ⟨rfl, hb⟩
  have Xu := Yu.below hb
  have hB := bthen2 hb hB2
  have hM := hM2.below hb
  clear hb hB2 Yu hM2 HT2
  have qu0 := Xu.2.1 0 _ rfl; have qu1 := Xu.2.1 1 _ rfl; have qul := Xu.1
  go_wp2_with fail
  refine name_worldM (fun V hV => ?_)
  have hBz := hB.size
  have hV1 : Below wy3.heap.size wy3 V := by subst hV; repeat' (first | (with_reducible first | exact bq1 _ _ | assumption | refine bq2 ?_ ?_ _ | refine bq3 ?_ ?_ _ | refine bq4 ?_ | refine bq5 ?_ _) | (apply bthen2; (with_reducible assumption)) | go_size)
  have Yu := Xu.below hV1
  have hB2 := bthen2 hV1 hB
  clear hBz
  have hM2 := hM.below hV1
  clear hV1
  clear qu0 qu1 qul
  clear hV hB Xu hM
  refine (HG1.out _).mono ?_; rintro e9 wy4 ⟨sa, sl, sc, rfl, O1, hb⟩
  have Xu := Yu.below hb
  have hB := bthen2 hb hB2
  have hM := hM2.below hb
  clear hb hB2 Yu hM2 HG1
  have qu0 := Xu.2.1 0 _ rfl; have qu1 := Xu.2.1 1 _ rfl; have qul := Xu.1
  have I1 := O1.ints; clear O1
  go_wp2_with fail
  refine name_worldM (fun V hV => ?_)
  have hBz := hB.size
  have hV1 : Below wy4.heap.size wy4 V := by subst hV; repeat' (first | (with_reducible first | exact bq1 _ _ | assumption | refine bq2 ?_ ?_ _ | refine bq3 ?_ ?_ _ | refine bq4 ?_ | refine bq5 ?_ _) | (apply bthen2; (with_reducible assumption)) | go_size)
  have Yu := Xu.below hV1
  have hB2 := bthen2 hV1 hB
  clear hBz
  have hM2 := hM.below hV1
  have I12 := I1.below hV1
  clear hV1
  clear qu0 qu1 qul
  clear hV hB Xu hM I1
  refine (HG2.out _).mono ?_; rintro e9 wy5 ⟨ta, tl, tc, rfl, O2, hb⟩
  have Xu := Yu.below hb
  have hB := bthen2 hb hB2
  have hM := hM2.below hb
  have I1 := I12.below hb
  clear hb hB2 Yu hM2 I12 HG2
  have qu0 := Xu.2.1 0 _ rfl; have qu1 := Xu.2.1 1 _ rfl; have qul := Xu.1
  have I2 := O2.ints; clear O2
  go_wp2_with fail
  refine name_worldM (fun V hV => ?_)
  have hBz := hB.size
  have hV1 : Below wy5.heap.size wy5 V := by subst hV; repeat' (first | (with_reducible first | exact bq1 _ _ | assumption | refine bq2 ?_ ?_ _ | refine bq3 ?_ ?_ _ | refine bq4 ?_ | refine bq5 ?_ _) | (apply bthen2; (with_reducible assumption)) | go_size)
  have Yu := Xu.below hV1
  have hB2 := bthen2 hV1 hB
  clear hBz
  have hM2 := hM.below hV1
  have I12 := I1.below hV1
  have I22 := I2.below hV1
  clear hV1
  clear qu0 qu1 qul
  clear hV hB Xu hM I1 I2
  refine (sameIntsG_same _ _ L _ I12 I22).mono ?_; rintro e9 wy6 ⟨rfl, hb⟩
  have Xu := Yu.below hb
  have hB := bthen2 hb hB2
  have hM := hM2.below hb
  have I1 := I12.below hb
  have I2 := I22.below hb
  clear hb hB2 Yu hM2 I12 I22 I1
  have qu0 := Xu.2.1 0 _ rfl; have qu1 := Xu.2.1 1 _ rfl; have qul := Xu.1
  cases ok
  · skip
    clear I2 HF
    have hBz9 := hB.size
    go_upto_if 197 with fail
    clear qu0 qu1 qul
    first | refine tpD w _ am lm cm ?_ ?_ | (go_step; first | refine tpD w _ am lm cm ?_ ?_ | (go_step; first | refine tpD w _ am lm cm ?_ ?_ | (go_step; first | refine tpD w _ am lm cm ?_ ?_ | (go_step; first | refine tpD w _ am lm cm ?_ ?_ | (go_step; first | refine tpD w _ am lm cm ?_ ?_ | (go_step; refine tpD w _ am lm cm ?_ ?_))))))
    · exact BytsW.below hM gr
    · repeat' (first | (with_reducible first | exact bq1 _ _ | assumption | refine bq2 ?_ ?_ _ | refine bq3 ?_ ?_ _ | refine bq4 ?_ | refine bq5 ?_ _) | (apply bthen2; (with_reducible assumption)) | go_size)
  · skip
    obtain ⟨hC, m1, m2, hlen, hp, bd1, bd2, hless⟩ := HF.out rfl; clear HF
    obtain ⟨hl, hl2, -⟩ := I2.cell
    obtain rfl : m = (tl : Int) := by omega
    clear hl hl2 hlen
    have HP := Lib.hid hp; have HLS := Lib.hid hless; clear hp hless
    have kbd : (bd == 0) = false := by simp; omega
    have kbd2 : ¬ bd = 0 := by omega
    go_wp2_with fail
    obtain ⟨wq, hwq⟩ : ∃ x, x = wy6 := ⟨_, rfl⟩; subst hwq
    clear qu0 qu1 qul
    go_loopw [204] (fun v204 wr => ∃ j : Nat, v204 = .int .i64 j ∧ j ≤ tl ∧ Box wr (wy1.heap.size) [.int .i64 a, .int .i64 b] ∧ Ints wr (.slice ta tl tc) L ∧ BytsW wr (.slice am lm cm) ∧ Below w.heap.size w wr) (fun v204 _ => tl - (intOf v204).toNat)
    case atStart => exact ⟨0, rfl, by omega, Xu, I2, hM, hB⟩
    case round =>
      clear Xu I2 hM hB
      obtain ⟨j, rfl, hj, Xu, I2, hM, hB⟩ := hrel
      by_cases hlt : j < tl
      · skip
        obtain ⟨hll, -, hcc⟩ := I2.cell
        obtain ⟨bk, off, rfl, hbk, cc⟩ := hcc j hlt
        obtain ⟨hg, hr, c1, c2⟩ := HP.out j (by omega)
        clear HP HLS hcc
        have HCn := Lib.hid (fun W => CountPoints_t a b (L.getD j 0) hC hg W)
        have hIL := Lib.hid hll; clear hll hg hC
        generalize cnt a b (L.getD j 0) = C at *
        obtain ⟨pp, hpp⟩ : ∃ pp, pp = L.getD j 0 := ⟨_, rfl⟩
        rw [← hpp] at cc HCn; clear hpp
        have kC : (C % bd == 0) = true := by simpa using hr
        have qu0 := Xu.2.1 0 _ rfl; have qu1 := Xu.2.1 1 _ rfl; have qul := Xu.1
        go_wp2_with fail
        refine name_worldM (fun V hV => ?_)
        have hBz := hB.size
        have hV1 : Below wr.heap.size wr V := by subst hV; repeat' (first | (with_reducible first | exact bq1 _ _ | assumption | refine bq2 ?_ ?_ _ | refine bq3 ?_ ?_ _ | refine bq4 ?_ | refine bq5 ?_ _) | (apply bthen2; (with_reducible assumption)) | go_size)
        have Yu := Xu.below hV1
        have hB2 := bthen2 hV1 hB
        clear hBz
        have hM2 := hM.below hV1
        have I22 := I2.below hV1
        clear hV1
        clear qu0 qu1 qul
        clear hV hB Xu hM I2
        refine (HCn.out _).mono ?_; rintro e9 wy7 ⟨rfl, hb⟩
        have Xu := Yu.below hb
        have hB := bthen2 hb hB2
        have hM := hM2.below hb
        have I2 := I22.below hb
        clear hb hB2 Yu hM2 I22 HCn cc
        have qu0 := Xu.2.1 0 _ rfl; have qu1 := Xu.2.1 1 _ rfl; have qul := Xu.1
        have hBz9 := hB.size
        go_wp2_with fail
        first | (refine ⟨⟨j + 1, by first | rfl | go_num, by omega, Xu, I2, hM, hB⟩, ?_⟩; simp [intOf]; omega) | (go_roundw; (case rel => exact ⟨j + 1, by first | rfl | go_num, by omega, Xu, I2, hM, hB⟩); (case measure => simp [intOf]; omega))
      · skip
        clear HP hC I2
        by_cases hm1 : tl ≤ 1
        · skip
          clear HLS
          have hm9 : decide (1 < (tl : Int)) = false := by simp; omega
          have qu0 := Xu.2.1 0 _ rfl; have qu1 := Xu.2.1 1 _ rfl; have qul := Xu.1
          have hBz9 := hB.size
          go_upto_if 224 with fail
          clear qu0 qu1 qul
          first | refine tpD w _ am lm cm ?_ ?_ | (go_step; first | refine tpD w _ am lm cm ?_ ?_ | (go_step; first | refine tpD w _ am lm cm ?_ ?_ | (go_step; first | refine tpD w _ am lm cm ?_ ?_ | (go_step; first | refine tpD w _ am lm cm ?_ ?_ | (go_step; first | refine tpD w _ am lm cm ?_ ?_ | (go_step; refine tpD w _ am lm cm ?_ ?_))))))
          · exact BytsW.below hM gr
          · repeat' (first | (with_reducible first | exact bq1 _ _ | assumption | refine bq2 ?_ ?_ _ | refine bq3 ?_ ?_ _ | refine bq4 ?_ | refine bq5 ?_ _) | (apply bthen2; (with_reducible assumption)) | go_size)
        · skip
          have hm9 : decide (1 < (tl : Int)) = true := by simp; omega
          obtain ⟨ls, hls, r1, r2, r3⟩ := HLS.out (by omega); clear HLS
          have HT3 := Lib.hid (fun W => TorsionBound_any a b ((tl : Int) - 1) W); rw [hls] at HT3; clear hls
          have kC : (ls % bd == 0) = true := by simpa using r1
          have kw : IntKind.i64.wrap ((tl : Int) - 1) = (tl : Int) - 1 := IntWalk.i64_in _ (by omega)
          have qu0 := Xu.2.1 0 _ rfl; have qu1 := Xu.2.1 1 _ rfl; have qul := Xu.1
          go_wp2_with fail
          refine name_worldM (fun V hV => ?_)
          have hBz := hB.size
          have hV1 : Below wr.heap.size wr V := by subst hV; repeat' (first | (with_reducible first | exact bq1 _ _ | assumption | refine bq2 ?_ ?_ _ | refine bq3 ?_ ?_ _ | refine bq4 ?_ | refine bq5 ?_ _) | (apply bthen2; (with_reducible assumption)) | go_size)
          have Yu := Xu.below hV1
          have hB2 := bthen2 hV1 hB
          clear hBz
          have hM2 := hM.below hV1
          clear hV1
          clear qu0 qu1 qul
          clear hV hB Xu hM
          refine (HT3.out _).mono ?_; rintro e9 wy7 ⟨rfl, hb⟩
          have Xu := Yu.below hb
          have hB := bthen2 hb hB2
          have hM := hM2.below hb
          clear hb hB2 Yu hM2 HT3
          have qu0 := Xu.2.1 0 _ rfl; have qu1 := Xu.2.1 1 _ rfl; have qul := Xu.1
          have hBz9 := hB.size
          go_upto_if 239 with fail
          clear qu0 qu1 qul
          first | refine tpD w _ am lm cm ?_ ?_ | (go_step; first | refine tpD w _ am lm cm ?_ ?_ | (go_step; first | refine tpD w _ am lm cm ?_ ?_ | (go_step; first | refine tpD w _ am lm cm ?_ ?_ | (go_step; first | refine tpD w _ am lm cm ?_ ?_ | (go_step; first | refine tpD w _ am lm cm ?_ ?_ | (go_step; refine tpD w _ am lm cm ?_ ?_))))))
          · exact BytsW.below hM gr
          · repeat' (first | (with_reducible first | exact bq1 _ _ | assumption | refine bq2 ?_ ?_ _ | refine bq3 ?_ ?_ _ | refine bq4 ?_ | refine bq5 ?_ _) | (apply bthen2; (with_reducible assumption)) | go_size)
end Go.Proofs.YtjgdajeoeagggaaGreat
