import Derived.Test.YtelkmldmebdcgaaSeaC
set_option linter.unusedSimpArgs false
set_option linter.unusedVariables false
namespace Go.Proofs.Ytelkmldmebdcgaa
open Go.RowKit

set_option maxRecDepth 100000 in
set_option maxHeartbeats 16000000 in
theorem sea_rest (a1 : Option Addr) (l1 c1 : Nat) (w wf : World) (Y1 : Hid (Byts w w.heap.size (Value.slice a1 l1 c1))) (A B M D : Int) (R : List P3) (ok : Bool) (b2 : Nat) (ga : Option Addr) (gl gc : Nat) (sa : Option Addr) (sc : Nat) (u0 u2 u3 u4 u12 u13 u14 u15 u16 u17 u18 u19 u20 u21 u22 u23 u24 u25 u26 u27 u28 u29 u30 u31 u32 u33 u34 u35 u36 u37 u38 u39 u40 u41 u42 u43 u44 u45 u46 u47 u48 u49 u50 u51 u52 u53 u54 u55 u56 u57 u58 u59 u60 u61 u62 u63 u64 u65 u66 u67 u68 u69 u70 u71 u72 u73 u74 u75 u76 u77 u78 u79 u80 u81 u82 u83 u84 u85 u86 u87 u88 u89 u90 u91 u92 u93 u94 u95 u96 u97 u98 u99 u100 u101 u102 u103 u104 u105 u106 u107 u108 u109 u110 u111 u112 u113 u114 u115 u116 u117 u118 u119 u120 u121 u122 u123 u124 u125 u126 u127 u128 u129 u130 u131 u132 u133 u134 u135 u136 u137 u138 u139 u140 u141 u142 u143 u144 u145 u146 u147 u148 u149 u150 u151 u152 u153 u154 u155 u156 u157 u158 u159 u160 u161 u162 u163 u164 u165 u166 u167 u168 u169 u170 u171 u172 u173 u174 u175 u176 u177 u178 u179 u180 u181 u182 u183 u184 u185 u186 u187 u188 u189 u190 u191 u192 u193 u194 u195 u196 u197 u198 u199 u200 u201 u202 u203 u204 u205 u206 u207 u208 u209 u210 u211 u212 u213 u214 u215 u216 u217 u218 u219 u220 u221 u222 u223 u224 u225 u226 u227 u228 u229 u230 u231 u232 u233 u234 u235 u236 u237 u238 u239 u240 u241 u242 u243 u244 u245 u246 u247 u248 u249 u250 u251 u252 u253 u254 u255 u256 u257 u258 u259 u260 u261 u262 u263 u264 u265 u266 u267 u268 u269 u270 u271 u272 u273 u274 u275 u276 u277 u278 u279 u280 u281 u282 u283 u284 u285 u286 u287 u288 u289 u290 u291 u292 u293 u294 u295 u296 u297 u298 u299 u300 u301 u302 u303 u304 u305 u306 u307 u308 u309 u310 u311 u312 u313 u314 u315 u316 u317 u318 u319 u320 u321 u322 u323 u324 u325 u326 u327 u328 u329 u330 u331 u332 u333 u334 u335 u336 u337 u338 u339 u340 u341 u342 u343 u344 u345 u346 u347 u348 u349 u350 : Value)
    (hR : spPs A B M D = R) (hok : spOk A B M D = ok) (XW : Box wf b2 [.int .i64 A, .int .i64 B]) (PSW : Hid (PtsR wf (.slice sa R.length sc) R)) (hBW : Below w.heap.size w wf) :
    Code.wp Try.prog (cS (cS (cS (cS (cS (cS (cS (cS (cB Try.f4))))))))) (bodyPost Try.prog Try.f4 (Gives (.bool true) w)) ⟨(u0 :: .slice a1 l1 c1 :: u2 :: u3 :: u4 :: .pointer (some ⟨b2, 0, none⟩) :: .int .i64 M :: .int .i64 D :: .slice ga gl gc :: .bool ok :: .slice sa R.length sc :: .bool ok :: u12 :: u13 :: u14 :: u15 :: u16 :: u17 :: u18 :: u19 :: u20 :: u21 :: u22 :: u23 :: u24 :: u25 :: u26 :: u27 :: u28 :: u29 :: u30 :: u31 :: u32 :: u33 :: u34 :: u35 :: u36 :: u37 :: u38 :: u39 :: u40 :: u41 :: u42 :: u43 :: u44 :: u45 :: u46 :: u47 :: u48 :: u49 :: u50 :: u51 :: u52 :: u53 :: u54 :: u55 :: u56 :: u57 :: u58 :: u59 :: u60 :: u61 :: u62 :: u63 :: u64 :: u65 :: u66 :: u67 :: u68 :: u69 :: u70 :: u71 :: u72 :: u73 :: u74 :: u75 :: u76 :: u77 :: u78 :: u79 :: u80 :: u81 :: u82 :: u83 :: u84 :: u85 :: u86 :: u87 :: u88 :: u89 :: u90 :: u91 :: u92 :: u93 :: u94 :: u95 :: u96 :: u97 :: u98 :: u99 :: u100 :: u101 :: u102 :: u103 :: u104 :: u105 :: u106 :: u107 :: u108 :: u109 :: u110 :: u111 :: u112 :: u113 :: u114 :: u115 :: u116 :: u117 :: u118 :: u119 :: u120 :: u121 :: u122 :: u123 :: u124 :: u125 :: u126 :: u127 :: u128 :: u129 :: u130 :: u131 :: u132 :: u133 :: u134 :: u135 :: u136 :: u137 :: u138 :: u139 :: u140 :: u141 :: u142 :: u143 :: u144 :: u145 :: u146 :: u147 :: u148 :: u149 :: u150 :: u151 :: u152 :: u153 :: u154 :: u155 :: u156 :: u157 :: u158 :: u159 :: u160 :: u161 :: u162 :: u163 :: u164 :: u165 :: u166 :: u167 :: u168 :: u169 :: u170 :: u171 :: u172 :: u173 :: u174 :: u175 :: u176 :: u177 :: u178 :: u179 :: u180 :: u181 :: u182 :: u183 :: u184 :: u185 :: u186 :: u187 :: u188 :: u189 :: u190 :: u191 :: u192 :: u193 :: u194 :: u195 :: u196 :: u197 :: u198 :: u199 :: u200 :: u201 :: u202 :: u203 :: u204 :: u205 :: u206 :: u207 :: u208 :: u209 :: u210 :: u211 :: u212 :: u213 :: u214 :: u215 :: u216 :: u217 :: u218 :: u219 :: u220 :: u221 :: u222 :: u223 :: u224 :: u225 :: u226 :: u227 :: u228 :: u229 :: u230 :: u231 :: u232 :: u233 :: u234 :: u235 :: u236 :: u237 :: u238 :: u239 :: u240 :: u241 :: u242 :: u243 :: u244 :: u245 :: u246 :: u247 :: u248 :: u249 :: u250 :: u251 :: u252 :: u253 :: u254 :: u255 :: u256 :: u257 :: u258 :: u259 :: u260 :: u261 :: u262 :: u263 :: u264 :: u265 :: u266 :: u267 :: u268 :: u269 :: u270 :: u271 :: u272 :: u273 :: u274 :: u275 :: u276 :: u277 :: u278 :: u279 :: u280 :: u281 :: u282 :: u283 :: u284 :: u285 :: u286 :: u287 :: u288 :: u289 :: u290 :: u291 :: u292 :: u293 :: u294 :: u295 :: u296 :: u297 :: u298 :: u299 :: u300 :: u301 :: u302 :: u303 :: u304 :: u305 :: u306 :: u307 :: u308 :: u309 :: u310 :: u311 :: u312 :: u313 :: u314 :: u315 :: u316 :: u317 :: u318 :: u319 :: u320 :: u321 :: u322 :: u323 :: u324 :: u325 :: u326 :: u327 :: u328 :: u329 :: u330 :: u331 :: u332 :: u333 :: u334 :: u335 :: u336 :: u337 :: u338 :: u339 :: u340 :: u341 :: u342 :: u343 :: u344 :: u345 :: u346 :: u347 :: u348 :: u349 :: u350 :: []).toArray, []⟩ wf := by
  have HL := Lib.hid (spPs_lenS A B M D)
  have HM := Lib.hid (fun (h : spOk A B M D = true) p hp => spM (a := A) (b := B) (m := M) (d := D) (p := p) h hp)
  have HE := Lib.hid (fun (h : spOk A B M D = true) i p q => spE (a := A) (b := B) (m := M) (d := D) (i := i) (p := p) (q := q) h)
  have HN := Lib.hid (show spOk A B M D = true → (spPs A B M D).length = (srA A B M D.toNat).length ∧ sFit A B M D = true ∧ 0 ≤ M from fun h => ⟨by rw [(spOk_f h).2.2], (spOk_f h).1, (spOk_f h).2.1⟩)
  have HST := Lib.hid (fun (h : spOk A B M D = true) e k => srA_step (a := A) (b := B) (m := M) (d := D) (e := e) h (k := k))
  have HSL := Lib.hid (fun (h : spOk A B M D = true) k => srA_lenD (a := A) (b := B) (m := M) (d := D) h k)
  have HPO := Lib.hid (fun (h : spOk A B M D = true) e => peOk_of (a := A) (b := B) (m := M) (d := D) (e := e) h)
  simp only [hR, hok] at HL HM HE HN HST HSL HPO
  clear hR hok
  show Code.wp _ (Code.seq _ _) _ _ _
  go_upto_if 124 with fail
  go_cut [4] (fun _ wx => Below w.heap.size w wx)
  case first =>
    cases ok
    case false =>
      clear HM HE HN HST HPO HL HSL XW PSW
      go_wp2_with fail
      go_meet
      exact hBW
    case true =>
      have hRl := HL.out
      go_wp2_with fail
      go_loopw [127] (fun v127 wr => ∃ k : Nat, v127 = .int .i64 k ∧ k ≤ R.length ∧ Below wf.heap.size wf wr) (fun v127 _ => (R.length - intOf v127).toNat)
      case atStart => exact ⟨0, rfl, by omega, Below.refl _ _⟩
      case round =>
        obtain ⟨k, rfl, hk, hbw⟩ := hrel
        have hzw := hbw.size
        have Xw := XW.below hbw
        by_cases hlt : k < R.length
        · refine sea_b1 wr _ _ A B M D R b2 sa sc k _ _ _ _ _ _ _ _ _ _ _ _ _ _ _ _ _ _ _ _ _ _ _ _ _ _ _ _ _ _ _ _ _ _ _ _ _ _ _ _ _ _ _ _ _ _ _ _ _ _ _ _ _ _ _ _ _ _ _ _ _ _ _ _ _ _ _ _ _ _ _ _ _ _ _ _ _ _ _ _ _ _ _ _ _ _ _ _ _ _ _ _ _ _ _ _ _ _ _ _ _ _ _ _ _ _ _ _ _ _ _ _ _ _ _ _ _ _ _ _ _ _ _ _ _ _ _ _ _ _ _ _ _ _ _ _ _ _ _ _ _ _ _ _ _ _ _ _ _ _ _ _ _ _ _ _ _ _ _ _ _ _ _ _ _ _ _ _ _ _ _ _ _ _ _ _ _ _ _ _ _ _ _ _ _ _ _ _ _ _ _ _ _ _ _ _ _ _ _ _ _ _ _ _ _ _ _ _ _ _ _ _ _ _ _ _ _ _ _ _ _ _ _ _ _ _ _ _ _ _ _ _ _ _ _ _ _ _ _ _ _ _ _ _ _ _ _ _ _ _ _ _ _ _ _ _ _ _ _ _ _ _ _ _ _ _ _ _ _ _ _ _ _ _ _ _ _ _ _ _ _ _ _ _ _ _ _ _ _ _ _ _ _ _ _ _ _ _ _ _ _ _ _ _ _ _ _ _ _ _ _ _ _ _ _ _ _ _ _ _ _ _ _ _ _ _ _ _ _ _ _ _ _ _ _ _ _ _ _ _ _ _ _ _ (HN.out (by simp)).2.1 (Lib.hid (HM.out (by simp))) (Lib.hid (HE.out (by simp))) hRl (Lib.hid (PSW.out.below hbw)) Xw hlt ?_
          intros
          rename_i hb9
          have hBB := bthen hbw hb9
          first
            | (refine ⟨⟨k + 1, by first | rfl | go_num, by omega, by repeat' (first | (with_reducible exact Below.refl _ _) | (with_reducible assumption) | (with_reducible refine Below.alloc ?_ ?_ _) | (with_reducible refine Below.setCell ?_ ?_ _) | (with_reducible refine Below.drew ?_) | (with_reducible refine below_drewN ?_ _) | (apply bthen2; (with_reducible assumption)) | go_size)⟩, ?_⟩; simp [intOf]; omega)
            | (go_roundw; (case rel => exact ⟨k + 1, by first | rfl | go_num, by omega, by repeat' (first | (with_reducible exact Below.refl _ _) | (with_reducible assumption) | (with_reducible refine Below.alloc ?_ ?_ _) | (with_reducible refine Below.setCell ?_ ?_ _) | (with_reducible refine Below.drew ?_) | (with_reducible refine below_drewN ?_ _) | (apply bthen2; (with_reducible assumption)) | go_size)⟩); (case measure => simp [intOf]; omega))
        · clear PSW HM HE
          go_wp2_with fail
          obtain ⟨wq, hwq⟩ : ∃ x, x = wr := ⟨_, rfl⟩
          subst hwq
          have hN := HN.out (by simp)
          obtain ⟨hN1, hN2, hN3⟩ := hN
          have HN1 := Lib.hid hN1
          clear hN1
          have hN4 := sFit_f hN2
          have HLN := Lib.hid (fun k => HSL.out (by simp) k)
          go_loopw [22, 23] (fun v22 v23 wr => ∃ (k : Nat) (e n : Int), v23 = .int .i64 e ∧ Hid (e = (k : Int) + 1) ∧ (k : Int) ≤ D ∧ v22 = .int .i64 n ∧ Hid (n = ((srA A B M k).length : Int)) ∧ Below wq.heap.size wq wr) (fun _ v23 _ => (D + 1 - intOf v23).toNat)
          case atStart => exact ⟨0, 1, 0, rfl, Lib.hid (by simp), by omega, rfl, Lib.hid (by simp [srA]), Below.refl _ _⟩
          case round =>
            obtain ⟨k, e, n, rfl, HX, hkD, rfl, HNN, hbs⟩ := hrel
            have hzs := hbs.size
            have Xs := Xw.below hbs
            have c0 := Xs.2.1 0 _ rfl; have c1 := Xs.2.1 1 _ rfl; have cl := Xs.1
            have hx := HX.out; have hnn := HNN.out; have hln := HLN.out k
            have hn0 : 0 ≤ n := by omega
            have hn1 : n ≤ 400020 := by omega
            by_cases hlt : e ≤ D
            · have hpk := HPO.out (by simp) e (by omega) hlt
              have hst := HST.out (by simp) e k (by omega) hlt
              have HXX := Lib.hid (show e + 1 = ((k + 1 : Nat) : Int) + 1 by omega)
              have HNX := Lib.hid (show n + ((pePs A B e M).length : Int) = ((srA A B M (k + 1)).length : Int) by omega)
              have hkD2 : ((k + 1 : Nat) : Int) ≤ D := by omega
              have he1 : 1 ≤ e := by omega
              have hD9 : D ≤ 100000 := by omega
              clear hx hnn hln hst
              refine sea_b2 wr _ _ A B M D b2 e n _ _ _ _ _ _ _ _ _ _ _ _ _ _ _ _ _ _ _ _ _ _ _ _ _ _ _ _ _ _ _ _ _ _ _ _ _ _ _ _ _ _ _ _ _ _ _ _ _ _ _ _ _ _ _ _ _ _ _ _ _ _ _ _ _ _ _ _ _ _ _ _ _ _ _ _ _ _ _ _ _ _ _ _ _ _ _ _ _ _ _ _ _ _ _ _ _ _ _ _ _ _ _ _ _ _ _ _ _ _ _ _ _ _ _ _ _ _ _ _ _ _ _ _ _ _ _ _ _ _ _ _ _ _ _ _ _ _ _ _ _ _ _ _ _ _ _ _ _ _ _ _ _ _ _ _ _ _ _ _ _ _ _ _ _ _ _ _ _ _ _ _ _ _ _ _ _ _ _ _ _ _ _ _ _ _ _ _ _ _ _ _ _ _ _ _ _ _ _ _ _ _ _ _ _ _ _ _ _ _ _ _ _ _ _ _ _ _ _ _ _ _ _ _ _ _ _ _ _ _ _ _ _ _ _ _ _ _ _ _ _ _ _ _ _ _ _ _ _ _ _ _ _ _ _ _ _ _ _ _ _ _ _ _ _ _ _ _ _ _ _ _ _ _ _ _ _ _ _ _ _ _ _ _ _ _ _ _ _ _ _ _ _ _ _ _ _ _ _ _ _ _ _ _ _ _ _ _ _ _ _ _ _ _ _ _ _ _ _ _ _ _ _ _ _ _ _ _ _ _ _ _ _ _ _ _ _ _ _ _ _ _ _ _ _ _ hpk hlt he1 hD9 hn0 hn1 Xs ?_
              intros
              rename_i hb9
              have hBv := bthen hbs hb9
              first
                | (refine ⟨⟨k + 1, e + 1, n + ((pePs A B e M).length : Int), by first | rfl | go_num, HXX, hkD2, by first | rfl | go_num, HNX, by repeat' (first | (with_reducible exact Below.refl _ _) | (with_reducible assumption) | (with_reducible refine Below.alloc ?_ ?_ _) | (with_reducible refine Below.setCell ?_ ?_ _) | (with_reducible refine Below.drew ?_) | (with_reducible refine below_drewN ?_ _) | (apply bthen2; (with_reducible assumption)) | go_size)⟩, ?_⟩; simp [intOf]; omega)
                | (go_roundw; (case rel => exact ⟨k + 1, e + 1, n + ((pePs A B e M).length : Int), by first | rfl | go_num, HXX, hkD2, by first | rfl | go_num, HNX, by repeat' (first | (with_reducible exact Below.refl _ _) | (with_reducible assumption) | (with_reducible refine Below.alloc ?_ ?_ _) | (with_reducible refine Below.setCell ?_ ?_ _) | (with_reducible refine Below.drew ?_) | (with_reducible refine below_drewN ?_ _) | (apply bthen2; (with_reducible assumption)) | go_size)⟩); (case measure => simp [intOf]; omega))
            · have hnR : n = (R.length : Int) := by
                have hkd : D.toNat = k := by omega
                have hN1 := HN1.out; rw [hkd] at hN1; omega
              have hBT : Below w.heap.size w wr := bthen (bthen hBW hbw) hbs
              clear hx hnn hln HNN HX Xs Xw
              go_wp2_with fail
              go_meet
              exact hBT
  case rest =>
    obtain ⟨wz, hV⟩ : ∃ x, x = wc := ⟨_, rfl⟩
    subst hV
    have hBT : Below w.heap.size w wz := hcut
    clear hcut HM HE HN HST HPO HL HSL XW PSW hBW
    refine (by assumption : ∀ (a : Act) (w_1 : World), Code.wp _ _ _ a w_1 → _) _ _ ?_
    exact sea_tail a1 l1 c1 w wz Y1 hBT _ _ _ _ _ _ _ _ _ _ _ _ _ _ _ _ _ _ _ _ _ _ _ _ _ _ _ _ _ _ _ _ _ _ _ _ _ _ _ _ _ _ _ _ _ _ _ _ _ _ _ _ _ _ _ _ _ _ _ _ _ _ _ _ _ _ _ _ _ _ _ _ _ _ _ _ _ _ _ _ _ _ _ _ _ _ _ _ _ _ _ _ _ _ _ _ _ _ _ _ _ _ _ _ _ _ _ _ _ _ _ _ _ _ _ _ _ _ _ _ _ _ _ _ _ _ _ _ _ _ _ _ _ _ _ _ _ _ _ _ _ _ _ _ _ _ _ _ _ _ _ _ _ _ _ _ _ _ _ _ _ _ _ _ _ _ _ _ _ _ _ _ _ _ _ _ _ _ _ _ _ _ _ _ _ _ _ _ _ _ _ _ _ _ _ _ _ _ _ _ _ _ _ _ _ _ _ _ _ _ _ _ _ _ _ _ _ _ _ _ _ _ _ _ _ _ _ _ _ _ _ _ _ _ _ _ _ _ _ _ _ _ _ _ _ _ _ _ _ _ _ _ _ _ _ _ _ _ _ _ _ _ _ _ _ _ _ _ _ _ _ _ _ _ _ _ _ _ _ _ _ _ _ _ _ _ _ _ _ _ _ _ _ _ _ _ _ _ _ _ _ _ _ _ _ _ _ _ _ _ _ _ _ _ _ _ _ _ _ _ _ _ _ _ _ _ _ _ _ _ _ _ _ _ _ _ _ _ _ _ _ _ _ _ _ _ _ _ _ _

end Go.Proofs.Ytelkmldmebdcgaa
