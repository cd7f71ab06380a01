import Derived.Test.YtjgdajeoeagggaaGreatYDrT
import Derived.Test.YtjgdajeoeagggaaGreatYK14
import Derived.Test.YtjgdajeoeagggaaGreatYK13
set_option linter.unusedSimpArgs false
set_option linter.unusedVariables false
namespace Go.Proofs.YtjgdajeoeagggaaGreat
open Go.RowKit
/-! ### FnTorsion in parts -/
def BytsW (w : World) (v : Value) : Prop := Byts w w.heap.size v
theorem BytsW.below {w w' : World} {v : Value} (h : BytsW w v) (hb : Below w.heap.size w w') : BytsW w' v := Byts.mono (Byts.below h hb (Nat.le_refl _)) hb.size
theorem tsV_f (a b : Int) : ∃ f n : Int, tsV a b = .tuple #[.int .i64 f, .int .i64 n, .bool (isC a b)] := by
  unfold tsV
  cases isC a b
  · exact ⟨0, 0, rfl⟩
  · exact ⟨_, _, rfl⟩
/-- What is known of the told points L, the candidates C, the shape f9, n9. -/
structure TF (a b f9 n9 : Int) (L C : List P3) (f n : Nat) (bd : Int) (so : Nat → Nat) (po : Nat → List P3) : Prop where
  ef : f9 = f
  en : n9 = n
  len : ((L.length : Nat) : Int) = (f : Int) * n
  f1 : 1 ≤ f
  f2 : f ≤ 2
  n1 : 1 ≤ n
  n2 : n ≤ 12
  nf : (n : Int) % f = 0
  lc : L.length ≤ C.length + 1
  cl : C.length ≤ 12002
  l1 : 1 ≤ L.length
  l13 : L.length ≤ 13
  zero : L[0]? = some (0, 0, 0)
  ck : ckV a b L = .tuple #[.bool true, .bool true]
  tb : tbR a b 3 = .tuple #[.int .i64 bd, .bool true]
  bm : bd % ((L.length : Nat) : Int) = 0
  b1 : 1 ≤ bd
  b2 : bd ≤ 2000
  it : ∀ (k : Nat) (x y e : Int), L[k]? = some (x, y, e) → itV a b x y e = .tuple #[.bool true, .bool true]
  so0 : so 0 = 0
  so1 : ∀ k, so (k + 1) = so k + (po k).length
  soN : so 12 = L.length
  po1 : ∀ k : Nat, (po k).length ≤ 13
  po2 : ∀ k : Nat, 0 < (po k).length → (n : Int) % ((k : Int) + 1) = 0
  po3 : ∀ k : Nat, k < 12 → poPP a b ((k : Int) + 1) = po k ∧ poOk a b ((k : Int) + 1) = true
theorem tf_of (a b f9 n9 : Int) (h : tsV a b = .tuple #[.int .i64 f9, .int .i64 n9, .bool (isC a b)]) (hC : isC a b = true) : ∃ f n bd so po, TF a b f9 n9 (tpPs a b) (tcPs a b) f n bd so po := by
  obtain ⟨f, n, e1, e2, f1, f2, n1, n2, nf, lc, l13, z, ck, ⟨bd, tb, bm, b1, b2⟩, po, it⟩ := tor_facts hC
  have t1 : tpPs a b = tps a b := by unfold tpPs; rw [if_pos hC]
  have t2 : tcPs a b = cds a b 6001 := by unfold tcPs; rw [if_pos hC]
  have cl := cds_len a b 6001
  rw [e1, hC] at h
  rw [t2]
  rw [t1]
  refine ⟨f, n, bd, soT a b, fun k => poPs a b ((k : Int) + 1), ?_⟩
  refine { ef := ?_, en := ?_, len := by rw [e2]; simp, f1 := f1, f2 := f2, n1 := n1, n2 := n2, nf := nf, lc := lc, cl := by omega, l1 := ?_, l13 := l13, zero := z, ck := ck, tb := tb, bm := bm, b1 := b1, b2 := b2, it := ?_, so0 := soT_zero hC, so1 := fun k => soT_succ a b k, soN := soT_all hC, po1 := ?_, po2 := ?_, po3 := ?_ }
  · simp at h; exact h.1.symm
  · simp at h; exact h.2.symm
  · rcases Nat.eq_zero_or_pos (tps a b).length with q | q
    · rw [List.length_eq_zero_iff.1 q] at z; simp at z
    · exact q
  · intro k x y e hk
    exact it (x, y, e) (List.mem_of_getElem? hk)
  · intro k
    have := List.length_filter_le (fun p => !poB a ((k : Int) + 1) p) (tps a b)
    unfold poPs
    exact Nat.le_trans this l13
  · intro k hk
    exact po k (fun h0 => by simp only [h0, List.length_nil] at hk; omega)
  · intro k hk
    have ho : poOk a b ((k : Int) + 1) = true := by
      unfold poOk
      rw [hC, inB_t (by omega) (by omega)]; rfl
    exact ⟨by unfold poPP; rw [if_pos ho], ho⟩
set_option maxRecDepth 100000 in
set_option maxHeartbeats 16000000 in
theorem ttC (w wf : World) (am : Option Addr) (lm cm : Nat) {u0 u2 u3 u4 u5 u6 u7 u8 u9 u10 u11 u12 u13 u14 u15 u16 u17 u18 u19 u20 u21 u22 u23 u24 u25 u26 u27 u28 u29 u30 u31 u32 u33 u34 u35 u36 u37 u38 u39 u40 u41 u42 u43 u44 u45 u46 u47 u48 u49 u50 u51 u52 u53 u54 u55 u56 u57 u58 u59 u60 u61 u62 u63 u64 u65 u66 u67 u68 u69 u70 u71 u72 u73 u74 u75 u76 u77 u78 u79 u80 u81 u82 u83 u84 u85 u86 u87 u88 u89 u90 u91 u92 u93 u94 u95 u96 u97 u98 u99 u100 u101 u102 u103 u104 u105 u106 u107 u108 u109 u110 u111 u112 u113 u114 u115 u116 u117 u118 u119 u120 u121 u122 u123 u124 u125 u126 u127 u128 u129 u130 u131 u132 u133 u134 u135 u136 u137 u138 u139 u140 u141 u142 u143 u144 u145 u146 u147 u148 u149 u150 u151 u152 u153 u154 u155 u156 u157 u158 u159 u160 u161 u162 u163 u164 u165 u166 u167 u168 u169 u170 u171 u172 u173 u174 u175 u176 u177 u178 u179 u180 u181 u182 u183 u184 u185 u186 u187 u188 u189 u190 u191 u192 u193 u194 u195 u196 u197 u198 u199 u200 u201 u202 u203 u204 u205 u206 u207 u208 u209 u210 u211 u212 u213 u214 u215 u216 u217 u218 u219 u220 u221 u222 u223 u224 u225 u226 u227 u228 u229 u230 u231 u232 u233 u234 u235 u236 u237 u238 u239 u240 u241 u242 u243 u244 u245 u246 u247 u248 u249 u250 u251 u252 u253 u254 u255 u256 u257 u258 u259 u260 u261 u262 u263 u264 u265 u266 u267 u268 u269 u270 u271 u272 u273 u274 u275 u276 u277 u278 u279 u280 u281 u282 u283 u284 u285 u286 u287 u288 u289 u290 : Value}
    (hM : BytsW wf (.slice am lm cm)) (hB : Below w.heap.size w wf) :
    Code.wp Tryz.prog (cS (cS (cS (cS (cS (cS (cS (cS (cS (cS (cS (cB Tryz.f3)))))))))))) (bodyPost Tryz.prog Tryz.f3 (Gives (.bool true) w)) ⟨(u0 :: .slice am lm cm :: u2 :: u3 :: u4 :: u5 :: u6 :: u7 :: u8 :: u9 :: u10 :: u11 :: u12 :: u13 :: u14 :: u15 :: u16 :: u17 :: u18 :: u19 :: u20 :: u21 :: u22 :: u23 :: u24 :: u25 :: u26 :: u27 :: u28 :: u29 :: u30 :: u31 :: u32 :: u33 :: u34 :: u35 :: u36 :: u37 :: u38 :: u39 :: u40 :: u41 :: u42 :: u43 :: u44 :: u45 :: u46 :: u47 :: u48 :: u49 :: u50 :: u51 :: u52 :: u53 :: u54 :: u55 :: u56 :: u57 :: u58 :: u59 :: u60 :: u61 :: u62 :: u63 :: u64 :: u65 :: u66 :: u67 :: u68 :: u69 :: u70 :: u71 :: u72 :: u73 :: u74 :: u75 :: u76 :: u77 :: u78 :: u79 :: u80 :: u81 :: u82 :: u83 :: u84 :: u85 :: u86 :: u87 :: u88 :: u89 :: u90 :: u91 :: u92 :: u93 :: u94 :: u95 :: u96 :: u97 :: u98 :: u99 :: u100 :: u101 :: u102 :: u103 :: u104 :: u105 :: u106 :: u107 :: u108 :: u109 :: u110 :: u111 :: u112 :: u113 :: u114 :: u115 :: u116 :: u117 :: u118 :: u119 :: u120 :: u121 :: u122 :: u123 :: u124 :: u125 :: u126 :: u127 :: u128 :: u129 :: u130 :: u131 :: u132 :: u133 :: u134 :: u135 :: u136 :: u137 :: u138 :: u139 :: u140 :: u141 :: u142 :: u143 :: u144 :: u145 :: u146 :: u147 :: u148 :: u149 :: u150 :: u151 :: u152 :: u153 :: u154 :: u155 :: u156 :: u157 :: u158 :: u159 :: u160 :: u161 :: u162 :: u163 :: u164 :: u165 :: u166 :: u167 :: u168 :: u169 :: u170 :: u171 :: u172 :: u173 :: u174 :: u175 :: u176 :: u177 :: u178 :: u179 :: u180 :: u181 :: u182 :: u183 :: u184 :: u185 :: u186 :: u187 :: u188 :: u189 :: u190 :: u191 :: u192 :: u193 :: u194 :: u195 :: u196 :: u197 :: u198 :: u199 :: u200 :: u201 :: u202 :: u203 :: u204 :: u205 :: u206 :: u207 :: u208 :: u209 :: u210 :: u211 :: u212 :: u213 :: u214 :: u215 :: u216 :: u217 :: u218 :: u219 :: u220 :: u221 :: u222 :: u223 :: u224 :: u225 :: u226 :: u227 :: u228 :: u229 :: u230 :: u231 :: u232 :: u233 :: u234 :: u235 :: u236 :: u237 :: u238 :: u239 :: u240 :: u241 :: u242 :: u243 :: u244 :: u245 :: u246 :: u247 :: u248 :: u249 :: u250 :: u251 :: u252 :: u253 :: u254 :: u255 :: u256 :: u257 :: u258 :: u259 :: u260 :: u261 :: u262 :: u263 :: u264 :: u265 :: u266 :: u267 :: u268 :: u269 :: u270 :: u271 :: u272 :: u273 :: u274 :: u275 :: u276 :: u277 :: u278 :: u279 :: u280 :: u281 :: u282 :: u283 :: u284 :: u285 :: u286 :: u287 :: u288 :: u289 :: u290 :: []).toArray, []⟩ wf := by
  show Code.wp _ (Code.seq _ _) _ _ _
  go_wp2_with fail
  refine name_worldM (fun V hV => ?_)
  have hBz := hB.size
  have hV1 : Below wf.heap.size wf V := by subst hV; repeat' (first | (with_reducible first | exact bq1 _ _ | assumption | refine bq2 ?_ ?_ _ | refine bq3 ?_ ?_ _ | refine bq4 ?_ | refine bq5 ?_ _) | (apply bthen2; (with_reducible assumption)) | go_size)
  have hB2 := bthen2 hV1 hB
  clear hBz
  have hM2 := hM.below hV1
  clear hV1
  clear hV hB  hM
  refine (DrawPointsOfOrderC hM2).mono ?_; rintro e9 wy1 ⟨u, v, m, rfl, hb⟩
  have hB := bthen2 hb hB2
  have hM := hM2.below hb
  clear hb hB2  hM2 
  clear hM
  have HO1 := Lib.hid (fun W => PointsOfOrder_any u v m W); have HO2 := Lib.hid (fun W => sPointsOfOrder_any u v m W)
  generalize poPP u v m = D at *; generalize poOk u v m = okd at *
  go_wp2_with fail
  refine name_worldM (fun V hV => ?_)
  have hBz := hB.size
  have hV1 : Below wy1.heap.size wy1 V := by subst hV; repeat' (first | (with_reducible first | exact bq1 _ _ | assumption | refine bq2 ?_ ?_ _ | refine bq3 ?_ ?_ _ | refine bq4 ?_ | refine bq5 ?_ _) | (apply bthen2; (with_reducible assumption)) | go_size)
  have Yu : Box V (wy1.heap.size) [.int .i64 u, .int .i64 v] := (by subst hV; exact box_two (by first | omega | (simp; done) | (simp; omega)) (by simp [go_sem]) (by simp [go_sem]) (fun o => by simp [go_sem]))
  have hB2 := bthen2 hV1 hB
  clear hBz
  clear hV1
  clear hV hB 
  refine (HO1.out _).mono ?_; rintro e9 wy2 ⟨xa, xl, xc, rfl, O1, hb⟩
  have Xu := Yu.below hb
  have hB := bthen2 hb hB2
  clear hb hB2 Yu HO1
  have qu0 := Xu.2.1 0 _ rfl; have qu1 := Xu.2.1 1 _ rfl; have qul := Xu.1
  have P1 := O1.pts; clear O1
  go_wp2_with fail
  refine name_worldM (fun V hV => ?_)
  have hBz := hB.size
  have hV1 : Below wy2.heap.size wy2 V := by subst hV; repeat' (first | (with_reducible first | exact bq1 _ _ | assumption | refine bq2 ?_ ?_ _ | refine bq3 ?_ ?_ _ | refine bq4 ?_ | refine bq5 ?_ _) | (apply bthen2; (with_reducible assumption)) | go_size)
  have Yu := Xu.below hV1
  have hB2 := bthen2 hV1 hB
  clear hBz
  have P12 := P1.below hV1
  clear hV1
  clear qu0 qu1 qul
  clear hV hB Xu P1
  refine (HO2.out _).mono ?_; rintro e9 wy3 ⟨ya, yl, yc, rfl, O2, hb⟩
  have Xu := Yu.below hb
  have hB := bthen2 hb hB2
  have P1 := P12.below hb
  clear hb hB2 Yu P12 HO2
  have qu0 := Xu.2.1 0 _ rfl; have qu1 := Xu.2.1 1 _ rfl; have qul := Xu.1
  have P2 := O2.pts; clear O2
  go_wp2_with fail
  refine name_worldM (fun V hV => ?_)
  have hBz := hB.size
  have hV1 : Below wy3.heap.size wy3 V := by subst hV; repeat' (first | (with_reducible first | exact bq1 _ _ | assumption | refine bq2 ?_ ?_ _ | refine bq3 ?_ ?_ _ | refine bq4 ?_ | refine bq5 ?_ _) | (apply bthen2; (with_reducible assumption)) | go_size)
  have Yu := Xu.below hV1
  have hB2 := bthen2 hV1 hB
  clear hBz
  have P12 := P1.below hV1
  have P22 := P2.below hV1
  clear hV1
  clear qu0 qu1 qul
  clear hV hB Xu P1 P2
  refine (pSamePoints_same _ _ D _ P12 P22).mono ?_; rintro e9 wy4 ⟨rfl, hb⟩
  have Xu := Yu.below hb
  have hB := bthen2 hb hB2
  have P1 := P12.below hb
  have P2 := P22.below hb
  clear hb hB2 Yu P12 P22 P1 P2
  have qu0 := Xu.2.1 0 _ rfl; have qu1 := Xu.2.1 1 _ rfl; have qul := Xu.1
  go_wp2_with fail
  go_ret; exact gives (by simp) gr
end Go.Proofs.YtjgdajeoeagggaaGreat
