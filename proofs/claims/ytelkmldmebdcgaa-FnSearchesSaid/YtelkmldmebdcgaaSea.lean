import Derived.Test.YtelkmldmebdcgaaDrB
import Derived.Test.YtelkmldmebdcgaaLawS2
import Derived.Test.YtelkmldmebdcgaaSmp
set_option linter.unusedSimpArgs false
set_option linter.unusedVariables false
namespace Go.Proofs.Ytelkmldmebdcgaa
open Go.RowKit
/-! ### searches agree with one another -/

theorem pr7 : Pr 7 := by
  refine ⟨by omega, fun d h2 hd h0 => ?_⟩
  have : d ≤ 2 := by
    rcases Int.lt_or_le 2 d with g | g
    · have := Int.mul_le_mul (a := 3) (c := d) (b := 3) (d := d) (by omega) (by omega) (by omega) (by omega); omega
    · exact g
  have : d = 2 := by omega
  subst this; omega
theorem oddP7 : oddP 7 = true := by
  unfold oddP prB
  rw [Bool.and_eq_true]
  exact ⟨by rw [inB_iff]; omega, by simpa using pr7⟩
theorem symb_sq {y p : Int} (hp : oddP p = true) : 0 ≤ symb (y * y) p := by
  obtain ⟨h3, h9, hpr⟩ := oddP_f hp
  have h := pw_cases (a := y) hpr h3 h9
  have e : pw (y * y) ((p - 1) / 2) p = (pw y ((p - 1) / 2) p * pw y ((p - 1) / 2) p) % p := by
    unfold pw
    rw [← Int.mul_emod, ← Int.mul_pow]
  unfold symb
  rw [e]
  rcases h with h | h | h <;> rw [h]
  · simp
  · rw [Int.emod_eq_of_lt (by omega) (by omega)]; simp
  · rw [show (p - 1) * (p - 1) = 1 + p * (p - 2) by grind, Int.add_mul_emod_self_left, Int.emod_eq_of_lt (by omega) (by omega)]; simp
/-- What a found point is. -/
theorem pt_facts {a b e x : Int} {p : P3} (h : pt a b e x = some p) : p.1 = x ∧ p.2.2 = e ∧ p.2.1 = rt (cVal a b x e) ∧ cVal a b x e = p.2.1 * p.2.1 ∧ 0 ≤ p.2.1 := by
  unfold pt at h
  split at h
  · rename_i g
    obtain ⟨r, h0, h1⟩ := sqB_iff.1 g.2
    have h2 := rt_sq h0 h1
    cases h
    exact ⟨rfl, rfl, rfl, by show _ = rt _ * rt _; rw [h2, h1], rt_nonneg _⟩
  · cases h
theorem pt_sieve {a b e x p : Int} {q : P3} (h : pt a b e x = some q) (hp : oddP p = true) : psB a b x e p = true := by
  obtain ⟨-, -, -, h1, -⟩ := pt_facts h
  unfold psB
  rw [h1, decide_eq_true_eq]
  exact symb_sq hp
theorem pre_mem {a b e m : Int} {k : Nat} {p : P3} (h : p ∈ pre a b e m k) : ∃ i : Nat, i < k ∧ pt a b e (-m + i) = some p := by
  unfold pre at h
  rw [List.mem_filterMap] at h
  obtain ⟨i, hi, h⟩ := h
  exact ⟨i, List.mem_range.1 hi, h⟩
theorem ptsE_mem {a b e m : Int} {p : P3} (h : p ∈ ptsE a b e m) (hm : 0 ≤ m) : -m ≤ p.1 ∧ p.1 ≤ m ∧ p.2.2 = e ∧ pt a b e p.1 = some p := by
  obtain ⟨i, hi, h⟩ := pre_mem h
  have := pt_facts h
  refine ⟨by omega, by omega, this.2.1, ?_⟩
  rw [this.1]; exact h
theorem pre_cs {a b e m p : Int} (hp : oddP p = true) (k : Nat) : ((pre a b e m k).length : Int) ≤ cs (fun x => psB a b x e p) (-m) k := by
  induction k with
  | zero => simp [pre, cs]
  | succ k ih =>
    rw [pre_succ, cs, List.length_append]
    cases h : pt a b e (-m + (k : Int)) with
    | none => dsimp only; split <;> simp <;> omega
    | some q =>
      dsimp only
      rw [if_pos (pt_sieve h hp)]
      simp; omega
theorem ptsE_cs {a b e m p : Int} (hp : oddP p = true) : ((ptsE a b e m).length : Int) ≤ csV a b e m p := pre_cs hp _
theorem csV_bd {a b e m p : Int} (hm : 0 ≤ m) : 0 ≤ csV a b e m p ∧ csV a b e m p ≤ 2 * m + 1 := by
  have := cs_bd (fun x => psB a b x e p) (-m) (2 * m + 1).toNat
  unfold csV; omega
theorem srA_mem {a b m : Int} {k : Nat} {p : P3} (h : p ∈ srA a b m k) (hm : 0 ≤ m) : 1 ≤ p.2.2 ∧ p.2.2 ≤ k ∧ -m ≤ p.1 ∧ p.1 ≤ m ∧ pt a b p.2.2 p.1 = some p := by
  unfold srA at h
  rw [List.mem_flatMap] at h
  obtain ⟨i, hi, h⟩ := h
  have := ptsE_mem h hm
  have hi := List.mem_range.1 hi
  refine ⟨by omega, by omega, this.1, this.2.1, ?_⟩
  rw [this.2.2.1]; exact this.2.2.2
theorem srA_pair (a b m : Int) (hm : 0 ≤ m) (k : Nat) : (srA a b m k).Pairwise fun p q => p.2.2 ≤ q.2.2 := by
  induction k with
  | zero => simp [srA]
  | succ k ih =>
    rw [srA_succ, List.pairwise_append]
    refine ⟨ih, ?_, fun p hp q hq => ?_⟩
    · rw [List.pairwise_iff_forall_sublist]
      intro p q h
      have h1 := ptsE_mem (h.subset (by simp : p ∈ [p, q])) hm
      have h2 := ptsE_mem (h.subset (by simp : q ∈ [p, q])) hm
      omega
    · have h1 := srA_mem hp hm; have h2 := ptsE_mem hq hm
      omega
/-- The facts of a whole search. -/
theorem spOk_f {a b m d : Int} (h : spOk a b m d = true) : sFit a b m d = true ∧ 0 ≤ m ∧ spPs a b m d = srA a b m d.toNat := by
  have h2 := h
  unfold spOk at h2
  simp only [Bool.and_eq_true, decide_eq_true_eq] at h2
  exact ⟨h2.1, h2.2, by unfold spPs; rw [if_pos h]⟩
theorem sFit_sub {a b m d x e : Int} (h : sFit a b m d = true) (x1 : -m ≤ x) (x2 : x ≤ m) (e1 : 1 ≤ e) (e2 : e ≤ d) : sFit a b x e = true := by
  have := sFit_f h
  unfold sFit at h ⊢
  simp only [Bool.and_eq_true, inB_iff] at h ⊢
  exact ⟨⟨h.1.1, by omega⟩, by omega⟩
structure SpM (a b m d : Int) (p : P3) : Prop where
  fit : sFit a b p.1 p.2.2 = true
  x1 : -m ≤ p.1
  x2 : p.1 ≤ m
  e1 : 1 ≤ p.2.2
  e2 : p.2.2 ≤ d
  y0 : 0 ≤ p.2.1
  y1 : p.2.1 ≤ 1800000
  v : cVal a b p.1 p.2.2 = p.2.1 * p.2.1
  s : psB a b p.1 p.2.2 7 = true
theorem spM {a b m d : Int} {p : P3} (h : spOk a b m d = true) (hp : p ∈ spPs a b m d) : SpM a b m d p := by
  obtain ⟨h1, h2, h3⟩ := spOk_f h
  have h4 := sFit_f h1
  rw [h3] at hp
  have h5 := srA_mem hp h2
  have hf := sFit_sub h1 h5.2.2.1 h5.2.2.2.1 h5.1 (show p.2.2 ≤ d by omega)
  have h6 := pt_facts h5.2.2.2.2
  refine ⟨hf, h5.2.2.1, h5.2.2.2.1, h5.1, by omega, h6.2.2.2.2, ?_, h6.2.2.2.1, pt_sieve h5.2.2.2.2 oddP7⟩
  have h7 := sFit_f hf
  have h8 := cVal_b (a := a) (b := b) (x := p.1) (e := p.2.2) (by omega) (by omega) (by omega) (by omega)
  rw [h6.2.2.2.1] at h8
  rcases Int.lt_or_le 1800000 p.2.1 with g | g
  · have := Int.mul_le_mul (a := 1800001) (c := p.2.1) (b := 1800001) (d := p.2.1) (by omega) (by omega) (by omega) (by omega)
    omega
  · exact g
theorem spE {a b m d : Int} (h : spOk a b m d = true) {i : Nat} {p q : P3} (hp : (spPs a b m d)[i]? = some p) (hq : (spPs a b m d)[i + 1]? = some q) : p.2.2 ≤ q.2.2 := by
  obtain ⟨h1, h2, h3⟩ := spOk_f h
  rw [h3] at hp hq
  have hl := srA_pair a b m h2 d.toNat
  rw [List.pairwise_iff_getElem] at hl
  obtain ⟨i1, rfl⟩ := List.getElem?_eq_some_iff.1 hp
  obtain ⟨i2, rfl⟩ := List.getElem?_eq_some_iff.1 hq
  exact hl i (i + 1) i1 i2 (by omega)
theorem peOk_of {a b m d e : Int} (h : spOk a b m d = true) (e1 : 1 ≤ e) (e2 : e ≤ d) : peOk a b e m = true := by
  obtain ⟨h1, h2, -⟩ := spOk_f h
  unfold peOk
  rw [sFit_sub h1 (show -m ≤ m by omega) (Int.le_refl m) e1 e2]; simpa using h2
theorem srA_step {a b m d e : Int} (h : spOk a b m d = true) {k : Nat} (he : e = (k : Int) + 1) (e2 : e ≤ d) : (srA a b m (k + 1)).length = (srA a b m k).length + (pePs a b e m).length := by
  rw [srA_succ, List.length_append]
  unfold pePs
  rw [if_pos (peOk_of h (by omega) e2), he]
theorem sp_none {a b m d : Int} (h : spOk a b m d = false) : spPs a b m d = [] := by unfold spPs; simp [h]
theorem psR_7 {a b m d : Int} {p : P3} (h : SpM a b m d p) : psR a b p.1 p.2.2 7 = .tuple #[.bool true, .bool true] := by
  unfold psR; rw [h.fit, oddP7, h.s]; rfl
theorem cvR_of {a b m d : Int} {p : P3} (h : SpM a b m d p) : cvR a b p.1 p.2.2 = .tuple #[.int .i64 (p.2.1 * p.2.1), .bool true] := by
  unfold cvR; rw [h.fit, ← h.v]; rfl
theorem spPs_lenS (a b m d : Int) : (spPs a b m d).length ≤ 400020 := by
  unfold spPs
  split
  · rename_i h
    unfold spOk at h
    simp only [Bool.and_eq_true, decide_eq_true_eq] at h
    have := sFit_f h.1
    have h2 := srA_len a b m (by omega) d.toNat
    omega
  · simp
theorem pePs_lenS (a b e m : Int) : (pePs a b e m).length ≤ 20001 := by
  unfold pePs
  split
  · rename_i h
    unfold peOk at h
    simp only [Bool.and_eq_true, decide_eq_true_eq] at h
    have := sFit_f h.1
    have h2 := pre_len a b e m (2 * m + 1).toNat
    unfold ptsE
    omega
  · simp
theorem srA_lenD {a b m d : Int} (h : spOk a b m d = true) (k : Nat) : (srA a b m k).length ≤ 20001 * k := by
  have := sFit_f (spOk_f h).1
  exact srA_len a b m (by omega) k

def GAny (w : World) (e : Ending) (w' : World) : Prop := ∃ r : Bool, e = .returned (.bool r) ∧ Below w.heap.size w w'
theorem big_any (a b : Option Addr) (l c m d : Nat) (w : World) (h1 : l ≤ 9223372036854775807) (h2 : m ≤ 9223372036854775807) : Calls Try.prog 6 #[.slice a l c, .slice b m d] w (GAny w) := by
  by_cases g : (1048576 : Int) < (l : Int)
  · go_enter Try.func6, Try.ntmps6
    go_wp2
    go_ret
    exact ⟨_, rfl, (by repeat' (first | (with_reducible exact Below.refl _ _) | (with_reducible assumption) | (with_reducible refine Below.alloc ?_ ?_ _) | (with_reducible refine Below.setCell ?_ ?_ _) | (with_reducible refine Below.drew ?_) | (with_reducible refine below_drewN ?_ _) | (apply bthen2; (with_reducible assumption)) | go_size))⟩
  · go_enter Try.func6, Try.ntmps6
    go_wp2
    go_ret
    exact ⟨_, rfl, (by repeat' (first | (with_reducible exact Below.refl _ _) | (with_reducible assumption) | (with_reducible refine Below.alloc ?_ ?_ _) | (with_reducible refine Below.setCell ?_ ?_ _) | (with_reducible refine Below.drew ?_) | (with_reducible refine below_drewN ?_ _) | (apply bthen2; (with_reducible assumption)) | go_size))⟩

theorem pAbs_any (x : Int) (h1 : -9000000000000000000 ≤ x) (h2 : x ≤ 9000000000000000000) (w : World) : Calls Try.prog 25 #[.int .i64 x] w (Same (.int .i64 (x.natAbs : Int)) w) := by
  by_cases g : x < 0
  · have E := Lib.hid (show (x.natAbs : Int) = -x by omega)
    go_enter Try.func25, Try.ntmps25
    go_wp2
    go_ret; exact same (vint E.out.symm)
  · have E := Lib.hid (show (x.natAbs : Int) = x by omega)
    go_enter Try.func25, Try.ntmps25
    go_wp2
    go_ret; exact same (vint E.out.symm)

theorem fp_f (a b m d : Int) : ∃ fx fy fe : Int, ∃ fd : Bool, fpR a b m d = .tuple #[.agg #[.int .i64 fx, .int .i64 fy, .int .i64 fe], .bool fd] ∧ (fd = true → spOk a b m d = true ∧ (spPs a b m d)[0]? = some (fx, fy, fe)) ∧ (fd = false → spPs a b m d = []) := by
  unfold fpR
  cases h : spPs a b m d with
  | nil => exact ⟨0, 0, 0, false, rfl, (fun h => by cases h), fun _ => rfl⟩
  | cons p t =>
    obtain ⟨x, y, e⟩ := p
    refine ⟨x, y, e, true, rfl, fun _ => ⟨?_, rfl⟩, fun h => by cases h⟩
    cases g : spOk a b m d with
    | true => rfl
    | false => rw [sp_none g] at h; cases h
theorem cs_f (a b e m p : Int) : ∃ n : Int, ∃ ok : Bool, csR a b e m p = .tuple #[.int .i64 n, .bool ok] ∧ (ok = true → 0 ≤ n ∧ n ≤ 2 * m + 1 ∧ 0 ≤ m ∧ m ≤ 10000 ∧ peOk a b e m = true ∧ ((pePs a b e m).length : Int) ≤ n) := by
  cases h : (sFit a b m e && decide (0 ≤ m) && oddP p) with
  | false => exact ⟨0, false, by unfold csR; rw [h]; rfl, fun h => by cases h⟩
  | true =>
    refine ⟨csV a b e m p, true, by unfold csR; rw [h]; rfl, fun _ => ?_⟩
    simp only [Bool.and_eq_true, decide_eq_true_eq] at h
    have h4 := sFit_f h.1.1
    have hk : peOk a b e m = true := by unfold peOk; rw [h.1.1]; simpa using h.1.2
    refine ⟨(csV_bd h.1.2).1, (csV_bd h.1.2).2, h.1.2, by omega, hk, ?_⟩
    unfold pePs; rw [if_pos hk]; exact ptsE_cs h.2
theorem ps_f (a b x e p : Int) : ∃ r0 r1, psR a b x e p = .tuple #[.bool r0, .bool r1] := by unfold psR; split <;> exact ⟨_, _, rfl⟩

set_option maxRecDepth 100000 in
set_option maxHeartbeats 16000000 in
theorem sea_tail (a1 : Option Addr) (l1 c1 : Nat) (w wz : World) (Y1 : Hid (Byts w w.heap.size (Value.slice a1 l1 c1))) (hBT : Below w.heap.size w wz) (u0 u2 u3 u4 u5 u6 u7 u8 u9 u10 u11 u12 u13 u14 u15 u16 u17 u18 u19 u20 u21 u22 u23 u24 u25 u26 u27 u28 u29 u30 u31 u32 u33 u34 u35 u36 u37 u38 u39 u40 u41 u42 u43 u44 u45 u46 u47 u48 u49 u50 u51 u52 u53 u54 u55 u56 u57 u58 u59 u60 u61 u62 u63 u64 u65 u66 u67 u68 u69 u70 u71 u72 u73 u74 u75 u76 u77 u78 u79 u80 u81 u82 u83 u84 u85 u86 u87 u88 u89 u90 u91 u92 u93 u94 u95 u96 u97 u98 u99 u100 u101 u102 u103 u104 u105 u106 u107 u108 u109 u110 u111 u112 u113 u114 u115 u116 u117 u118 u119 u120 u121 u122 u123 u124 u125 u126 u127 u128 u129 u130 u131 u132 u133 u134 u135 u136 u137 u138 u139 u140 u141 u142 u143 u144 u145 u146 u147 u148 u149 u150 u151 u152 u153 u154 u155 u156 u157 u158 u159 u160 u161 u162 u163 u164 u165 u166 u167 u168 u169 u170 u171 u172 u173 u174 u175 u176 u177 u178 u179 u180 u181 u182 u183 u184 u185 u186 u187 u188 u189 u190 u191 u192 u193 u194 u195 u196 u197 u198 u199 u200 u201 u202 u203 u204 u205 u206 u207 u208 u209 u210 u211 u212 u213 u214 u215 u216 u217 u218 u219 u220 u221 u222 u223 u224 u225 u226 u227 u228 u229 u230 u231 u232 u233 u234 u235 u236 u237 u238 u239 u240 u241 u242 u243 u244 u245 u246 u247 u248 u249 u250 u251 u252 u253 u254 u255 u256 u257 u258 u259 u260 u261 u262 u263 u264 u265 u266 u267 u268 u269 u270 u271 u272 u273 u274 u275 u276 u277 u278 u279 u280 u281 u282 u283 u284 u285 u286 u287 u288 u289 u290 u291 u292 u293 u294 u295 u296 u297 u298 u299 u300 u301 u302 u303 u304 u305 u306 u307 u308 u309 u310 u311 u312 u313 u314 u315 u316 u317 u318 u319 u320 u321 u322 u323 u324 u325 u326 u327 u328 u329 u330 u331 u332 u333 u334 u335 u336 u337 u338 u339 u340 u341 u342 u343 u344 u345 u346 u347 u348 u349 u350 : Value) :
    Code.wp Try.prog (cS (cS (cS (cS (cS (cS (cS (cS (cS (cB Try.f4)))))))))) (bodyPost Try.prog Try.f4 (Gives (.bool true) w)) ⟨(u0 :: .slice a1 l1 c1 :: u2 :: u3 :: u4 :: u5 :: u6 :: u7 :: u8 :: u9 :: u10 :: u11 :: u12 :: u13 :: u14 :: u15 :: u16 :: u17 :: u18 :: u19 :: u20 :: u21 :: u22 :: u23 :: u24 :: u25 :: u26 :: u27 :: u28 :: u29 :: u30 :: u31 :: u32 :: u33 :: u34 :: u35 :: u36 :: u37 :: u38 :: u39 :: u40 :: u41 :: u42 :: u43 :: u44 :: u45 :: u46 :: u47 :: u48 :: u49 :: u50 :: u51 :: u52 :: u53 :: u54 :: u55 :: u56 :: u57 :: u58 :: u59 :: u60 :: u61 :: u62 :: u63 :: u64 :: u65 :: u66 :: u67 :: u68 :: u69 :: u70 :: u71 :: u72 :: u73 :: u74 :: u75 :: u76 :: u77 :: u78 :: u79 :: u80 :: u81 :: u82 :: u83 :: u84 :: u85 :: u86 :: u87 :: u88 :: u89 :: u90 :: u91 :: u92 :: u93 :: u94 :: u95 :: u96 :: u97 :: u98 :: u99 :: u100 :: u101 :: u102 :: u103 :: u104 :: u105 :: u106 :: u107 :: u108 :: u109 :: u110 :: u111 :: u112 :: u113 :: u114 :: u115 :: u116 :: u117 :: u118 :: u119 :: u120 :: u121 :: u122 :: u123 :: u124 :: u125 :: u126 :: u127 :: u128 :: u129 :: u130 :: u131 :: u132 :: u133 :: u134 :: u135 :: u136 :: u137 :: u138 :: u139 :: u140 :: u141 :: u142 :: u143 :: u144 :: u145 :: u146 :: u147 :: u148 :: u149 :: u150 :: u151 :: u152 :: u153 :: u154 :: u155 :: u156 :: u157 :: u158 :: u159 :: u160 :: u161 :: u162 :: u163 :: u164 :: u165 :: u166 :: u167 :: u168 :: u169 :: u170 :: u171 :: u172 :: u173 :: u174 :: u175 :: u176 :: u177 :: u178 :: u179 :: u180 :: u181 :: u182 :: u183 :: u184 :: u185 :: u186 :: u187 :: u188 :: u189 :: u190 :: u191 :: u192 :: u193 :: u194 :: u195 :: u196 :: u197 :: u198 :: u199 :: u200 :: u201 :: u202 :: u203 :: u204 :: u205 :: u206 :: u207 :: u208 :: u209 :: u210 :: u211 :: u212 :: u213 :: u214 :: u215 :: u216 :: u217 :: u218 :: u219 :: u220 :: u221 :: u222 :: u223 :: u224 :: u225 :: u226 :: u227 :: u228 :: u229 :: u230 :: u231 :: u232 :: u233 :: u234 :: u235 :: u236 :: u237 :: u238 :: u239 :: u240 :: u241 :: u242 :: u243 :: u244 :: u245 :: u246 :: u247 :: u248 :: u249 :: u250 :: u251 :: u252 :: u253 :: u254 :: u255 :: u256 :: u257 :: u258 :: u259 :: u260 :: u261 :: u262 :: u263 :: u264 :: u265 :: u266 :: u267 :: u268 :: u269 :: u270 :: u271 :: u272 :: u273 :: u274 :: u275 :: u276 :: u277 :: u278 :: u279 :: u280 :: u281 :: u282 :: u283 :: u284 :: u285 :: u286 :: u287 :: u288 :: u289 :: u290 :: u291 :: u292 :: u293 :: u294 :: u295 :: u296 :: u297 :: u298 :: u299 :: u300 :: u301 :: u302 :: u303 :: u304 :: u305 :: u306 :: u307 :: u308 :: u309 :: u310 :: u311 :: u312 :: u313 :: u314 :: u315 :: u316 :: u317 :: u318 :: u319 :: u320 :: u321 :: u322 :: u323 :: u324 :: u325 :: u326 :: u327 :: u328 :: u329 :: u330 :: u331 :: u332 :: u333 :: u334 :: u335 :: u336 :: u337 :: u338 :: u339 :: u340 :: u341 :: u342 :: u343 :: u344 :: u345 :: u346 :: u347 :: u348 :: u349 :: u350 :: []).toArray, []⟩ wz := by
  show Code.wp _ (Code.seq _ _) _ _ _
  go_wp2_with fail
  have Y1w := (Y1.out.below hBT (Nat.le_refl _)).mono hBT.size
  refine (DrawCountSievedC Y1w).mono ?_
  rintro e9 u1 ⟨A2, B2, E2, M2, P2, rfl, hc1⟩
  have hBa : Below w.heap.size w u1 := bthen hBT hc1
  clear hc1 hBT Y1w
  obtain ⟨cn, cok, hcs, hcf⟩ := cs_f A2 B2 E2 M2 P2
  have HCI := Lib.hid (fun W => CountSieved_any A2 B2 E2 M2 P2 W)
  have HCS := Lib.hid (fun W => sCountSieved_any A2 B2 E2 M2 P2 W)
  rw [hcs] at HCI HCS
  clear hcs
  have HPI := Lib.hid (fun W => PointsWithE_any A2 B2 E2 M2 W)
  have HPS := Lib.hid (fun W => sPointsWithE_any A2 B2 E2 M2 W)
  have hql := pePs_lenS A2 B2 E2 M2
  have HCF := Lib.hid hcf
  clear hcf
  generalize pePs A2 B2 E2 M2 = Q at *
  generalize peOk A2 B2 E2 M2 = qo at *
  go_wp2_with fail
  refine (HCI.out _).mono ?_; rintro e9 u2 ⟨rfl, hc2⟩
  have Xa := Box.below (box_made2 _ _ _ _) hc2
  have hBb := bthen2 hc2 (hBa.alloc hBa.size _)
  have c0 := Xa.2.1 0 _ rfl; have c1 := Xa.2.1 1 _ rfl; have cl := Xa.1
  clear hc2 hBa HCI
  go_wp2_with fail
  refine (HCS.out _).mono ?_; rintro e9 u3 ⟨rfl, hc3⟩
  have Xb := Xa.below hc3
  have hBT := bthen2 hc3 hBb
  clear hc3 hBb HCS Xa c0 c1 cl
  have c0 := Xb.2.1 0 _ rfl; have c1 := Xb.2.1 1 _ rfl; have cl := Xb.1
  cases cok
  case false =>
    clear HCF HPI HPS
    go_wp2_with fail
    clear Xb c0 c1 cl
    have Y1w := (Y1.out.below hBT (Nat.le_refl _)).mono hBT.size
    refine (DrawPassesSieveC Y1w).mono ?_
    rintro e9 v1 ⟨A3, B3, x3, e3, p3, rfl, hd1⟩
    obtain ⟨r0, r1, hps⟩ := ps_f A3 B3 x3 e3 p3
    have HA := Lib.hid (fun W => PassesSieve_any A3 B3 x3 e3 p3 W)
    have HB := Lib.hid (fun W => sPassesSieve_any A3 B3 x3 e3 p3 W)
    rw [hps] at HA HB
    clear hps
    have hBa := bthen hBT hd1
    clear hd1 hBT Y1w Y1
    go_wp2_with fail
    refine (HA.out _).mono ?_; rintro e9 v2 ⟨rfl, hd2⟩
    have Xa := Box.below (box_made2 _ _ _ _) hd2
    have hBb := bthen2 hd2 (hBa.alloc hBa.size _)
    have c0 := Xa.2.1 0 _ rfl; have c1 := Xa.2.1 1 _ rfl; have cl := Xa.1
    clear hd2 hBa HA
    go_wp2_with fail
    refine (HB.out _).mono ?_; rintro e9 v3 ⟨rfl, hd3⟩
    have hBc := bthen2 hd3 hBb
    clear hd3 hBb Xa c0 c1 cl HB
    first
      | (go_wp2; go_ret; exact gives rfl (by repeat' (first | (with_reducible exact Below.refl _ _) | (with_reducible assumption) | (with_reducible refine Below.alloc ?_ ?_ _) | (with_reducible refine Below.setCell ?_ ?_ _) | (with_reducible refine Below.drew ?_) | (with_reducible refine below_drewN ?_ _) | (apply bthen2; (with_reducible assumption)) | go_size)))
      | (cases r1 <;> cases r0 <;> (go_wp2; go_ret; exact gives rfl (by repeat' (first | (with_reducible exact Below.refl _ _) | (with_reducible assumption) | (with_reducible refine Below.alloc ?_ ?_ _) | (with_reducible refine Below.setCell ?_ ?_ _) | (with_reducible refine Below.drew ?_) | (with_reducible refine below_drewN ?_ _) | (apply bthen2; (with_reducible assumption)) | go_size))))
  case true =>
    obtain ⟨n0, n1, m0, m1, hq, hqn⟩ := HCF.out rfl
    subst hq
    clear HCF
    go_wp2_with fail
    refine (HPI.out _).mono ?_; rintro e9 u4 ⟨pa, pl, pc, rfl, ow4, hc4⟩
    have PG4 := ow4.pts
    have Xc := Xb.below hc4
    have hBc := bthen2 hc4 hBT
    clear hc4 hBT ow4 Xb c0 c1 cl HPI
    have c0 := Xc.2.1 0 _ rfl; have c1 := Xc.2.1 1 _ rfl; have cl := Xc.1
    go_wp2_with fail
    refine (HPS.out _).mono ?_; rintro e9 u5 ⟨qa, ql, qc, rfl, ow5, hc5⟩
    have PG5 := PG4.below hc5
    have PS5 := ow5.pts
    have hBd := bthen2 hc5 hBc
    obtain ⟨qa', qc', hsl, -, -⟩ := id PS5
    obtain ⟨rfl, rfl, rfl⟩ : qa = qa' ∧ ql = Q.length ∧ qc = qc' := by simpa using hsl
    clear hc5 hBc ow5 hsl PG4 Xc c0 c1 cl HPS
    go_wp2_with fail
    refine (pSamePoints_same _ _ Q _ PG5 PS5).mono ?_
    rintro e9 u6 ⟨rfl, hc6⟩
    have hBT := bthen2 hc6 hBd
    clear hc6 hBd PG5 PS5
    go_wp2_with fail
    have Y1w := (Y1.out.below hBT (Nat.le_refl _)).mono hBT.size
    refine (DrawPassesSieveC Y1w).mono ?_
    rintro e9 v1 ⟨A3, B3, x3, e3, p3, rfl, hd1⟩
    obtain ⟨r0, r1, hps⟩ := ps_f A3 B3 x3 e3 p3
    have HA := Lib.hid (fun W => PassesSieve_any A3 B3 x3 e3 p3 W)
    have HB := Lib.hid (fun W => sPassesSieve_any A3 B3 x3 e3 p3 W)
    rw [hps] at HA HB
    clear hps
    have hBa := bthen hBT hd1
    clear hd1 hBT Y1w Y1
    go_wp2_with fail
    refine (HA.out _).mono ?_; rintro e9 v2 ⟨rfl, hd2⟩
    have Xa := Box.below (box_made2 _ _ _ _) hd2
    have hBb := bthen2 hd2 (hBa.alloc hBa.size _)
    have c0 := Xa.2.1 0 _ rfl; have c1 := Xa.2.1 1 _ rfl; have cl := Xa.1
    clear hd2 hBa HA
    go_wp2_with fail
    refine (HB.out _).mono ?_; rintro e9 v3 ⟨rfl, hd3⟩
    have hBc := bthen2 hd3 hBb
    clear hd3 hBb Xa c0 c1 cl HB
    first
      | (go_wp2; go_ret; exact gives rfl (by repeat' (first | (with_reducible exact Below.refl _ _) | (with_reducible assumption) | (with_reducible refine Below.alloc ?_ ?_ _) | (with_reducible refine Below.setCell ?_ ?_ _) | (with_reducible refine Below.drew ?_) | (with_reducible refine below_drewN ?_ _) | (apply bthen2; (with_reducible assumption)) | go_size)))
      | (cases r1 <;> cases r0 <;> (go_wp2; go_ret; exact gives rfl (by repeat' (first | (with_reducible exact Below.refl _ _) | (with_reducible assumption) | (with_reducible refine Below.alloc ?_ ?_ _) | (with_reducible refine Below.setCell ?_ ?_ _) | (with_reducible refine Below.drew ?_) | (with_reducible refine below_drewN ?_ _) | (apply bthen2; (with_reducible assumption)) | go_size))))

end Go.Proofs.Ytelkmldmebdcgaa
