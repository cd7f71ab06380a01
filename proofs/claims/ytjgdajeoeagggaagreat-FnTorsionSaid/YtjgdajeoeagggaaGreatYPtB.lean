import Derived.Test.YtjgdajeoeagggaaGreatYEcE
set_option linter.unusedSimpArgs false
set_option linter.unusedVariables false
namespace Go.Proofs.YtjgdajeoeagggaaGreat
open Go.RowKit
def sumV (A : Int) (p q : P3) : Value := match EC.sumO A p q with
  | some r => .tuple #[.agg #[.int .i64 r.1, .int .i64 r.2.1, .int .i64 r.2.2], .bool true]
  | none => .tuple #[.agg #[.int .i64 0, .int .i64 0, .int .i64 0], .bool false]
theorem PV.z {A B x y e : Int} (h : EC.PV A B (x, y, e)) (he : e = 0) : x = 0 ∧ y = 0 := by
  rcases h with h | ⟨-, -, h3, -⟩
  · simp only [Prod.mk.injEq] at h; exact ⟨h.1, h.2.1⟩
  · simp only at h3; omega
theorem sumO_zl {A B : Int} {q : P3} (hq : EC.PV A B q) : EC.sumO A (0, 0, 0) q = some q := by
  unfold EC.sumO
  rw [show EC.toQ (0, 0, 0) = none from rfl, EC.zero_add]
  exact EC.rep_toQ hq
theorem sumO_zr {A B : Int} {q : P3} (hq : EC.PV A B q) : EC.sumO A q (0, 0, 0) = some q := by
  unfold EC.sumO
  rw [show EC.toQ (0, 0, 0) = none from rfl, EC.add_zero]
  exact EC.rep_toQ hq
set_option maxRecDepth 100000 in
set_option maxHeartbeats 4000000 in
theorem ptAdd_zl (A B x2 y2 e2 : Int) (hq : EC.PV A B (x2, y2, e2)) (w : World) :
    Calls Tryz.prog 81 #[.agg #[.int .i64 A, .int .i64 B], .agg #[.int .i64 0, .int .i64 0, .int .i64 0], .agg #[.int .i64 x2, .int .i64 y2, .int .i64 e2]] w (Gives (sumV A (0, 0, 0) (x2, y2, e2)) w) := by
  unfold sumV
  rw [sumO_zl hq]
  clear hq
  go_enter Tryz.func81, Tryz.ntmps81
  go_wp2
  refine bodyPost_ret (v := .tuple #[.agg #[.int .i64 x2, .int .i64 y2, .int .i64 e2], .bool true]) (by simp [results, Tryz.results81, go_sem]) rfl (gives rfl gr)
set_option maxRecDepth 100000 in
set_option maxHeartbeats 4000000 in
theorem ptAdd_zr (A B x1 y1 e1 : Int) (h1 : e1 ≠ 0) (hq : EC.PV A B (x1, y1, e1)) (w : World) :
    Calls Tryz.prog 81 #[.agg #[.int .i64 A, .int .i64 B], .agg #[.int .i64 x1, .int .i64 y1, .int .i64 e1], .agg #[.int .i64 0, .int .i64 0, .int .i64 0]] w (Gives (sumV A (x1, y1, e1) (0, 0, 0)) w) := by
  unfold sumV
  rw [sumO_zr hq]
  have k1 : (e1 == 0) = false := by simpa using h1
  clear hq
  go_enter Tryz.func81, Tryz.ntmps81
  go_wp2
  refine bodyPost_ret (v := .tuple #[.agg #[.int .i64 x1, .int .i64 y1, .int .i64 e1], .bool true]) (by simp [results, Tryz.results81, go_sem]) rfl (gives rfl gr)
set_option maxRecDepth 100000 in
set_option maxHeartbeats 4000000 in
theorem ptAdd_opp (A B x1 y1 e1 x2 y2 e2 : Int) (h1 : e1 ≠ 0) (h2 : e2 ≠ 0) (hS : EC.sumO A (x1, y1, e1) (x2, y2, e2) = some (0, 0, 0))
    (HC : ∀ w, Calls Tryz.prog 121 #[.agg #[.int .i64 A, .int .i64 B], .agg #[.int .i64 x1, .int .i64 y1, .int .i64 e1], .agg #[.int .i64 x2, .int .i64 y2, .int .i64 e2]] w (Gives (.tuple #[.int .i64 1, .int .i64 0]) w)) (w : World) :
    Calls Tryz.prog 81 #[.agg #[.int .i64 A, .int .i64 B], .agg #[.int .i64 x1, .int .i64 y1, .int .i64 e1], .agg #[.int .i64 x2, .int .i64 y2, .int .i64 e2]] w (Gives (sumV A (x1, y1, e1) (x2, y2, e2)) w) := by
  unfold sumV
  rw [hS]
  have k1 : (e1 == 0) = false := by simpa using h1
  have k2 : (e2 == 0) = false := by simpa using h2
  have HC := Lib.hid HC
  clear hS h1 h2
  go_enter Tryz.func81, Tryz.ntmps81
  go_wp2_with fail
  refine (HC.out _).mono ?_
  rintro e wa ⟨rfl, hba⟩; have hza := hba.size; (try simp only [wz1, wz2, wz3, wz4] at hza); try (refine keepc hba (w.heap.size) ?_ ?_; (focus (first | omega | (simp <;> omega))); intro hca_0 hfa_0 hla_0); try (refine keepc hba (w.heap.size + 1) ?_ ?_; (focus (first | omega | (simp <;> omega))); intro hca_1 hfa_1 hla_1); try (refine keepc hba (w.heap.size + 1 + 1) ?_ ?_; (focus (first | omega | (simp <;> omega))); intro hca_2 hfa_2 hla_2); try (refine keepc hba (w.heap.size + 1 + 1 + 1) ?_ ?_; (focus (first | omega | (simp <;> omega))); intro hca_x0 hfa_x0 hla_x0)
  go_wp2_with fail
  refine bodyPost_ret (v := .tuple #[.agg #[.int .i64 0, .int .i64 0, .int .i64 0], .bool true]) (by simp [results, Tryz.results81, go_sem, hca_x0, hla_x0]) rfl (gives rfl gr)
set_option maxRecDepth 100000 in
set_option maxHeartbeats 4000000 in
theorem ptAdd_far (A B x1 y1 e1 x2 y2 e2 n m : Int) (h1 : e1 ≠ 0) (h2 : e2 ≠ 0) (hm : 0 < m) (hm2 : m ≤ 10000000000) (hn : n.natAbs ≤ 100000000000) (hf : ¬ (m ≤ 8000 ∧ n.natAbs ≤ 200 * m)) (hS : EC.sumO A (x1, y1, e1) (x2, y2, e2) = none)
    (HC : ∀ w, Calls Tryz.prog 121 #[.agg #[.int .i64 A, .int .i64 B], .agg #[.int .i64 x1, .int .i64 y1, .int .i64 e1], .agg #[.int .i64 x2, .int .i64 y2, .int .i64 e2]] w (Gives (.tuple #[.int .i64 n, .int .i64 m]) w)) (w : World) :
    Calls Tryz.prog 81 #[.agg #[.int .i64 A, .int .i64 B], .agg #[.int .i64 x1, .int .i64 y1, .int .i64 e1], .agg #[.int .i64 x2, .int .i64 y2, .int .i64 e2]] w (Gives (sumV A (x1, y1, e1) (x2, y2, e2)) w) := by
  unfold sumV
  rw [hS]
  have k1 : (e1 == 0) = false := by simpa using h1
  have k2 : (e2 == 0) = false := by simpa using h2
  have k3 : (m == 0) = false := by simp; omega
  have k4 : wrap64 (200 * m) = 200 * m := win (by omega)
  have HA := Lib.hid (show ∀ w, Calls Tryz.prog 94 #[.int .i64 n] w (Same (.int .i64 (max n (-n))) w) from fun w => by have := l1Abs_any n w; rwa [win (n := -n) (by omega)] at this)
  have HC := Lib.hid HC
  by_cases h8 : 8000 < m
  · clear hS h1 h2 hf
    go_enter Tryz.func81, Tryz.ntmps81
    go_wp2_with fail
    refine (HC.out _).mono ?_
    rintro e wa ⟨rfl, hba⟩; have hza := hba.size; (try simp only [wz1, wz2, wz3, wz4] at hza); try (refine keepc hba (w.heap.size) ?_ ?_; (focus (first | omega | (simp <;> omega))); intro hca_0 hfa_0 hla_0); try (refine keepc hba (w.heap.size + 1) ?_ ?_; (focus (first | omega | (simp <;> omega))); intro hca_1 hfa_1 hla_1); try (refine keepc hba (w.heap.size + 1 + 1) ?_ ?_; (focus (first | omega | (simp <;> omega))); intro hca_2 hfa_2 hla_2); try (refine keepc hba (w.heap.size + 1 + 1 + 1) ?_ ?_; (focus (first | omega | (simp <;> omega))); intro hca_x0 hfa_x0 hla_x0)
    go_wp2_with fail
    refine bodyPost_ret (v := .tuple #[.agg #[.int .i64 0, .int .i64 0, .int .i64 0], .bool false]) (by simp [results, Tryz.results81, go_sem, hca_x0, hla_x0]) rfl (gives rfl gr)
  · have h9 : 200 * m < max n (-n) := by omega
    clear hS h1 h2 hf
    go_enter Tryz.func81, Tryz.ntmps81
    go_wp2_with fail
    refine (HC.out _).mono ?_
    rintro e wa ⟨rfl, hba⟩; have hza := hba.size; (try simp only [wz1, wz2, wz3, wz4] at hza); try (refine keepc hba (w.heap.size) ?_ ?_; (focus (first | omega | (simp <;> omega))); intro hca_0 hfa_0 hla_0); try (refine keepc hba (w.heap.size + 1) ?_ ?_; (focus (first | omega | (simp <;> omega))); intro hca_1 hfa_1 hla_1); try (refine keepc hba (w.heap.size + 1 + 1) ?_ ?_; (focus (first | omega | (simp <;> omega))); intro hca_2 hfa_2 hla_2); try (refine keepc hba (w.heap.size + 1 + 1 + 1) ?_ ?_; (focus (first | omega | (simp <;> omega))); intro hca_x0 hfa_x0 hla_x0)
    go_wp2_with (first | (go_at_call 94; refine (HA.out _).mono ?_; rintro e w1 ⟨rfl, rfl⟩))
    refine bodyPost_ret (v := .tuple #[.agg #[.int .i64 0, .int .i64 0, .int .i64 0], .bool false]) (by simp [results, Tryz.results81, go_sem, hca_x0, hla_x0]) rfl (gives rfl gr)
set_option maxRecDepth 100000 in
set_option maxHeartbeats 8000000 in
theorem ptAdd_none (A B x1 y1 e1 x2 y2 e2 n m P2 Q2 T D x den e : Int) (h1 : e1 ≠ 0) (h2 : e2 ≠ 0) (hm : 0 < m) (hm2 : m ≤ 8000) (hn : n.natAbs ≤ 200 * m)
    (hP : wrap64 (e1 * e1) = P2) (hQ : wrap64 (e2 * e2) = Q2)
    (kT : wrap64 (wrap64 (wrap64 (wrap64 (wrap64 (n * n) * P2) * Q2) - wrap64 (wrap64 (wrap64 (x1 * m) * m) * Q2)) - wrap64 (wrap64 (wrap64 (x2 * m) * m) * P2)) = T)
    (kD : wrap64 (wrap64 (wrap64 (m * m) * P2) * Q2) = D) (he : 0 ≤ e) (he2 : e ≤ 1000000000)
    (HC : ∀ w, Calls Tryz.prog 121 #[.agg #[.int .i64 A, .int .i64 B], .agg #[.int .i64 x1, .int .i64 y1, .int .i64 e1], .agg #[.int .i64 x2, .int .i64 y2, .int .i64 e2]] w (Gives (.tuple #[.int .i64 n, .int .i64 m]) w))
    (HE : ∀ w, Calls Tryz.prog 122 #[.int .i64 T, .int .i64 D] w (Gives (.tuple #[.int .i64 x, .int .i64 den]) w))
    (HR : ∀ w, Calls Tryz.prog 123 #[.int .i64 den] w (Same (.int .i64 e) w)) (hf : ¬ (e * e = den ∧ e ≤ 20 ∧ -10000 ≤ x ∧ x ≤ 10000)) (hS : EC.sumO A (x1, y1, e1) (x2, y2, e2) = none) (w : World) :
    Calls Tryz.prog 81 #[.agg #[.int .i64 A, .int .i64 B], .agg #[.int .i64 x1, .int .i64 y1, .int .i64 e1], .agg #[.int .i64 x2, .int .i64 y2, .int .i64 e2]] w (Gives (sumV A (x1, y1, e1) (x2, y2, e2)) w) := by
  unfold sumV
  rw [hS]
  have k1 : (e1 == 0) = false := by simpa using h1
  have k2 : (e2 == 0) = false := by simpa using h2
  have k3 : (m == 0) = false := by simp; omega
  have k4 : wrap64 (200 * m) = 200 * m := win (by omega)
  have k5 : wrap64 (e * e) = e * e := by
    have := nmul (a := e) (b := e) (x := 1000000000) (y := 1000000000) (by omega) (by omega)
    exact win (by omega)
  have HA := Lib.hid (show ∀ w, Calls Tryz.prog 94 #[.int .i64 n] w (Same (.int .i64 (max n (-n))) w) from fun w => by have := l1Abs_any n w; rwa [win (n := -n) (by omega)] at this)
  have HI := Lib.hid (fun w => l1In_any x (-10000) 10000 w)
  have k8 : ¬ 8000 < m := by omega
  have k9 : ¬ 200 * m < max n (-n) := by omega
  have HC := Lib.hid HC; have HE := Lib.hid HE; have HR := Lib.hid HR
  clear hS h1 h2 hn hm2
  by_cases c1 : e * e = den
  · have k6 := k5.trans c1
    clear k5
    by_cases c2 : 20 < e
    · clear hf HI c1
      go_enter Tryz.func81, Tryz.ntmps81
      go_wp2_with fail
      refine (HC.out _).mono ?_
      rintro e wa ⟨rfl, hba⟩; have hza := hba.size; (try simp only [wz1, wz2, wz3, wz4] at hza); try (refine keepc hba (w.heap.size) ?_ ?_; (focus (first | omega | (simp <;> omega))); intro hca_0 hfa_0 hla_0); try (refine keepc hba (w.heap.size + 1) ?_ ?_; (focus (first | omega | (simp <;> omega))); intro hca_1 hfa_1 hla_1); try (refine keepc hba (w.heap.size + 1 + 1) ?_ ?_; (focus (first | omega | (simp <;> omega))); intro hca_2 hfa_2 hla_2); try (refine keepc hba (w.heap.size + 1 + 1 + 1) ?_ ?_; (focus (first | omega | (simp <;> omega))); intro hca_x0 hfa_x0 hla_x0)
      go_wp2_with (first | (go_at_call 94; refine (HA.out _).mono ?_; rintro e w1 ⟨rfl, rfl⟩))
      go_quiet (fail)
      go_wp2_with fail
      (try rw [hP]); (try rw [hQ])
      rw [kT, kD]
      refine (HE.out _).mono ?_
      rintro e wb ⟨rfl, hbb⟩; have hzb := hbb.size; (try simp only [wz1, wz2, wz3, wz4] at hzb); try (refine keepc hbb (w.heap.size) ?_ ?_; (focus (first | omega | (simp <;> omega))); intro hcb_0 hfb_0 hlb_0); try (refine keepc hbb (w.heap.size + 1) ?_ ?_; (focus (first | omega | (simp <;> omega))); intro hcb_1 hfb_1 hlb_1); try (refine keepc hbb (w.heap.size + 1 + 1) ?_ ?_; (focus (first | omega | (simp <;> omega))); intro hcb_2 hfb_2 hlb_2); try (refine keepc hbb (w.heap.size + 1 + 1 + 1) ?_ ?_; (focus (first | omega | (simp <;> omega))); intro hcb_x0 hfb_x0 hlb_x0)
      go_wp2_with (first | (go_at_call 123; refine (HR.out _).mono ?_; rintro e w1 ⟨rfl, rfl⟩) | (go_at_call 63; refine (HI.out _).mono ?_; rintro e w1 ⟨rfl, rfl⟩))
      refine bodyPost_ret (v := .tuple #[.agg #[.int .i64 0, .int .i64 0, .int .i64 0], .bool false]) (by simp [results, Tryz.results81, go_sem, hca_x0, hla_x0, hcb_x0, hlb_x0]) rfl (gives rfl gr)
    · have c3 : inB x (-10000) 10000 = false := by
        cases g : inB x (-10000) 10000
        · rfl
        · exact absurd ⟨c1, by omega, inB_iff.1 g⟩ hf
      rw [c3] at HI
      clear hf c3 c1
      go_enter Tryz.func81, Tryz.ntmps81
      go_wp2_with fail
      refine (HC.out _).mono ?_
      rintro e wa ⟨rfl, hba⟩; have hza := hba.size; (try simp only [wz1, wz2, wz3, wz4] at hza); try (refine keepc hba (w.heap.size) ?_ ?_; (focus (first | omega | (simp <;> omega))); intro hca_0 hfa_0 hla_0); try (refine keepc hba (w.heap.size + 1) ?_ ?_; (focus (first | omega | (simp <;> omega))); intro hca_1 hfa_1 hla_1); try (refine keepc hba (w.heap.size + 1 + 1) ?_ ?_; (focus (first | omega | (simp <;> omega))); intro hca_2 hfa_2 hla_2); try (refine keepc hba (w.heap.size + 1 + 1 + 1) ?_ ?_; (focus (first | omega | (simp <;> omega))); intro hca_x0 hfa_x0 hla_x0)
      go_wp2_with (first | (go_at_call 94; refine (HA.out _).mono ?_; rintro e w1 ⟨rfl, rfl⟩))
      go_quiet (fail)
      go_wp2_with fail
      (try rw [hP]); (try rw [hQ])
      rw [kT, kD]
      refine (HE.out _).mono ?_
      rintro e wb ⟨rfl, hbb⟩; have hzb := hbb.size; (try simp only [wz1, wz2, wz3, wz4] at hzb); try (refine keepc hbb (w.heap.size) ?_ ?_; (focus (first | omega | (simp <;> omega))); intro hcb_0 hfb_0 hlb_0); try (refine keepc hbb (w.heap.size + 1) ?_ ?_; (focus (first | omega | (simp <;> omega))); intro hcb_1 hfb_1 hlb_1); try (refine keepc hbb (w.heap.size + 1 + 1) ?_ ?_; (focus (first | omega | (simp <;> omega))); intro hcb_2 hfb_2 hlb_2); try (refine keepc hbb (w.heap.size + 1 + 1 + 1) ?_ ?_; (focus (first | omega | (simp <;> omega))); intro hcb_x0 hfb_x0 hlb_x0)
      go_wp2_with (first | (go_at_call 123; refine (HR.out _).mono ?_; rintro e w1 ⟨rfl, rfl⟩) | (go_at_call 63; refine (HI.out _).mono ?_; rintro e w1 ⟨rfl, rfl⟩))
      refine bodyPost_ret (v := .tuple #[.agg #[.int .i64 0, .int .i64 0, .int .i64 0], .bool false]) (by simp [results, Tryz.results81, go_sem, hca_x0, hla_x0, hcb_x0, hlb_x0]) rfl (gives rfl gr)
  · have c1' : (e * e == den) = false := by simpa using c1
    clear hf HI
    go_enter Tryz.func81, Tryz.ntmps81
    go_wp2_with fail
    refine (HC.out _).mono ?_
    rintro e wa ⟨rfl, hba⟩; have hza := hba.size; (try simp only [wz1, wz2, wz3, wz4] at hza); try (refine keepc hba (w.heap.size) ?_ ?_; (focus (first | omega | (simp <;> omega))); intro hca_0 hfa_0 hla_0); try (refine keepc hba (w.heap.size + 1) ?_ ?_; (focus (first | omega | (simp <;> omega))); intro hca_1 hfa_1 hla_1); try (refine keepc hba (w.heap.size + 1 + 1) ?_ ?_; (focus (first | omega | (simp <;> omega))); intro hca_2 hfa_2 hla_2); try (refine keepc hba (w.heap.size + 1 + 1 + 1) ?_ ?_; (focus (first | omega | (simp <;> omega))); intro hca_x0 hfa_x0 hla_x0)
    go_wp2_with (first | (go_at_call 94; refine (HA.out _).mono ?_; rintro e w1 ⟨rfl, rfl⟩))
    go_quiet (fail)
    go_wp2_with fail
    (try rw [hP]); (try rw [hQ])
    rw [kT, kD]
    refine (HE.out _).mono ?_
    rintro e wb ⟨rfl, hbb⟩; have hzb := hbb.size; (try simp only [wz1, wz2, wz3, wz4] at hzb); try (refine keepc hbb (w.heap.size) ?_ ?_; (focus (first | omega | (simp <;> omega))); intro hcb_0 hfb_0 hlb_0); try (refine keepc hbb (w.heap.size + 1) ?_ ?_; (focus (first | omega | (simp <;> omega))); intro hcb_1 hfb_1 hlb_1); try (refine keepc hbb (w.heap.size + 1 + 1) ?_ ?_; (focus (first | omega | (simp <;> omega))); intro hcb_2 hfb_2 hlb_2); try (refine keepc hbb (w.heap.size + 1 + 1 + 1) ?_ ?_; (focus (first | omega | (simp <;> omega))); intro hcb_x0 hfb_x0 hlb_x0)
    go_wp2_with (first | (go_at_call 123; refine (HR.out _).mono ?_; rintro e w1 ⟨rfl, rfl⟩) | (go_at_call 63; refine (HI.out _).mono ?_; rintro e w1 ⟨rfl, rfl⟩))
    refine bodyPost_ret (v := .tuple #[.agg #[.int .i64 0, .int .i64 0, .int .i64 0], .bool false]) (by simp [results, Tryz.results81, go_sem, hca_x0, hla_x0, hcb_x0, hlb_x0]) rfl (gives rfl gr)
set_option maxRecDepth 100000 in
set_option maxHeartbeats 8000000 in
theorem ptAdd_some (A B x1 y1 e1 x2 y2 e2 n m P2 Q2 T D x den e : Int) (h1 : e1 ≠ 0) (h2 : e2 ≠ 0) (hm : 0 < m) (hm2 : m ≤ 8000) (hn : n.natAbs ≤ 200 * m)
    (hP : wrap64 (e1 * e1) = P2) (hQ : wrap64 (e2 * e2) = Q2)
    (kT : wrap64 (wrap64 (wrap64 (wrap64 (wrap64 (n * n) * P2) * Q2) - wrap64 (wrap64 (wrap64 (x1 * m) * m) * Q2)) - wrap64 (wrap64 (wrap64 (x2 * m) * m) * P2)) = T)
    (kD : wrap64 (wrap64 (wrap64 (m * m) * P2) * Q2) = D) (he : 0 ≤ e) (he2 : e ≤ 1000000000)
    (HC : ∀ w, Calls Tryz.prog 121 #[.agg #[.int .i64 A, .int .i64 B], .agg #[.int .i64 x1, .int .i64 y1, .int .i64 e1], .agg #[.int .i64 x2, .int .i64 y2, .int .i64 e2]] w (Gives (.tuple #[.int .i64 n, .int .i64 m]) w))
    (HE : ∀ w, Calls Tryz.prog 122 #[.int .i64 T, .int .i64 D] w (Gives (.tuple #[.int .i64 x, .int .i64 den]) w))
    (HR : ∀ w, Calls Tryz.prog 123 #[.int .i64 den] w (Same (.int .i64 e) w)) (c1 : e * e = den) (c2 : e ≤ 20) (c3 : -10000 ≤ x) (c4 : x ≤ 10000)
    (U V up und R S y bot C Y : Int) (kU : wrap64 (n * wrap64 (wrap64 (wrap64 (x1 * e) * e) - wrap64 (x * P2))) = U) (kV : wrap64 (wrap64 (wrap64 (m * P2) * e) * e) = V)
    (HE2 : ∀ w, Calls Tryz.prog 122 #[.int .i64 U, .int .i64 V] w (Gives (.tuple #[.int .i64 up, .int .i64 und]) w))
    (kR : wrap64 (wrap64 (wrap64 (up * P2) * e1) - wrap64 (y1 * und)) = R) (kS : wrap64 (wrap64 (und * P2) * e1) = S)
    (HE3 : ∀ w, Calls Tryz.prog 122 #[.int .i64 R, .int .i64 S] w (Gives (.tuple #[.int .i64 y, .int .i64 bot]) w))
    (kC : wrap64 (den * e) = C) (hb : 0 < bot) (hC0 : 0 ≤ C) (hC1 : C ≤ 8000) (kY : wrap64 (y * C.tdiv bot) = Y)
    (hS : EC.sumO A (x1, y1, e1) (x2, y2, e2) = some (x, Y, e)) (w : World) :
    Calls Tryz.prog 81 #[.agg #[.int .i64 A, .int .i64 B], .agg #[.int .i64 x1, .int .i64 y1, .int .i64 e1], .agg #[.int .i64 x2, .int .i64 y2, .int .i64 e2]] w (Gives (sumV A (x1, y1, e1) (x2, y2, e2)) w) := by
  unfold sumV
  rw [hS]
  have k1 : (e1 == 0) = false := by simpa using h1
  have k2 : (e2 == 0) = false := by simpa using h2
  have k3 : (m == 0) = false := by simp; omega
  have k4 : wrap64 (200 * m) = 200 * m := win (by omega)
  have k5 : wrap64 (e * e) = e * e := by
    have := nmul (a := e) (b := e) (x := 1000000000) (y := 1000000000) (by omega) (by omega)
    exact win (by omega)
  have HA := Lib.hid (show ∀ w, Calls Tryz.prog 94 #[.int .i64 n] w (Same (.int .i64 (max n (-n))) w) from fun w => by have := l1Abs_any n w; rwa [win (n := -n) (by omega)] at this)
  have HI := Lib.hid (fun w => l1In_any x (-10000) 10000 w)
  have k8 : ¬ 8000 < m := by omega
  have k9 : ¬ 200 * m < max n (-n) := by omega
  have HC := Lib.hid HC; have HE := Lib.hid HE; have HR := Lib.hid HR
  clear hS h1 h2 hn hm2
  have k6 := k5.trans c1
  have c5 : ¬ 20 < e := by omega
  have HI := Lib.hid (show ∀ w, Calls Tryz.prog 63 #[.int .i64 x, .int .i64 (-10000), .int .i64 10000] w (Same (.bool true) w) from fun w => by have := HI.out w; rwa [inB_t c3 c4] at this)
  have HE2 := Lib.hid HE2; have HE3 := Lib.hid HE3
  have kb : (bot == 0) = false := by simp; omega
  have kb2 : ¬ bot = 0 := by omega
  have q0 := tdiv_bd C bot
  have q1 : -9223372036854775808 ≤ C.tdiv bot := by omega
  have q2 : C.tdiv bot ≤ 9223372036854775807 := by omega
  have qw : wrap64 (C.tdiv bot) = C.tdiv bot := win (by omega)
  clear k5 c1 c3 c4 q0
  go_enter Tryz.func81, Tryz.ntmps81
  go_wp2_with fail
  refine (HC.out _).mono ?_
  rintro e wa ⟨rfl, hba⟩; have hza := hba.size; (try simp only [wz1, wz2, wz3, wz4] at hza); try (refine keepc hba (w.heap.size) ?_ ?_; (focus (first | omega | (simp <;> omega))); intro hca_0 hfa_0 hla_0); try (refine keepc hba (w.heap.size + 1) ?_ ?_; (focus (first | omega | (simp <;> omega))); intro hca_1 hfa_1 hla_1); try (refine keepc hba (w.heap.size + 1 + 1) ?_ ?_; (focus (first | omega | (simp <;> omega))); intro hca_2 hfa_2 hla_2); try (refine keepc hba (w.heap.size + 1 + 1 + 1) ?_ ?_; (focus (first | omega | (simp <;> omega))); intro hca_x0 hfa_x0 hla_x0)
  go_wp2_with (first | (go_at_call 94; refine (HA.out _).mono ?_; rintro e w1 ⟨rfl, rfl⟩))
  go_quiet (fail)
  go_wp2_with fail
  (try rw [hP]); (try rw [hQ])
  rw [kT, kD]
  refine (HE.out _).mono ?_
  rintro e wb ⟨rfl, hbb⟩; have hzb := hbb.size; (try simp only [wz1, wz2, wz3, wz4] at hzb); try (refine keepc hbb (w.heap.size) ?_ ?_; (focus (first | omega | (simp <;> omega))); intro hcb_0 hfb_0 hlb_0); try (refine keepc hbb (w.heap.size + 1) ?_ ?_; (focus (first | omega | (simp <;> omega))); intro hcb_1 hfb_1 hlb_1); try (refine keepc hbb (w.heap.size + 1 + 1) ?_ ?_; (focus (first | omega | (simp <;> omega))); intro hcb_2 hfb_2 hlb_2); try (refine keepc hbb (w.heap.size + 1 + 1 + 1) ?_ ?_; (focus (first | omega | (simp <;> omega))); intro hcb_x0 hfb_x0 hlb_x0)
  go_wp2_with (first | (go_at_call 123; refine (HR.out _).mono ?_; rintro e w1 ⟨rfl, rfl⟩) | (go_at_call 63; refine (HI.out _).mono ?_; rintro e w1 ⟨rfl, rfl⟩))
  (try rw [kU]); (try rw [kV])
  refine (HE2.out _).mono ?_
  rintro e wc ⟨rfl, hbc⟩; have hzc := hbc.size; (try simp only [wz1, wz2, wz3, wz4] at hzc); try (refine keepc hbc (w.heap.size) ?_ ?_; (focus (first | omega | (simp <;> omega))); intro hcc_0 hfc_0 hlc_0); try (refine keepc hbc (w.heap.size + 1) ?_ ?_; (focus (first | omega | (simp <;> omega))); intro hcc_1 hfc_1 hlc_1); try (refine keepc hbc (w.heap.size + 1 + 1) ?_ ?_; (focus (first | omega | (simp <;> omega))); intro hcc_2 hfc_2 hlc_2); try (refine keepc hbc (w.heap.size + 1 + 1 + 1) ?_ ?_; (focus (first | omega | (simp <;> omega))); intro hcc_x0 hfc_x0 hlc_x0)
  go_wp2_with fail
  (try rw [kR]); (try rw [kS])
  refine (HE3.out _).mono ?_
  rintro e wd ⟨rfl, hbd⟩; have hzd := hbd.size; (try simp only [wz1, wz2, wz3, wz4] at hzd); try (refine keepc hbd (w.heap.size) ?_ ?_; (focus (first | omega | (simp <;> omega))); intro hcd_0 hfd_0 hld_0); try (refine keepc hbd (w.heap.size + 1) ?_ ?_; (focus (first | omega | (simp <;> omega))); intro hcd_1 hfd_1 hld_1); try (refine keepc hbd (w.heap.size + 1 + 1) ?_ ?_; (focus (first | omega | (simp <;> omega))); intro hcd_2 hfd_2 hld_2); try (refine keepc hbd (w.heap.size + 1 + 1 + 1) ?_ ?_; (focus (first | omega | (simp <;> omega))); intro hcd_x0 hfd_x0 hld_x0)
  go_wp2
  refine bodyPost_ret (v := .tuple #[.agg #[.int .i64 x, .int .i64 Y, .int .i64 e], .bool true]) (by simp [results, Tryz.results81, go_sem, hca_x0, hla_x0, hcb_x0, hlb_x0, hcc_x0, hlc_x0, hcd_x0, hld_x0]) rfl (gives rfl gr)
theorem sumO_fin {A B x1 y1 e1 x2 y2 e2 : Int} (hp : EC.PV A B (x1, y1, e1)) (hq : EC.PV A B (x2, y2, e2)) {r : P3} (h : EC.sumO A (x1, y1, e1) (x2, y2, e2) = some r) : EC.PV A B r := (EC.sumO_PV hp hq h).1
set_option maxHeartbeats 2000000 in
theorem ptAdd_any (A B x1 y1 e1 x2 y2 e2 : Int) (hC : isC A B = true) (hp : EC.PV A B (x1, y1, e1)) (hq : EC.PV A B (x2, y2, e2)) (w : World) :
    Calls Tryz.prog 81 #[.agg #[.int .i64 A, .int .i64 B], .agg #[.int .i64 x1, .int .i64 y1, .int .i64 e1], .agg #[.int .i64 x2, .int .i64 y2, .int .i64 e2]] w (Gives (sumV A (x1, y1, e1) (x2, y2, e2)) w) := by
  obtain ⟨hA, hB⟩ := isC_rng hC
  by_cases h1 : e1 = 0
  · obtain ⟨rfl, rfl⟩ := PV.z hp h1
    subst h1
    exact ptAdd_zl A B x2 y2 e2 hq w
  by_cases h2 : e2 = 0
  · obtain ⟨rfl, rfl⟩ := PV.z hq h2
    subst h2
    exact ptAdd_zr A B x1 y1 e1 h1 hp w
  have rp := PV.rng hA hB hp
  have rq := PV.rng hA hB hq
  have rN := sN_rng (A := A) (by omega) rp rq
  have rD := sD_rng rp rq
  have HC := fun w => ptSlope_any A B x1 y1 e1 x2 y2 e2 (by omega) (by omega) (by omega) (by omega) w
  by_cases hno : (x1, y1, e1) = EC.opp (x2, y2, e2)
  · have hsd := sD_opp hp hq hno
    have hS := EC.add_opp hp hq hno
    unfold psV at HC
    rw [if_pos hsd] at HC
    exact ptAdd_opp A B x1 y1 e1 x2 y2 e2 h1 h2 hS HC w
  have hsd := (EC.add_slope hp hq h1 h2 hno).1
  unfold psV at HC
  rw [if_neg hsd] at HC
  obtain ⟨hn, hm, hmp, hg⟩ := low_spec (a := EC.sN A (x1, y1, e1) (x2, y2, e2)) hsd
  have bn := tdiv_bd (EC.sN A (x1, y1, e1) (x2, y2, e2)) (mkD (EC.sN A (x1, y1, e1) (x2, y2, e2)) (EC.sD (x1, y1, e1) (x2, y2, e2)))
  have bm := tdiv_bd (EC.sD (x1, y1, e1) (x2, y2, e2)) (mkD (EC.sN A (x1, y1, e1) (x2, y2, e2)) (EC.sD (x1, y1, e1) (x2, y2, e2)))
  generalize (EC.sN A (x1, y1, e1) (x2, y2, e2)).tdiv (mkD (EC.sN A (x1, y1, e1) (x2, y2, e2)) (EC.sD (x1, y1, e1) (x2, y2, e2))) = n at *
  generalize (EC.sD (x1, y1, e1) (x2, y2, e2)).tdiv (mkD (EC.sN A (x1, y1, e1) (x2, y2, e2)) (EC.sD (x1, y1, e1) (x2, y2, e2))) = m at *
  by_cases hf : m ≤ 8000 ∧ n.natAbs ≤ 200 * m
  case neg =>
    refine ptAdd_far A B x1 y1 e1 x2 y2 e2 n m h1 h2 hmp (by omega) (by omega) hf ?_ HC w
    rcases hr : EC.sumO A (x1, y1, e1) (x2, y2, e2) with _ | r
    · rfl
    · exfalso
      have := EC.sum_slope hp hq h1 h2 hno hn hm hg hr
      omega
  obtain ⟨hm8, hn8⟩ := hf
  obtain ⟨p1, p2, p3, p4⟩ := rp
  obtain ⟨q1, q2, q3, q4⟩ := rq
  simp only at p1 p2 p3 p4 q1 q2 q3 q4
  have hmN : m.natAbs ≤ 8000 := by omega
  have hnN : n.natAbs ≤ 1600000 := by omega
  have hP : wrap64 (e1 * e1) = e1 * e1 := by have := nmul p3 p3; exact win (by omega)
  have hQ : wrap64 (e2 * e2) = e2 * e2 := by have := nmul q3 q3; exact win (by omega)
  have eT : EC.topI (x1, y1, e1) (x2, y2, e2) n m = n * n * (e1 * e1) * (e2 * e2) - x1 * m * m * (e2 * e2) - x2 * m * m * (e1 * e1) := by simp only [EC.topI, EC.eeI]; grind
  have eD : EC.botI (x1, y1, e1) (x2, y2, e2) m = m * m * (e1 * e1) * (e2 * e2) := by simp only [EC.botI, EC.eeI]; grind
  have bT : (n * n * (e1 * e1) * (e2 * e2) - x1 * m * m * (e2 * e2) - x2 * m * m * (e1 * e1)).natAbs ≤ 500000000000000000 :=
    Nat.le_trans (nsub (nsub (nmul (nmul (nmul hnN hnN) (nmul p3 p3)) (nmul q3 q3)) (nmul (nmul (nmul p1 hmN) hmN) (nmul q3 q3))) (nmul (nmul (nmul q1 hmN) hmN) (nmul p3 p3))) (by decide)
  have bD : (m * m * (e1 * e1) * (e2 * e2)).natAbs ≤ 10240000000000 := Nat.le_trans (nmul (nmul (nmul hmN hmN) (nmul p3 p3)) (nmul q3 q3)) (by decide)
  have hDp := EC.bot_pos hp hq h1 h2 (m := m) (by omega)
  rw [eD] at hDp
  have kT : wrap64 (wrap64 (wrap64 (wrap64 (wrap64 (n * n) * (e1 * e1)) * (e2 * e2)) - wrap64 (wrap64 (wrap64 (x1 * m) * m) * (e2 * e2))) - wrap64 (wrap64 (wrap64 (x2 * m) * m) * (e1 * e1))) = n * n * (e1 * e1) * (e2 * e2) - x1 * m * m * (e2 * e2) - x2 * m * m * (e1 * e1) := by
    simp only [wadd_l, wadd_r, wsub_l, wsub_r, wmul_l, wmul_r]
    exact win (by omega)
  have kD : wrap64 (wrap64 (wrap64 (m * m) * (e1 * e1)) * (e2 * e2)) = m * m * (e1 * e1) * (e2 * e2) := by
    simp only [wmul_l]
    exact win (by omega)
  have HE := fun w => ecPart_any (n * n * (e1 * e1) * (e2 * e2) - x1 * m * m * (e2 * e2) - x2 * m * m * (e1 * e1)) (m * m * (e1 * e1) * (e2 * e2)) (by omega) (by omega) (by omega) (by omega) (by omega) w
  obtain ⟨hx, hd, hdp, hgx⟩ := low_spec (a := n * n * (e1 * e1) * (e2 * e2) - x1 * m * m * (e2 * e2) - x2 * m * m * (e1 * e1)) (b := m * m * (e1 * e1) * (e2 * e2)) (by omega)
  have bx := tdiv_bd (m * m * (e1 * e1) * (e2 * e2)) (mkD (n * n * (e1 * e1) * (e2 * e2) - x1 * m * m * (e2 * e2) - x2 * m * m * (e1 * e1)) (m * m * (e1 * e1) * (e2 * e2)))
  rw [← eT] at kT bT
  rw [← eD] at kD bD hDp
  rw [← eT, ← eD] at hx hd hdp hgx bx HE
  generalize (EC.topI (x1, y1, e1) (x2, y2, e2) n m).tdiv (mkD (EC.topI (x1, y1, e1) (x2, y2, e2) n m) (EC.botI (x1, y1, e1) (x2, y2, e2) m)) = x at *
  generalize (EC.botI (x1, y1, e1) (x2, y2, e2) m).tdiv (mkD (EC.topI (x1, y1, e1) (x2, y2, e2) n m) (EC.botI (x1, y1, e1) (x2, y2, e2) m)) = den at *
  have hr0 := rt_nonneg den
  have hr1 : rt den ≤ 10000000 := by
    have h5 := rt_le (n := den) (by omega)
    have := sq_lt (a := rt den) (b := 10000001) (by omega) (by omega); omega
  have HR := fun w => frRoot_any den (by omega) (by omega) w
  by_cases hf : rt den * rt den = den ∧ rt den ≤ 20 ∧ -10000 ≤ x ∧ x ≤ 10000
  case neg =>
    exact ptAdd_none A B x1 y1 e1 x2 y2 e2 n m (e1 * e1) (e2 * e2) _ _ x den (rt den) h1 h2 hmp hm8 hn8 hP hQ kT kD hr0 (by omega) HC HE HR hf (ref_none hp hq h1 h2 hno hn hm hx hd hdp hgx hf) w
  obtain ⟨Y, hS, hY, he1, hYY⟩ := ref_some hp hq h1 h2 hno hn hm hx hd hdp hgx hf
  have hPV := PV.rng hA hB (sumO_fin hp hq hS)
  obtain ⟨f1, f2, f3, f4⟩ := hf
  generalize rt den = e at *
  simp only at hPV
  obtain ⟨v1, v2, v3, v4⟩ := hPV
  have bU : (n * (x1 * e * e - x * (e1 * e1))).natAbs ≤ 12800000000000 := Nat.le_trans (nmul hnN (nsub (nmul (nmul p1 v3) v3) (nmul v1 (nmul p3 p3)))) (by decide)
  have bV : (m * (e1 * e1) * e * e).natAbs ≤ 1280000000 := Nat.le_trans (nmul (nmul (nmul hmN (nmul p3 p3)) v3) v3) (by decide)
  have hV0 : m * (e1 * e1) * e * e ≠ 0 := Int.mul_ne_zero (Int.mul_ne_zero (Int.mul_ne_zero (by omega) (Int.mul_ne_zero h1 h1)) (by omega)) (by omega)
  have kU : wrap64 (n * wrap64 (wrap64 (wrap64 (x1 * e) * e) - wrap64 (x * (e1 * e1)))) = n * (x1 * e * e - x * (e1 * e1)) := by
    simp only [wadd_l, wadd_r, wsub_l, wsub_r, wmul_l, wmul_r]
    exact win (by omega)
  have kV : wrap64 (wrap64 (wrap64 (m * (e1 * e1)) * e) * e) = m * (e1 * e1) * e * e := by
    simp only [wmul_l]
    exact win (by omega)
  have HE2 := fun w => ecPart_any (n * (x1 * e * e - x * (e1 * e1))) (m * (e1 * e1) * e * e) hV0 (by omega) (by omega) (by omega) (by omega) w
  obtain ⟨hu, hv, hvp, -⟩ := low_spec (a := n * (x1 * e * e - x * (e1 * e1))) hV0
  have bu := tdiv_bd (n * (x1 * e * e - x * (e1 * e1))) (mkD (n * (x1 * e * e - x * (e1 * e1))) (m * (e1 * e1) * e * e))
  have bv := tdiv_bd (m * (e1 * e1) * e * e) (mkD (n * (x1 * e * e - x * (e1 * e1))) (m * (e1 * e1) * e * e))
  generalize (n * (x1 * e * e - x * (e1 * e1))).tdiv (mkD (n * (x1 * e * e - x * (e1 * e1))) (m * (e1 * e1) * e * e)) = up at *
  generalize (m * (e1 * e1) * e * e).tdiv (mkD (n * (x1 * e * e - x * (e1 * e1))) (m * (e1 * e1) * e * e)) = und at *
  have bR : (up * (e1 * e1) * e1 - y1 * und).natAbs ≤ 200000000000000000 := Nat.le_trans (nsub (nmul (nmul (Nat.le_trans bu bU) (nmul p3 p3)) p3) (nmul p2 (Nat.le_trans bv bV))) (by decide)
  have bS : (und * (e1 * e1) * e1).natAbs ≤ 10240000000000 := Nat.le_trans (nmul (nmul (Nat.le_trans bv bV) (nmul p3 p3)) p3) (by decide)
  have hS0 : und * (e1 * e1) * e1 ≠ 0 := Int.mul_ne_zero (Int.mul_ne_zero (by omega) (Int.mul_ne_zero h1 h1)) h1
  have kR : wrap64 (wrap64 (wrap64 (up * (e1 * e1)) * e1) - wrap64 (y1 * und)) = up * (e1 * e1) * e1 - y1 * und := by
    simp only [wadd_l, wadd_r, wsub_l, wsub_r, wmul_l, wmul_r]
    exact win (by omega)
  have kS : wrap64 (wrap64 (und * (e1 * e1)) * e1) = und * (e1 * e1) * e1 := by
    simp only [wmul_l]
    exact win (by omega)
  have HE3 := fun w => ecPart_any (up * (e1 * e1) * e1 - y1 * und) (und * (e1 * e1) * e1) hS0 (by omega) (by omega) (by omega) (by omega) w
  obtain ⟨hy, hb, hbp, hgy⟩ := low_spec (a := up * (e1 * e1) * e1 - y1 * und) hS0
  generalize (up * (e1 * e1) * e1 - y1 * und).tdiv (mkD (up * (e1 * e1) * e1 - y1 * und) (und * (e1 * e1) * e1)) = y at *
  generalize (und * (e1 * e1) * e1).tdiv (mkD (up * (e1 * e1) * e1 - y1 * und) (und * (e1 * e1) * e1)) = bot at *
  have bC : (e * e * e).natAbs ≤ 8000 := Nat.le_trans (nmul (nmul v3 v3) v3) (by decide)
  have hC0 : 0 ≤ e * e * e := Int.mul_nonneg (Int.mul_nonneg (by omega) (by omega)) (by omega)
  have kC : wrap64 (den * e) = e * e * e := by rw [← f1]; exact win (by omega)
  have hyy : y * (e * e * e).tdiv bot = Y := by
    refine ref_y (m := m) (n := n) (e := e) (P2 := e1 * e1) (E1 := e1) (Y1 := y1) (W := x1 * e * e - x * (e1 * e1)) (by omega) h1 (by omega) rfl ?_ hu hv hy hb hbp hgy
    rw [hY]; simp only [EC.sideI]; grind
  exact ptAdd_some A B x1 y1 e1 x2 y2 e2 n m (e1 * e1) (e2 * e2) _ _ x den e h1 h2 hmp hm8 hn8 hP hQ kT kD hr0 (by omega) HC HE HR f1 f2 f3 f4 _ _ up und _ _ y bot (e * e * e) Y kU kV HE2 kR kS HE3 kC hbp hC0 (by omega) (by rw [hyy]; exact win (by omega)) hS w
end Go.Proofs.YtjgdajeoeagggaaGreat
