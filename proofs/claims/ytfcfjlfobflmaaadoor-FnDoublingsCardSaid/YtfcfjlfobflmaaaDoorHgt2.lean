import Derived.Test.YtfcfjlfobflmaaaDoorHgt
set_option linter.unusedSimpArgs false
set_option linter.unusedVariables false
namespace Go.Proofs.YtfcfjlfobflmaaaDoor
open Go.RowKit
theorem inB_g {n lo hi : Int} (h : inB n lo hi = true) : lo ≤ n ∧ n ≤ hi := by
  unfold inB at h
  simpa using h

def dGo : Nat → Int → Nat → Nat → Nat
  | 0, _, _, n => n
  | f + 1, T, p, n => if 3 * (p : Int) < T then dGo f T (4 * p) (n + 1) else n
theorem dGo_stop {f : Nat} {T : Int} {p n : Nat} (h : ¬ 3 * (p : Int) < T) : dGo f T p n = n := by cases f with
  | zero => rfl
  | succ f => unfold dGo; rw [if_neg h]
theorem dGo_step {f : Nat} {T : Int} {p n : Nat} (h : 3 * (p : Int) < T) : dGo (f + 1) T p n = dGo f T (4 * p) (n + 1) := by
  show (if 3 * (p : Int) < T then dGo f T (4 * p) (n + 1) else n) = _
  rw [if_pos h]
theorem dGo_fuel {f n p : Nat} (h : n + f = 9) (hp : p = 4 ^ n) (hT : 3 * (p : Int) < 129001) : ∃ g, f = g + 1 := by
  cases f with
  | succ g => exact ⟨g, rfl⟩
  | zero =>
    obtain rfl : n = 9 := by omega
    have : (4 : Nat) ^ 9 = 262144 := by decide
    omega
def dfT (a b k : Int) : Int := (3 + 2 * ((dbC a b : Nat) : Int)) * k
def dfF (a b k : Int) : Value := if isC a b && inB k 1 1000 then .tuple #[.int .i64 (dGo 9 (dfT a b k) 1 0 : Nat), .bool true] else .tuple #[.int .i64 0, .bool false]
theorem df_0 {a b k : Int} (h : isC a b = false) : dfF a b k = .tuple #[.int .i64 0, .bool false] := by unfold dfF; rw [h]; rfl
theorem df_1 {a b k : Int} (h : inB k 1 1000 = false) : dfF a b k = .tuple #[.int .i64 0, .bool false] := by unfold dfF; rw [h, Bool.and_false]; rfl
theorem df_2 {a b k : Int} (h : isC a b = true) (h2 : inB k 1 1000 = true) : dfF a b k = .tuple #[.int .i64 (dGo 9 (dfT a b k) 1 0 : Nat), .bool true] := by unfold dfF; rw [h, h2]; rfl
theorem df_rng {c k : Int} (h0 : 0 ≤ c) (h1 : c ≤ 63) (k1 : 1 ≤ k) (k2 : k ≤ 1000) : 0 ≤ (3 + 2 * c) * k ∧ (3 + 2 * c) * k ≤ 129000 := by
  refine ⟨Int.mul_nonneg (by omega) (by omega), ?_⟩
  have : (3 + 2 * c) * k ≤ 129 * 1000 := Int.mul_le_mul (by omega) k2 (by omega) (by decide)
  omega
set_option maxHeartbeats 1000000 in
theorem DoublingsFor_any (a b k : Int) (w : World) : Calls Tryd.prog 13 #[.agg #[.int .i64 a, .int .i64 b], .int .i64 k] w (Gives (dfF a b k) w) := by
  cases g0 : isC a b
  · rw [df_0 g0]
    go_enter Tryd.func13, Tryd.ntmps13
    go_wp2_with (first | (go_at_call 24; refine (isCurve_any _ _ _).mono ?_; rintro e w1 ⟨rfl, hb⟩; have hz := hb.size; (try simp only [World.size_alloc, World.size_setCell, World.size_drew, World.heap_drewN] at hz); try (refine keepc hb (w.heap.size) ?_ ?_; (focus (first | omega | (simp <;> omega))); intro hc0 hf0 hl0); try (refine keepc hb (w.heap.size + 1) ?_ ?_; (focus (first | omega | (simp <;> omega))); intro hc1 hf1 hl1); try (refine keepc hb (w.heap.size + 1 + 1) ?_ ?_; (focus (first | omega | (simp <;> omega))); intro hc2 hf2 hl2)))
    go_ret2; exact gives rfl (by repeat' (first | (with_reducible exact Below.refl _ _) | (with_reducible assumption) | (with_reducible refine Below.alloc ?_ ?_ _) | (with_reducible refine Below.setCell ?_ ?_ _) | (with_reducible refine Below.drew ?_) | (with_reducible refine below_drewN ?_ _) | (apply bthen2; (with_reducible assumption)) | go_size))
  · have HI := Lib.hid (fun w => inside_any k 1 1000 w)
    cases g1 : inB k 1 1000
    · rw [df_1 g1]
      rw [g1] at HI
      go_enter Tryd.func13, Tryd.ntmps13
      go_wp2_with (first | (go_at_call 24; refine (isCurve_any _ _ _).mono ?_; rintro e w1 ⟨rfl, hb⟩; have hz := hb.size; (try simp only [World.size_alloc, World.size_setCell, World.size_drew, World.heap_drewN] at hz); try (refine keepc hb (w.heap.size) ?_ ?_; (focus (first | omega | (simp <;> omega))); intro hc0 hf0 hl0); try (refine keepc hb (w.heap.size + 1) ?_ ?_; (focus (first | omega | (simp <;> omega))); intro hc1 hf1 hl1); try (refine keepc hb (w.heap.size + 1 + 1) ?_ ?_; (focus (first | omega | (simp <;> omega))); intro hc2 hf2 hl2)) | (go_at_call 25; refine (HI.out _).mono ?_; rintro e w1 ⟨rfl, rfl⟩))
      go_ret2; exact gives rfl (by repeat' (first | (with_reducible exact Below.refl _ _) | (with_reducible assumption) | (with_reducible refine Below.alloc ?_ ?_ _) | (with_reducible refine Below.setCell ?_ ?_ _) | (with_reducible refine Below.drew ?_) | (with_reducible refine below_drewN ?_ _) | (apply bthen2; (with_reducible assumption)) | go_size))
    · rw [df_2 g0 g1]
      rw [g1] at HI
      have H0 := Lib.hid (fun w => doublingConstant_any a b g0 w)
      obtain ⟨k1, k2⟩ := inB_g g1
      have hc := dbC_le g0
      have hc0 : (0 : Int) ≤ ((dbC a b : Nat) : Int) := by omega
      have hc1 : ((dbC a b : Nat) : Int) ≤ 63 := by omega
      obtain ⟨t1, t2⟩ := df_rng hc0 hc1 k1 k2
      unfold dfT
      generalize ((dbC a b : Nat) : Int) = c at *
      obtain ⟨T, hT⟩ : ∃ T, (3 + 2 * c) * k = T := ⟨_, rfl⟩
      rw [hT] at t1 t2 ⊢
      obtain ⟨R, hR⟩ : ∃ R, dGo 9 T 1 0 = R := ⟨_, rfl⟩
      have HR := Lib.hid hR
      rw [hR]
      clear hR hc
      go_enter Tryd.func13, Tryd.ntmps13
      go_wp2_with (first | (go_at_call 24; refine (isCurve_any _ _ _).mono ?_; rintro e w1 ⟨rfl, hb⟩; have hz := hb.size; (try simp only [World.size_alloc, World.size_setCell, World.size_drew, World.heap_drewN] at hz); try (refine keepc hb (w.heap.size) ?_ ?_; (focus (first | omega | (simp <;> omega))); intro hc0 hf0 hl0); try (refine keepc hb (w.heap.size + 1) ?_ ?_; (focus (first | omega | (simp <;> omega))); intro hc1 hf1 hl1); try (refine keepc hb (w.heap.size + 1 + 1) ?_ ?_; (focus (first | omega | (simp <;> omega))); intro hc2 hf2 hl2)) | (go_at_call 25; refine (HI.out _).mono ?_; rintro e w1 ⟨rfl, rfl⟩) | (go_at_call 26; refine (H0.out _).mono ?_; rintro e w1 ⟨rfl, hb⟩; have hz := hb.size; (try simp only [World.size_alloc, World.size_setCell, World.size_drew, World.heap_drewN] at hz); try (refine keepc hb (w.heap.size) ?_ ?_; (focus (first | omega | (simp <;> omega))); intro hc0 hf0 hl0); try (refine keepc hb (w.heap.size + 1) ?_ ?_; (focus (first | omega | (simp <;> omega))); intro hc1 hf1 hl1); try (refine keepc hb (w.heap.size + 1 + 1) ?_ ?_; (focus (first | omega | (simp <;> omega))); intro hc2 hf2 hl2)))
      go_loop [6, 8] (fun v6 v8 => ∃ (f n p : Nat), v6 = .int .i64 n ∧ v8 = .int .i64 (3 * (p : Int)) ∧ n + f = 9 ∧ p ≤ 262144 ∧ Hid (p = 4 ^ n) ∧ Hid (dGo f T p n = R)) (fun v6 _ => (9 - intOf v6).toNat)
      case atStart => exact ⟨9, 0, 1, rfl, rfl, rfl, by omega, Lib.hid rfl, HR⟩
      case round =>
        obtain ⟨f, n, p, rfl, rfl, hf, hp, hp4, hd⟩ := hrel
        by_cases hlt : 3 * (p : Int) < T
        · obtain ⟨g, rfl⟩ := dGo_fuel hf hp4.out (by omega)
          have HD := Lib.hid (show dGo g T (4 * p) (n + 1) = R by have := hd.out; rwa [dGo_step hlt] at this)
          have HP := Lib.hid (show 4 * p = 4 ^ (n + 1) by rw [Nat.pow_succ, ← hp4.out]; omega)
          clear hd hp4 HR
          go_wp2_with fail
          go_round
          case rel => exact ⟨g, n + 1, 4 * p, by go_num, by go_num, by omega, by omega, HP, HD⟩
          case measure => simp [intOf]; omega
        · have e : n = R := by have := hd.out; rwa [dGo_stop hlt] at this
          subst e
          clear hd hp4 HR
          go_wp2_with fail
          go_ret2; exact gives rfl (by repeat' (first | (with_reducible exact Below.refl _ _) | (with_reducible assumption) | (with_reducible refine Below.alloc ?_ ?_ _) | (with_reducible refine Below.setCell ?_ ?_ _) | (with_reducible refine Below.drew ?_) | (with_reducible refine below_drewN ?_ _) | (apply bthen2; (with_reducible assumption)) | go_size))
set_option maxHeartbeats 1000000 in
theorem sDoublingsFor_any (a b k : Int) (w : World) : Calls Tryd.prog 14 #[.agg #[.int .i64 a, .int .i64 b], .int .i64 k] w (Gives (dfF a b k) w) := by
  cases g0 : isC a b
  · rw [df_0 g0]
    go_enter Tryd.func14, Tryd.ntmps14
    go_wp2_with (first | (go_at_call 27; refine (ecGood_any _ _ _).mono ?_; rintro e w1 ⟨rfl, hb⟩; have hz := hb.size; (try simp only [World.size_alloc, World.size_setCell, World.size_drew, World.heap_drewN] at hz); try (refine keepc hb (w.heap.size) ?_ ?_; (focus (first | omega | (simp <;> omega))); intro hc0 hf0 hl0); try (refine keepc hb (w.heap.size + 1) ?_ ?_; (focus (first | omega | (simp <;> omega))); intro hc1 hf1 hl1); try (refine keepc hb (w.heap.size + 1 + 1) ?_ ?_; (focus (first | omega | (simp <;> omega))); intro hc2 hf2 hl2)))
    go_ret2; exact gives rfl (by repeat' (first | (with_reducible exact Below.refl _ _) | (with_reducible assumption) | (with_reducible refine Below.alloc ?_ ?_ _) | (with_reducible refine Below.setCell ?_ ?_ _) | (with_reducible refine Below.drew ?_) | (with_reducible refine below_drewN ?_ _) | (apply bthen2; (with_reducible assumption)) | go_size))
  · have HI := Lib.hid (fun w => l1In_any k 1 1000 w)
    cases g1 : inB k 1 1000
    · rw [df_1 g1]
      rw [g1] at HI
      go_enter Tryd.func14, Tryd.ntmps14
      go_wp2_with (first | (go_at_call 27; refine (ecGood_any _ _ _).mono ?_; rintro e w1 ⟨rfl, hb⟩; have hz := hb.size; (try simp only [World.size_alloc, World.size_setCell, World.size_drew, World.heap_drewN] at hz); try (refine keepc hb (w.heap.size) ?_ ?_; (focus (first | omega | (simp <;> omega))); intro hc0 hf0 hl0); try (refine keepc hb (w.heap.size + 1) ?_ ?_; (focus (first | omega | (simp <;> omega))); intro hc1 hf1 hl1); try (refine keepc hb (w.heap.size + 1 + 1) ?_ ?_; (focus (first | omega | (simp <;> omega))); intro hc2 hf2 hl2)) | (go_at_call 28; refine (HI.out _).mono ?_; rintro e w1 ⟨rfl, rfl⟩))
      go_ret2; exact gives rfl (by repeat' (first | (with_reducible exact Below.refl _ _) | (with_reducible assumption) | (with_reducible refine Below.alloc ?_ ?_ _) | (with_reducible refine Below.setCell ?_ ?_ _) | (with_reducible refine Below.drew ?_) | (with_reducible refine below_drewN ?_ _) | (apply bthen2; (with_reducible assumption)) | go_size))
    · rw [df_2 g0 g1]
      rw [g1] at HI
      have H0 := Lib.hid (fun w => htConstant_any a b g0 w)
      obtain ⟨k1, k2⟩ := inB_g g1
      have hc := dbC_le g0
      have hc0 : (0 : Int) ≤ ((dbC a b : Nat) : Int) := by omega
      have hc1 : ((dbC a b : Nat) : Int) ≤ 63 := by omega
      obtain ⟨t1, t2⟩ := df_rng hc0 hc1 k1 k2
      unfold dfT
      generalize ((dbC a b : Nat) : Int) = c at *
      obtain ⟨T, hT0⟩ : ∃ T, (3 + 2 * c) * k = T := ⟨_, rfl⟩
      rw [hT0] at t1 t2 ⊢
      rw [Int.mul_comm] at hT0
      obtain ⟨R, hR⟩ : ∃ R, dGo 9 T 1 0 = R := ⟨_, rfl⟩
      have HR := Lib.hid hR
      rw [hR]
      clear hR hc
      go_enter Tryd.func14, Tryd.ntmps14
      go_wp2_with (first | (go_at_call 27; refine (ecGood_any _ _ _).mono ?_; rintro e wa ⟨rfl, hba⟩; have hza := hba.size; (try simp only [World.size_alloc, World.size_setCell, World.size_drew, World.heap_drewN] at hza); try (refine keepc hba (w.heap.size) ?_ ?_; (focus (first | omega | (simp <;> omega))); intro hca_0 hfa_0 hla_0); try (refine keepc hba (w.heap.size + 1) ?_ ?_; (focus (first | omega | (simp <;> omega))); intro hca_1 hfa_1 hla_1); try (refine keepc hba (w.heap.size + 1 + 1) ?_ ?_; (focus (first | omega | (simp <;> omega))); intro hca_2 hfa_2 hla_2); rw [g0]) | (go_at_call 28; refine (HI.out _).mono ?_; rintro e w1 ⟨rfl, rfl⟩))
      have z0 : wa.cell? ⟨w.heap.size, 0, none⟩ = some (.int .i64 a) := by simp [hca_0, go_sem]
      have z1 : wa.cell? ⟨w.heap.size, 1, none⟩ = some (.int .i64 b) := by simp [hca_0, go_sem]
      have hB : Below w.heap.size w wa := (by repeat' (first | (with_reducible exact Below.refl _ _) | (with_reducible assumption) | (with_reducible refine Below.alloc ?_ ?_ _) | (with_reducible refine Below.setCell ?_ ?_ _) | (with_reducible refine Below.drew ?_) | (with_reducible refine below_drewN ?_ _) | (apply bthen2; (with_reducible assumption)) | go_size))
      clear hca_0 hfa_0 hba
      go_loopw [6, 7] (fun v6 v7 wr => ∃ (f n p : Nat), v6 = .int .i64 n ∧ v7 = .int .i64 p ∧ n + f = 9 ∧ p ≤ 262144 ∧ Hid (p = 4 ^ n) ∧ Hid (dGo f T p n = R) ∧ Below wa.heap.size wa wr) (fun v6 _ _ => (9 - intOf v6).toNat)
      case atStart => exact ⟨9, 0, 1, rfl, rfl, rfl, by omega, Lib.hid rfl, HR, Below.refl _ _⟩
      case round =>
        obtain ⟨f, n, p, rfl, rfl, hf, hp, hp4, hd, hbw⟩ := hrel
        have y0 := (hbw.cell (p := ⟨w.heap.size, 0, none⟩) hla_0).trans z0
        have y1 := (hbw.cell (p := ⟨w.heap.size, 1, none⟩) hla_0).trans z1
        have hzr := hbw.size
        have hlr : w.heap.size < wr.heap.size := by omega
        by_cases hlt : 3 * (p : Int) < T
        · obtain ⟨g, rfl⟩ := dGo_fuel hf hp4.out (by omega)
          have HD := Lib.hid (show dGo g T (4 * p) (n + 1) = R by have := hd.out; rwa [dGo_step hlt] at this)
          have HP := Lib.hid (show 4 * p = 4 ^ (n + 1) by rw [Nat.pow_succ, ← hp4.out]; omega)
          clear hd hp4 HR
          go_wp2_with fail
          refine (H0.out _).mono ?_
          rintro e wb ⟨rfl, hbb⟩
          go_wp2_with fail
          go_roundw
          case rel => exact ⟨g, n + 1, 4 * p, by go_num, by go_num, by omega, by omega, HP, HD, (by repeat' (first | (with_reducible exact Below.refl _ _) | (with_reducible assumption) | (with_reducible refine Below.alloc ?_ ?_ _) | (with_reducible refine Below.setCell ?_ ?_ _) | (with_reducible refine Below.drew ?_) | (with_reducible refine below_drewN ?_ _) | (apply bthen2; (with_reducible assumption)) | go_size))⟩
          case measure => simp [intOf]; omega
        · have e : n = R := by have := hd.out; rwa [dGo_stop hlt] at this
          subst e
          clear hd hp4 HR
          go_wp2_with fail
          refine (H0.out _).mono ?_
          rintro e wb ⟨rfl, hbb⟩
          go_wp2_with fail
          go_ret2; exact gives rfl (by repeat' (first | (with_reducible exact Below.refl _ _) | (with_reducible assumption) | (with_reducible refine Below.alloc ?_ ?_ _) | (with_reducible refine Below.setCell ?_ ?_ _) | (with_reducible refine Below.drew ?_) | (with_reducible refine below_drewN ?_ _) | (apply bthen2; (with_reducible assumption)) | go_size))

end Go.Proofs.YtfcfjlfobflmaaaDoor
