import Derived.Test.YtaboopioocpkdaaVal
set_option linter.unusedSimpArgs false
set_option linter.unusedVariables false
namespace Go.Proofs.Ytaboopioocpkdaa
open Go.RowKit
/-! ### squares modulo prime powers -/

noncomputable def rFit (a p : Int) : Bool := inB p 2 997 && prB p && inB a (-1000000000000) 1000000000000

theorem residueFits_any (a p : Int) (w : World) : Calls Try.prog 96 #[.int .i64 a, .int .i64 p] w (Same (.bool (rFit a p)) w) := by
  cases g0 : inB p 2 997
  · go_enter Try.func96, Try.ntmps96
    go_wp2_with (go_at_call 67; refine (inside_any _ _ _ _).mono ?_; rintro e w1 ⟨rfl, rfl⟩)
    go_ret; exact same (vbool (by simp [rFit, g0]))
  have hp : p ≤ 1000000000000000000 := by have := (inB_iff.1 g0).2; omega
  cases g1 : prB p
  · go_enter Try.func96, Try.ntmps96
    go_wp2_with (first | (go_at_call 67; refine (inside_any _ _ _ _).mono ?_; rintro e w1 ⟨rfl, rfl⟩) | (go_at_call 107; refine (isPrime_any p hp _).mono ?_; rintro e w1 ⟨rfl, rfl⟩))
    go_ret; exact same (vbool (by simp [rFit, g1]))
  cases g2 : inB a (-1000000000000) 1000000000000
  all_goals
    go_enter Try.func96, Try.ntmps96
    go_wp2_with (first | (go_at_call 67; refine (inside_any _ _ _ _).mono ?_; rintro e w1 ⟨rfl, rfl⟩) | (go_at_call 107; refine (isPrime_any p hp _).mono ?_; rintro e w1 ⟨rfl, rfl⟩))
    go_ret; exact same (vbool (by simp [rFit, g0, g1, g2]))

noncomputable def dpOf (p k : Int) : Bool := mdPr p && inB k 1 (dep p)
theorem mdPr_f {p : Int} (h : mdPr p = true) : 2 ≤ p ∧ p ≤ 997 ∧ Pr p := by
  unfold mdPr at h
  rw [Bool.and_eq_true] at h
  exact ⟨(inB_iff.1 h.1).1, (inB_iff.1 h.1).2, by have := h.2; unfold prB at this; simpa using this⟩
theorem loDepthOf_any (p k : Int) (w : World) : Calls Try.prog 92 #[.int .i64 p, .int .i64 k] w (Same (.bool (dpOf p k)) w) := by
  cases g0 : mdPr p
  · go_enter Try.func92, Try.ntmps92
    go_wp2_with (go_at_call 104; refine (mdPrime_any _ _).mono ?_; rintro e w1 ⟨rfl, rfl⟩)
    go_ret; exact same (vbool (by simp [dpOf, g0]))
  obtain ⟨h1, h2, h3⟩ := mdPr_f g0
  clear h3
  cases g1 : inB k 1 (dep p)
  all_goals
    go_enter Try.func92, Try.ntmps92
    go_wp2_with (first | (go_at_call 104; refine (mdPrime_any _ _).mono ?_; rintro e w1 ⟨rfl, rfl⟩) | (go_at_call 127; refine (loDepth_any p h1 h2 _).mono ?_; rintro e w1 ⟨rfl, rfl⟩) | (go_at_call 62; refine (l1In_any _ _ _ _).mono ?_; rintro e w1 ⟨rfl, rfl⟩))
    go_ret; exact same (vbool (by simp [dpOf, g0, g1]))

/-- whether r, a residue modulo p^k, is a square modulo p^k; v: its valuation, P: p^v -/
def sqC (r p : Int) (k v : Nat) (P : Int) : Bool :=
  if (v : Int) % 2 = 1 then false
  else if 2 < p then symb (r / P) p == 1
  else if (k : Int) - v = 1 then true
  else if (k : Int) - v = 2 then r / P % 4 == 1
  else r / P % 8 == 1
noncomputable def sqB (r p : Int) (k : Nat) : Bool := if r = 0 then true else sqC r p k (vl r p) (p ^ vl r p)
theorem vl_inv {a p : Int} (hp : 2 ≤ p) : ∀ (N : Nat) (b : Int) (k : Nat), b.natAbs ≤ N → VInv a p b k → ∃ c, VInv a p c (vl a p) ∧ ¬ c.tmod p = 0 := by
  intro N
  induction N with
  | zero => intro b k hb h; exact absurd (by omega) h.2.1
  | succ N ih =>
    intro b k hb h
    by_cases h0 : b.tmod p = 0
    · have := v_step hp h h0
      exact ih _ _ (by omega) this.1
    · rw [v_end hp h h0]; exact ⟨b, h, h0⟩
theorem vl_pos {r p : Int} {k : Nat} (hp : 2 ≤ p) (h0 : 0 < r) (h : r < p ^ k) : vl r p < k ∧ 1 ≤ p ^ vl r p ∧ p ^ vl r p ≤ r ∧ 1 ≤ r / p ^ vl r p ∧ r / p ^ vl r p ≤ r ∧ ¬ (r / p ^ vl r p) % p = 0 := by
  obtain ⟨c, hc, hm⟩ := vl_inv hp r.natAbs r 0 (Nat.le_refl _) (v_start (p := p) (by omega))
  have hP : 0 < p ^ vl r p := Int.pow_pos (by omega)
  have e := hc.1
  have hcp : 0 < c := by
    rcases Int.lt_or_le 0 c with g | g
    · exact g
    · have := Int.mul_le_mul_of_nonneg_left g (Int.le_of_lt hP); omega
  have e2 : r / p ^ vl r p = c := by
    have : r = p ^ vl r p * c := e
    conv => lhs; lhs; rw [this]
    exact Int.mul_ediv_cancel_left _ (by omega)
  have hle : p ^ vl r p * 1 ≤ p ^ vl r p * c := Int.mul_le_mul_of_nonneg_left (by omega) (Int.le_of_lt hP)
  have hle2 : 1 * c ≤ p ^ vl r p * c := Int.mul_le_mul_of_nonneg_right (by omega) (Int.le_of_lt hcp)
  refine ⟨?_, by omega, by omega, by omega, by omega, ?_⟩
  · rcases Nat.lt_or_ge (vl r p) k with g | g
    · exact g
    · have := pow_mono' (show 1 ≤ p by omega) g; omega
  · rw [e2, ← Int.tmod_eq_emod_of_nonneg (by omega)]; exact hm
theorem dep_ex {p : Int} : ∀ n : Nat, 1000000000 < p ^ (n + 1) → ∃ k, IsDep p k := by
  intro n
  induction n with
  | zero => intro h; exact ⟨0, by simp, h⟩
  | succ n ih =>
    intro h
    by_cases g : p ^ (n + 1) ≤ 1000000000
    · exact ⟨n + 1, g, h⟩
    · exact ih (by omega)
theorem dep_is {p : Int} (hp : 2 ≤ p) : IsDep p (dep p) := by
  refine Classical.epsilon_spec (p := IsDep p) (dep_ex 1000000000 ?_)
  have := pow_ge_two hp (1000000000 + 1)
  omega
theorem dep_pow {p : Int} (hp : 2 ≤ p) {k : Nat} (h : k ≤ dep p) : p ^ k ≤ 1000000000 ∧ k ≤ 1000000000 := by
  have h1 := (dep_is hp).1
  have h2 := pow_mono' (show 1 ≤ p by omega) h
  have h3 := pow_ge_two hp k
  omega

set_option maxRecDepth 100000 in
set_option maxHeartbeats 4000000 in
theorem squareModulo_any (n p : Int) (k : Nat) (hp : 2 ≤ p) (hp' : p ≤ 997) (hk : k ≤ 4000000000) (hP : p ^ k ≤ 1000000000) (w : World) : Calls Try.prog 98 #[.int .i64 n, .int .i64 p, .int .i64 k] w (Gives (.bool (sqB (n % p ^ k) p k)) w) := by
  have hpos : 0 < p ^ k := Int.pow_pos (by omega)
  have H1 := Lib.hid (fun w => intPower_any p k (by omega) (by omega) hk w)
  have hr0 : 0 ≤ n % p ^ k := Int.emod_nonneg _ (by omega)
  have hr1 : n % p ^ k < p ^ k := Int.emod_lt_of_pos _ hpos
  have m1 : 1 ≤ p ^ k := by omega
  have m2 : p ^ k ≤ 4000000000000000000 := by omega
  by_cases h0 : n % p ^ k = 0
  · have e : sqB (n % p ^ k) p k = true := by unfold sqB; rw [if_pos h0]
    have h0' : (n % p ^ k == 0) = true := by simpa using h0
    have E := Lib.hid e; clear e h0
    generalize p ^ k = M at *
    go_enter Try.func98, Try.ntmps98
    go_wp2_with (first | (go_at_call 131; refine (H1.out _).mono ?_; rintro e w1 ⟨rfl, rfl⟩) | (go_at_call 130; refine (modulo_any _ _ m1 m2 _).mono ?_; rintro e w1 ⟨rfl, rfl⟩))
    go_ret; exact gives (vbool E.out.symm) (by repeat' (first | (with_reducible exact Below.refl _ _) | (with_reducible assumption) | (with_reducible refine Below.alloc ?_ ?_ _) | (with_reducible refine Below.setCell ?_ ?_ _) | (with_reducible refine Below.drew ?_) | (with_reducible refine below_drewN ?_ _) | (apply bthen2; (with_reducible assumption)) | go_size))
  · have h0' : (n % p ^ k == 0) = false := by simpa using h0
    obtain ⟨v1, v2, v3, v4, v5, v6⟩ := vl_pos hp (by omega) hr1
    have e : sqB (n % p ^ k) p k = sqC (n % p ^ k) p k (vl (n % p ^ k) p) (p ^ vl (n % p ^ k) p) := by unfold sqB; rw [if_neg h0]
    have H2 := Lib.hid (fun w => valuation_any (n % p ^ k) p h0 (by omega) (by omega) hp w)
    have H0 := Lib.hid (fun w => modulo_any n (p ^ k) m1 m2 w)
    have H3 := Lib.hid (fun w => intPower_any p (vl (n % p ^ k) p) (by omega) (by omega) (by omega) w)
    have E := Lib.hid e; clear e h0 v6
    generalize p ^ vl (n % p ^ k) p = P at *
    generalize vl (n % p ^ k) p = v at *
    generalize p ^ k = M at *
    generalize n % M = r at *
    have q1 : (P == 0) = false := by simp; omega
    have p9 : p ≤ 1000000000 := by omega
    cases c1 : ((v : Int) % 2 == 1)
    · have c1n : ¬ (v : Int) % 2 = 1 := by simpa using c1
      by_cases c2 : 2 < p
      · have e2 : sqC r p k v P = (symb (r / P) p == 1) := by unfold sqC; rw [if_neg c1n, if_pos c2]
        have E2 := Lib.hid e2; clear e2 c1n
        have HS := Lib.hid (fun w => symbol_any (r / P) p hp p9 w)
        cases c3 : (symb (r / P) p == 1)
        all_goals
          go_enter Try.func98, Try.ntmps98
          go_wp2_with (first | (go_at_call_of 131 (Value.int .i64 (k : Int)); refine (H1.out _).mono ?_; rintro e w1 ⟨rfl, rfl⟩) | (go_at_call_of 131 (Value.int .i64 (v : Int)); refine (H3.out _).mono ?_; rintro e w1 ⟨rfl, rfl⟩) | (go_at_call 130; refine (H0.out _).mono ?_; rintro e w1 ⟨rfl, rfl⟩) | (go_at_call 132; refine (H2.out _).mono ?_; rintro e w1 ⟨rfl, rfl⟩) | (go_at_call 56; refine (HS.out _).mono ?_; rintro e w1 ⟨rfl, hb⟩; have hz := hb.size; (try simp only [World.size_alloc, World.size_setCell, World.size_drew, World.heap_drewN] at hz); try (refine keepc hb (w.heap.size) ?_ ?_; (focus (first | omega | (simp <;> omega))); intro hc0 hf0 hl0); try (refine keepc hb (w.heap.size + 1) ?_ ?_; (focus (first | omega | (simp <;> omega))); intro hc1 hf1 hl1); try (refine keepc hb (w.heap.size + 1 + 1) ?_ ?_; (focus (first | omega | (simp <;> omega))); intro hc2 hf2 hl2)))
          go_ret; exact gives (vbool (by rw [E.out, E2.out, c3])) (by repeat' (first | (with_reducible exact Below.refl _ _) | (with_reducible assumption) | (with_reducible refine Below.alloc ?_ ?_ _) | (with_reducible refine Below.setCell ?_ ?_ _) | (with_reducible refine Below.drew ?_) | (with_reducible refine below_drewN ?_ _) | (apply bthen2; (with_reducible assumption)) | go_size))
      · by_cases c3 : (k : Int) - v = 1
        · have e2 : sqC r p k v P = true := by unfold sqC; rw [if_neg c1n, if_neg c2, if_pos c3]
          have E2 := Lib.hid e2; clear e2 c1n
          have c3' : ((k : Int) - v == 1) = true := by simpa using c3
          have C3 := Lib.hid c3; clear c3
          go_enter Try.func98, Try.ntmps98
          go_wp2_with (first | (go_at_call_of 131 (Value.int .i64 (k : Int)); refine (H1.out _).mono ?_; rintro e w1 ⟨rfl, rfl⟩) | (go_at_call_of 131 (Value.int .i64 (v : Int)); refine (H3.out _).mono ?_; rintro e w1 ⟨rfl, rfl⟩) | (go_at_call 130; refine (H0.out _).mono ?_; rintro e w1 ⟨rfl, rfl⟩) | (go_at_call 132; refine (H2.out _).mono ?_; rintro e w1 ⟨rfl, rfl⟩))
          go_ret; exact gives (vbool (by rw [E.out, E2.out])) (by repeat' (first | (with_reducible exact Below.refl _ _) | (with_reducible assumption) | (with_reducible refine Below.alloc ?_ ?_ _) | (with_reducible refine Below.setCell ?_ ?_ _) | (with_reducible refine Below.drew ?_) | (with_reducible refine below_drewN ?_ _) | (apply bthen2; (with_reducible assumption)) | go_size))
        · have c3' : ((k : Int) - v == 1) = false := by simpa using c3
          by_cases c4 : (k : Int) - v = 2
          · have e2 : sqC r p k v P = (r / P % 4 == 1) := by unfold sqC; rw [if_neg c1n, if_neg c2, if_neg c3, if_pos c4]
            have E2 := Lib.hid e2; clear e2 c1n
            have c4' : ((k : Int) - v == 2) = true := by simpa using c4
            have C4 := Lib.hid c4; clear c4 c3
            go_enter Try.func98, Try.ntmps98
            go_wp2_with (first | (go_at_call_of 131 (Value.int .i64 (k : Int)); refine (H1.out _).mono ?_; rintro e w1 ⟨rfl, rfl⟩) | (go_at_call_of 131 (Value.int .i64 (v : Int)); refine (H3.out _).mono ?_; rintro e w1 ⟨rfl, rfl⟩) | (go_at_call 130; refine (H0.out _).mono ?_; rintro e w1 ⟨rfl, rfl⟩) | (go_at_call 132; refine (H2.out _).mono ?_; rintro e w1 ⟨rfl, rfl⟩))
            go_ret; exact gives (vbool (by rw [E.out, E2.out])) (by repeat' (first | (with_reducible exact Below.refl _ _) | (with_reducible assumption) | (with_reducible refine Below.alloc ?_ ?_ _) | (with_reducible refine Below.setCell ?_ ?_ _) | (with_reducible refine Below.drew ?_) | (with_reducible refine below_drewN ?_ _) | (apply bthen2; (with_reducible assumption)) | go_size))
          · have e2 : sqC r p k v P = (r / P % 8 == 1) := by unfold sqC; rw [if_neg c1n, if_neg c2, if_neg c3, if_neg c4]
            have E2 := Lib.hid e2; clear e2 c1n
            have c4' : ((k : Int) - v == 2) = false := by simpa using c4
            clear c3 c4
            go_enter Try.func98, Try.ntmps98
            go_wp2_with (first | (go_at_call_of 131 (Value.int .i64 (k : Int)); refine (H1.out _).mono ?_; rintro e w1 ⟨rfl, rfl⟩) | (go_at_call_of 131 (Value.int .i64 (v : Int)); refine (H3.out _).mono ?_; rintro e w1 ⟨rfl, rfl⟩) | (go_at_call 130; refine (H0.out _).mono ?_; rintro e w1 ⟨rfl, rfl⟩) | (go_at_call 132; refine (H2.out _).mono ?_; rintro e w1 ⟨rfl, rfl⟩))
            go_ret; exact gives (vbool (by rw [E.out, E2.out])) (by repeat' (first | (with_reducible exact Below.refl _ _) | (with_reducible assumption) | (with_reducible refine Below.alloc ?_ ?_ _) | (with_reducible refine Below.setCell ?_ ?_ _) | (with_reducible refine Below.drew ?_) | (with_reducible refine below_drewN ?_ _) | (apply bthen2; (with_reducible assumption)) | go_size))
    · have e2 : sqC r p k v P = false := by unfold sqC; rw [if_pos (by simpa using c1)]
      have E2 := Lib.hid e2; clear e2
      go_enter Try.func98, Try.ntmps98
      go_wp2_with (first | (go_at_call_of 131 (Value.int .i64 (k : Int)); refine (H1.out _).mono ?_; rintro e w1 ⟨rfl, rfl⟩) | (go_at_call_of 131 (Value.int .i64 (v : Int)); refine (H3.out _).mono ?_; rintro e w1 ⟨rfl, rfl⟩) | (go_at_call 130; refine (H0.out _).mono ?_; rintro e w1 ⟨rfl, rfl⟩) | (go_at_call 132; refine (H2.out _).mono ?_; rintro e w1 ⟨rfl, rfl⟩))
      go_ret; exact gives (vbool (by rw [E.out, E2.out])) (by repeat' (first | (with_reducible exact Below.refl _ _) | (with_reducible assumption) | (with_reducible refine Below.alloc ?_ ?_ _) | (with_reducible refine Below.setCell ?_ ?_ _) | (with_reducible refine Below.drew ?_) | (with_reducible refine below_drewN ?_ _) | (apply bthen2; (with_reducible assumption)) | go_size))

theorem l1Least_r (a b : Int) (w : World) : Calls Try.prog 129 #[.int .i64 a, .int .i64 b] w (Same (.int .i64 (min a b)) w) := l1Least_any a b w
noncomputable def oft (r p : Int) (k : Nat) : Int := if r = 0 then k else (vl r p : Int)
theorem loOften_any (r p : Int) (k : Nat) (hp : 2 ≤ p) (hk : k ≤ 4000000000) (h0 : 0 ≤ r) (h1 : r < p ^ k) (h2 : r ≤ 1000000000) (w : World) : Calls Try.prog 128 #[.int .i64 r, .int .i64 p, .int .i64 k] w (Same (.int .i64 (oft r p k)) w) := by
  by_cases hr : r = 0
  · have hr' : (r == 0) = true := by simpa using hr
    have E := Lib.hid (show oft r p k = k by unfold oft; rw [if_pos hr])
    clear hr h1
    go_enter Try.func128, Try.ntmps128
    go_wp2
    go_ret; exact same (vint E.out.symm)
  · have hr' : (r == 0) = false := by simpa using hr
    have E := Lib.hid (show oft r p k = vl r p by unfold oft; rw [if_neg hr])
    obtain ⟨v1, v2, v3, v4, v5, v6⟩ := vl_pos hp (by omega) h1
    have H2 := Lib.hid (fun w => mdValuation_any r p hr (by omega) (by omega) hp w)
    clear hr h1 v2 v3 v4 v5 v6
    generalize vl r p = v at *
    go_enter Try.func128, Try.ntmps128
    go_wp2_with (first | (go_at_call 146; refine (H2.out _).mono ?_; rintro e w1 ⟨rfl, rfl⟩) | (go_at_call 129; refine (l1Least_any _ _ _).mono ?_; rintro e w1 ⟨rfl, rfl⟩))
    go_ret; exact same (vint (by rw [E.out]; omega))

end Go.Proofs.Ytaboopioocpkdaa
