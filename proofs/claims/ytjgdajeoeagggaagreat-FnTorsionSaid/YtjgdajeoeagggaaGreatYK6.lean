import Derived.Test.YtjgdajeoeagggaaGreatYK1
set_option linter.unusedSimpArgs false
set_option linter.unusedVariables false
namespace Go.Proofs.YtjgdajeoeagggaaGreat
open Go.RowKit
/-! ### square symbols -/
def symb (a p : Int) : Int := if pw a ((p - 1) / 2) p = 0 then 0 else if pw a ((p - 1) / 2) p = 1 then 1 else -1
def chk (p : Nat) : Bool := (List.range p).all fun a => let r := a ^ ((p - 1) / 2) % p; r == 0 || r == 1 || r == p - 1
def prn (n : Nat) : Bool := (List.range n).all fun d => d < 2 || n % d != 0
theorem chk_all : ((List.range 998).all fun p => p < 3 || !prn p || chk p) = true := by decide +kernel
/-- A number that is a prime has no divisor between 1 and itself. -/
theorem pr_div {n d : Int} (h : Pr n) (h2 : 2 ≤ d) (hd : d < n) : ¬ n % d = 0 := by
  intro h0
  have e : n = d * (n / d) := by have := Int.mul_ediv_add_emod n d; omega
  generalize n / d = q at e
  by_cases hs : d * d ≤ n
  · exact h.2 d h2 hs h0
  · have hq : q < d := by
      rcases Int.lt_or_le q d with g | g
      · exact g
      · have := Int.mul_le_mul_of_nonneg_left g (show 0 ≤ d by omega); omega
    have hq1 : 2 ≤ q := by
      rcases Int.lt_or_le q 2 with g | g
      · have h1 : q ≤ 1 := by omega
        have := Int.mul_le_mul_of_nonneg_left h1 (show 0 ≤ d by omega)
        omega
      · exact g
    refine h.2 q hq1 ?_ ?_
    · have := Int.mul_le_mul_of_nonneg_right (Int.le_of_lt hq) (show 0 ≤ q by omega); omega
    · rw [e]; exact Int.mul_emod_left _ _
theorem prn_of {n : Int} (h : Pr n) : prn n.toNat = true := by
  have h2 := h.1
  rw [prn, List.all_eq_true]
  intro d hd
  rw [List.mem_range] at hd
  by_cases g : d < 2
  · simp [g]
  · have := pr_div h (d := d) (by omega) (by omega)
    simp [g]
    intro h0
    apply this
    have : (n.toNat : Int) % (d : Int) = 0 := by rw [← Int.natCast_emod, h0]; rfl
    rwa [Int.toNat_of_nonneg (by omega)] at this
theorem pw_cases {a p : Int} (hp : Pr p) (h3 : 3 ≤ p) (h9 : p ≤ 997) : pw a ((p - 1) / 2) p = 0 ∨ pw a ((p - 1) / 2) p = 1 ∨ pw a ((p - 1) / 2) p = p - 1 := by
  have hc := chk_all
  rw [List.all_eq_true] at hc
  have hc := hc p.toNat (by rw [List.mem_range]; omega)
  rw [prn_of hp] at hc
  have h4 : ¬ p.toNat < 3 := by omega
  simp [h4] at hc
  rw [chk, List.all_eq_true] at hc
  have h5 := hc (a % p).toNat (by rw [List.mem_range]; have := Int.emod_lt_of_pos a (show 0 < p by omega); have := Int.emod_nonneg a (show p ≠ 0 by omega); omega)
  have e : ((((a % p).toNat ^ ((p.toNat - 1) / 2) % p.toNat : Nat)) : Int) = pw a ((p - 1) / 2) p := by
    have h6 := Int.emod_nonneg a (show p ≠ 0 by omega)
    rw [pw, Int.natCast_emod, Int.natCast_pow, Int.toNat_of_nonneg h6, Int.toNat_of_nonneg (by omega), emod_pow]
    congr 2; omega
  simp only [Bool.or_eq_true, beq_iff_eq] at h5
  rw [← e]
  rcases h5 with (h5 | h5) | h5 <;> rw [h5]
  · exact .inl rfl
  · exact .inr (.inl rfl)
  · right; right; omega
theorem symbol_any (a p : Int) (hp : 2 ≤ p) (hp' : p ≤ 1000000000) (w : World) : Calls Tryz.prog 97 #[.int .i64 a, .int .i64 p] w (Gives (.int .i64 (symb a p)) w) := by
  have hn : 0 ≤ (p - 1) / 2 := by omega
  have hn' : (p - 1) / 2 ≤ 4000000000000000000 := by omega
  by_cases h0 : pw a ((p - 1) / 2) p = 0
  · have e : symb a p = 0 := by unfold symb; rw [if_pos h0]
    have h1 := fun w => power_any a ((p - 1) / 2) p hn hn' hp hp' w
    rw [h0] at h1
    have H1 := Lib.hid h1; have E := Lib.hid e; clear h0 h1 e
    go_enter Tryz.func97, Tryz.ntmps97
    go_wp2_with (go_at_call 131; refine (H1.out _).mono ?_; rintro e w1 ⟨rfl, hb⟩; have hz := hb.size; (try simp only [wz1, wz2, wz3, wz4] at hz); try (refine keepc hb (w.heap.size) ?_ ?_; (focus (first | omega | (simp <;> omega))); intro hc0 hf0 hl0); try (refine keepc hb (w.heap.size + 1) ?_ ?_; (focus (first | omega | (simp <;> omega))); intro hc1 hf1 hl1); try (refine keepc hb (w.heap.size + 1 + 1) ?_ ?_; (focus (first | omega | (simp <;> omega))); intro hc2 hf2 hl2))
    go_ret
    exact gives (vint E.out.symm) gr
  · by_cases h1 : pw a ((p - 1) / 2) p = 1
    · have e : symb a p = 1 := by unfold symb; rw [if_neg h0, if_pos h1]
      have h2 := fun w => power_any a ((p - 1) / 2) p hn hn' hp hp' w
      rw [h1] at h2
      have H1 := Lib.hid h2; have E := Lib.hid e; clear h0 h1 e h2
      go_enter Tryz.func97, Tryz.ntmps97
      go_wp2_with (go_at_call 131; refine (H1.out _).mono ?_; rintro e w1 ⟨rfl, hb⟩; have hz := hb.size; (try simp only [wz1, wz2, wz3, wz4] at hz); try (refine keepc hb (w.heap.size) ?_ ?_; (focus (first | omega | (simp <;> omega))); intro hc0 hf0 hl0); try (refine keepc hb (w.heap.size + 1) ?_ ?_; (focus (first | omega | (simp <;> omega))); intro hc1 hf1 hl1); try (refine keepc hb (w.heap.size + 1 + 1) ?_ ?_; (focus (first | omega | (simp <;> omega))); intro hc2 hf2 hl2))
      go_ret
      exact gives (vint E.out.symm) gr
    · have e : symb a p = -1 := by unfold symb; rw [if_neg h0, if_neg h1]
      have H1 := Lib.hid (fun w => power_any a ((p - 1) / 2) p hn hn' hp hp' w)
      have h0' : (pw a ((p - 1) / 2) p == 0) = false := by simpa using h0
      have h1' : (pw a ((p - 1) / 2) p == 1) = false := by simpa using h1
      have E := Lib.hid e; clear h0 h1 e
      go_enter Tryz.func97, Tryz.ntmps97
      go_wp2_with (go_at_call 131; refine (H1.out _).mono ?_; rintro e w1 ⟨rfl, hb⟩; have hz := hb.size; (try simp only [wz1, wz2, wz3, wz4] at hz); try (refine keepc hb (w.heap.size) ?_ ?_; (focus (first | omega | (simp <;> omega))); intro hc0 hf0 hl0); try (refine keepc hb (w.heap.size + 1) ?_ ?_; (focus (first | omega | (simp <;> omega))); intro hc1 hf1 hl1); try (refine keepc hb (w.heap.size + 1 + 1) ?_ ?_; (focus (first | omega | (simp <;> omega))); intro hc2 hf2 hl2))
      go_ret
      exact gives (vint E.out.symm) gr
theorem mdSymbol_any (a p : Int) (hpr : Pr p) (hp : 3 ≤ p) (hp' : p ≤ 997) (w : World) : Calls Tryz.prog 99 #[.int .i64 a, .int .i64 p] w (Gives (.int .i64 (symb a p)) w) := by
  have hn : 0 ≤ (p - 1) / 2 := by omega
  have hn' : (p - 1) / 2 ≤ 4000000000000000000 := by omega
  have hp2 : 2 ≤ p := by omega
  have hp9 : p ≤ 1000000000 := by omega
  have H1 := Lib.hid (fun w => mdPower_any a ((p - 1) / 2) p hn hn' hp2 hp9 w)
  by_cases h0 : pw a ((p - 1) / 2) p = p - 1
  · have e : symb a p = -1 := by unfold symb; rw [h0, if_neg (by omega), if_neg (by omega)]
    have h0' : (pw a ((p - 1) / 2) p == p - 1) = true := by simpa using h0
    have E := Lib.hid e; clear h0 e
    go_enter Tryz.func99, Tryz.ntmps99
    go_wp2_with (go_at_call 132; refine (H1.out _).mono ?_; rintro e w1 ⟨rfl, hb⟩; have hz := hb.size; (try simp only [wz1, wz2, wz3, wz4] at hz); try (refine keepc hb (w.heap.size) ?_ ?_; (focus (first | omega | (simp <;> omega))); intro hc0 hf0 hl0); try (refine keepc hb (w.heap.size + 1) ?_ ?_; (focus (first | omega | (simp <;> omega))); intro hc1 hf1 hl1); try (refine keepc hb (w.heap.size + 1 + 1) ?_ ?_; (focus (first | omega | (simp <;> omega))); intro hc2 hf2 hl2))
    go_ret
    exact gives (vint E.out.symm) gr
  · have e : symb a p = pw a ((p - 1) / 2) p := by
      unfold symb
      rcases pw_cases (a := a) hpr hp hp' with h | h | h
      · rw [if_pos h, h]
      · rw [if_neg (by omega), if_pos h, h]
      · exact absurd h h0
    have h0' : (pw a ((p - 1) / 2) p == p - 1) = false := by simpa using h0
    have E := Lib.hid e; clear h0 e
    go_enter Tryz.func99, Tryz.ntmps99
    go_wp2_with (go_at_call 132; refine (H1.out _).mono ?_; rintro e w1 ⟨rfl, hb⟩; have hz := hb.size; (try simp only [wz1, wz2, wz3, wz4] at hz); try (refine keepc hb (w.heap.size) ?_ ?_; (focus (first | omega | (simp <;> omega))); intro hc0 hf0 hl0); try (refine keepc hb (w.heap.size + 1) ?_ ?_; (focus (first | omega | (simp <;> omega))); intro hc1 hf1 hl1); try (refine keepc hb (w.heap.size + 1 + 1) ?_ ?_; (focus (first | omega | (simp <;> omega))); intro hc2 hf2 hl2))
    go_ret
    exact gives (vint E.out.symm) gr
def cVal (a b x e : Int) : Int := wrap64 (x*x*x + a*x*e*e*e*e + b*e*e*e*e*e*e)
theorem curveValue_any (a b x e : Int) (w : World) : Calls Tryz.prog 92 #[.agg #[.int .i64 a, .int .i64 b], .int .i64 x, .int .i64 e] w (Gives (.int .i64 (cVal a b x e)) w) := by
  go_enter Tryz.func92, Tryz.ntmps92
  go_wp2
  go_ret
  exact gives (vint (by simp only [cVal, wadd_l, wadd_r, wmul_l, wmul_r])) gr
end Go.Proofs.YtjgdajeoeagggaaGreat
