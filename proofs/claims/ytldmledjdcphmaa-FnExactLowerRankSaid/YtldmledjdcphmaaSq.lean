import Derived.Test.YtldmledjdcphmaaLawG
set_option linter.unusedSimpArgs false
set_option linter.unusedVariables false
namespace Go.Proofs.Ytldmledjdcphmaa
open Go.RowKit

/-! ### the group of squarefree numbers: no program in sight -/
def SqN (n : Nat) : Prop := n ≠ 0 ∧ ∀ m : Nat, m * m ∣ n → m = 1
def pN (a b : Nat) : Nat := a / Nat.gcd a b * (b / Nat.gcd a b)
theorem SqN.dvd {a d : Nat} (h : SqN a) (hd : d ∣ a) : SqN d := by
  refine ⟨fun e => h.1 ?_, fun m hm => h.2 m (Nat.dvd_trans hm hd)⟩
  subst e
  exact Nat.eq_zero_of_zero_dvd hd
theorem pN_mul {a b : Nat} (ha : a ≠ 0) : pN a b * (Nat.gcd a b * Nat.gcd a b) = a * b := by
  unfold pN
  have h1 := Nat.div_mul_cancel (Nat.gcd_dvd_left a b)
  have h2 := Nat.div_mul_cancel (Nat.gcd_dvd_right a b)
  calc a / Nat.gcd a b * (b / Nat.gcd a b) * (Nat.gcd a b * Nat.gcd a b) = (a / Nat.gcd a b * Nat.gcd a b) * (b / Nat.gcd a b * Nat.gcd a b) := by ac_rfl
    _ = a * b := by rw [h1, h2]
theorem sqn_mul {a b : Nat} (ha : SqN a) (hb : SqN b) (hc : Nat.Coprime a b) : SqN (a * b) := by
  refine ⟨Nat.mul_ne_zero ha.1 hb.1, fun m hm => ?_⟩
  have hm1 : m ∣ a * b := Nat.dvd_trans (Nat.dvd_mul_left m m) hm
  have e : Nat.gcd m a * Nat.gcd m b = m := by rw [← Nat.Coprime.gcd_mul m hc]; exact Nat.gcd_eq_left hm1
  have key : ∀ x y : Nat, SqN x → Nat.Coprime x y → m * m ∣ x * y → Nat.gcd m x = 1 := by
    intro x y hx hxy hd
    refine hx.2 _ ?_
    have h1 : Nat.gcd m x * Nat.gcd m x ∣ x * y := Nat.dvd_trans (Nat.mul_dvd_mul (Nat.gcd_dvd_left m x) (Nat.gcd_dvd_left m x)) hd
    have h2 : Nat.Coprime (Nat.gcd m x) y := Nat.Coprime.coprime_dvd_left (Nat.gcd_dvd_right m x) hxy
    exact Nat.Coprime.dvd_of_dvd_mul_right (Nat.Coprime.mul_left h2 h2) h1
  have e1 := key a b ha hc hm
  have e2 := key b a hb hc.symm (by rw [Nat.mul_comm b a]; exact hm)
  rw [e1, e2] at e
  exact e.symm
theorem pN_sq {a b : Nat} (ha : SqN a) (hb : SqN b) : SqN (pN a b) := by
  have hg : 0 < Nat.gcd a b := Nat.gcd_pos_of_pos_left b (Nat.pos_of_ne_zero ha.1)
  exact sqn_mul (ha.dvd (Nat.div_dvd_of_dvd (Nat.gcd_dvd_left a b))) (hb.dvd (Nat.div_dvd_of_dvd (Nat.gcd_dvd_right a b))) (Nat.coprime_div_gcd_div_gcd hg)
/-- A number is a squarefree one times a square in one way alone. -/
theorem sqn_unique {x y k l : Nat} (hx : SqN x) (hy : SqN y) (hk : k ≠ 0) (h : x * (k * k) = y * (l * l)) : x = y := by
  have hg : 0 < Nat.gcd k l := Nat.gcd_pos_of_pos_left l (Nat.pos_of_ne_zero hk)
  obtain ⟨k', hk'⟩ := Nat.gcd_dvd_left k l
  obtain ⟨l', hl'⟩ := Nat.gcd_dvd_right k l
  have hc : Nat.Coprime k' l' := by
    have := Nat.coprime_div_gcd_div_gcd hg
    rwa [show k / Nat.gcd k l = k' from Nat.div_eq_of_eq_mul_right hg hk', show l / Nat.gcd k l = l' from Nat.div_eq_of_eq_mul_right hg hl'] at this
  generalize Nat.gcd k l = g at *
  subst hk'; subst hl'
  have h2 : x * (k' * k') = y * (l' * l') := by
    have : (g * g) * (x * (k' * k')) = (g * g) * (y * (l' * l')) := by
      calc (g * g) * (x * (k' * k')) = x * (g * k' * (g * k')) := by ac_rfl
        _ = y * (g * l' * (g * l')) := h
        _ = (g * g) * (y * (l' * l')) := by ac_rfl
    exact Nat.eq_of_mul_eq_mul_left (Nat.mul_pos hg hg) this
  have hcc : Nat.Coprime (k' * k') (l' * l') := Nat.Coprime.mul_left (Nat.Coprime.mul_right hc hc) (Nat.Coprime.mul_right hc hc)
  have e1 : k' = 1 := hy.2 k' (hcc.dvd_of_dvd_mul_right (by rw [← h2]; exact Nat.dvd_mul_left _ _))
  have e2 : l' = 1 := hx.2 l' (hcc.symm.dvd_of_dvd_mul_right (by rw [h2]; exact Nat.dvd_mul_left _ _))
  subst e1; subst e2
  omega
theorem pN_comm (a b : Nat) : pN a b = pN b a := by unfold pN; rw [Nat.gcd_comm b a, Nat.mul_comm]
theorem pN_assoc {a b c : Nat} (ha : SqN a) (hb : SqN b) (hc : SqN c) : pN a (pN b c) = pN (pN a b) c := by
  have h1 := pN_mul (b := pN b c) ha.1
  have h2 := pN_mul (b := c) hb.1
  have h3 := pN_mul (b := c) (pN_sq ha hb).1
  have h4 := pN_mul (b := b) ha.1
  have q1 : 0 < Nat.gcd a (pN b c) := Nat.gcd_pos_of_pos_left _ (Nat.pos_of_ne_zero ha.1)
  have q2 : 0 < Nat.gcd b c := Nat.gcd_pos_of_pos_left _ (Nat.pos_of_ne_zero hb.1)
  have hS1 := pN_sq ha (pN_sq hb hc)
  have hS2 := pN_sq (pN_sq ha hb) hc
  generalize Nat.gcd a (pN b c) = g1 at *
  generalize Nat.gcd b c = g2 at *
  generalize Nat.gcd (pN a b) c = g3 at *
  generalize Nat.gcd a b = g4 at *
  generalize pN a (pN b c) = X at *
  generalize pN (pN a b) c = Y at *
  generalize pN b c = U at *
  generalize pN a b = V at *
  refine sqn_unique hS1 hS2 (k := g1 * g2) (l := g3 * g4) (Nat.mul_ne_zero (by omega) (by omega)) ?_
  calc X * (g1 * g2 * (g1 * g2)) = (X * (g1 * g1)) * (g2 * g2) := by ac_rfl
    _ = a * (U * (g2 * g2)) := by rw [h1]; ac_rfl
    _ = (a * b) * c := by rw [h2]; ac_rfl
    _ = (V * (g4 * g4)) * c := by rw [h4]
    _ = (V * c) * (g4 * g4) := by ac_rfl
    _ = (Y * (g3 * g3)) * (g4 * g4) := by rw [h3]
    _ = Y * (g3 * g4 * (g3 * g4)) := by ac_rfl
theorem pN_self {a : Nat} (ha : a ≠ 0) : pN a a = 1 := by
  unfold pN
  rw [Nat.gcd_self, Nat.div_self (Nat.pos_of_ne_zero ha)]
theorem pN_one (a : Nat) : pN 1 a = a := by unfold pN; simp
/-! with signs -/
def Sqz (d : Int) : Prop := SqN d.natAbs
def pZ (d e : Int) : Int := d.tdiv (Int.gcd d e) * e.tdiv (Int.gcd d e)
theorem tdiv_sign (d : Int) (g : Nat) : d.tdiv g = d.sign * ((d.natAbs / g : Nat) : Int) := by
  rcases Int.lt_trichotomy d 0 with h | h | h
  · obtain ⟨n, rfl⟩ : ∃ n : Nat, d = -n := ⟨d.natAbs, by omega⟩
    rw [Int.neg_tdiv, Int.natAbs_neg, Int.natAbs_natCast, Int.sign_eq_neg_one_of_neg h, ← Int.ofNat_tdiv]
    simp
  · subst h; simp
  · obtain ⟨n, rfl⟩ : ∃ n : Nat, d = n := ⟨d.natAbs, by omega⟩
    rw [Int.natAbs_natCast, Int.sign_eq_one_of_pos h, ← Int.ofNat_tdiv]
    simp
theorem pZ_eq (d e : Int) : pZ d e = d.sign * e.sign * (pN d.natAbs e.natAbs : Int) := by
  unfold pZ pN
  rw [tdiv_sign, tdiv_sign, Int.natCast_mul, show Int.gcd d e = Nat.gcd d.natAbs e.natAbs from rfl]
  grind
theorem sgn_abs (d : Int) (n : Nat) (s : Int) (hs : s = 1 ∨ s = -1) (h : d = s * n) (hn : n ≠ 0) : d.natAbs = n ∧ d.sign = s := by
  subst h
  rcases hs with rfl | rfl
  · exact ⟨by simp, by rw [Int.one_mul]; exact Int.sign_eq_one_of_pos (by omega)⟩
  · exact ⟨by simp, Int.sign_eq_neg_one_of_neg (by omega)⟩
theorem sign_1 {d : Int} (h : Sqz d) : d.sign = 1 ∨ d.sign = -1 := by
  have h0 : d ≠ 0 := fun e => h.1 (by rw [e]; rfl)
  rcases Int.lt_or_gt_of_ne h0 with q | q
  · exact .inr (Int.sign_eq_neg_one_of_neg q)
  · exact .inl (Int.sign_eq_one_of_pos q)
theorem pZ_parts {d e : Int} (hd : Sqz d) (he : Sqz e) : (pZ d e).natAbs = pN d.natAbs e.natAbs ∧ (pZ d e).sign = d.sign * e.sign := by
  refine sgn_abs _ _ _ ?_ (pZ_eq d e) (pN_sq hd he).1
  rcases sign_1 hd with h | h <;> rcases sign_1 he with h2 | h2 <;> rw [h, h2] <;> simp
theorem pZ_sq {d e : Int} (hd : Sqz d) (he : Sqz e) : Sqz (pZ d e) := by unfold Sqz; rw [(pZ_parts hd he).1]; exact pN_sq hd he
theorem z_ext {x y : Int} (h1 : x.natAbs = y.natAbs) (h2 : x.sign = y.sign) : x = y := by rw [← Int.sign_mul_natAbs x, ← Int.sign_mul_natAbs y, h1, h2]
theorem pZ_comm {d e : Int} (hd : Sqz d) (he : Sqz e) : pZ d e = pZ e d := z_ext (by rw [(pZ_parts hd he).1, (pZ_parts he hd).1, pN_comm]) (by rw [(pZ_parts hd he).2, (pZ_parts he hd).2, Int.mul_comm])
theorem pZ_assoc {a b c : Int} (ha : Sqz a) (hb : Sqz b) (hc : Sqz c) : pZ a (pZ b c) = pZ (pZ a b) c :=
  z_ext (by rw [(pZ_parts ha (pZ_sq hb hc)).1, (pZ_parts hb hc).1, (pZ_parts (pZ_sq ha hb) hc).1, (pZ_parts ha hb).1, pN_assoc ha hb hc])
    (by rw [(pZ_parts ha (pZ_sq hb hc)).2, (pZ_parts hb hc).2, (pZ_parts (pZ_sq ha hb) hc).2, (pZ_parts ha hb).2, Int.mul_assoc])
theorem sqz_one : Sqz 1 := ⟨by decide, fun m hm => Nat.eq_one_of_mul_eq_one_left (Nat.dvd_one.1 hm)⟩
theorem pZ_self {a : Int} (ha : Sqz a) : pZ a a = 1 := by
  refine z_ext (by rw [(pZ_parts ha ha).1, pN_self ha.1]; rfl) ?_
  rw [(pZ_parts ha ha).2]
  rcases sign_1 ha with h | h <;> rw [h] <;> rfl
theorem pZ_one {a : Int} (ha : Sqz a) : pZ 1 a = a := by
  refine z_ext (by rw [(pZ_parts sqz_one ha).1]; exact pN_one _) ?_
  rw [(pZ_parts sqz_one ha).2]; simp
theorem pZ_pZ {a b : Int} (ha : Sqz a) (hb : Sqz b) : pZ a (pZ a b) = b := by rw [pZ_assoc ha ha hb, pZ_self ha, pZ_one hb]

theorem prd_pZ (d e : Int) : prd d e = pZ d e := rfl
def prodN : List Int → Nat
  | [] => 1
  | p :: l => p.natAbs * prodN l
theorem prodN_dvd {M : Int} : ∀ (l : List Int), l.Pairwise (· < ·) → (∀ p ∈ l, Pr p ∧ p ∣ M) → prodN l ∣ M.natAbs ∧ ∀ q, Pr q → (∀ p ∈ l, p ≠ q) → Nat.Coprime q.natAbs (prodN l)
  | [], _, _ => ⟨Nat.one_dvd _, fun q _ _ => by simp [prodN]⟩
  | p :: l, hs, h => by
    rw [List.pairwise_cons] at hs
    obtain ⟨h1, h2⟩ := prodN_dvd l hs.2 (fun x hx => h x (List.mem_cons_of_mem _ hx))
    have hp := h p List.mem_cons_self
    have hc := h2 p hp.1 (fun x hx e => by have := hs.1 x hx; omega)
    refine ⟨Nat.Coprime.mul_dvd_of_dvd_of_dvd hc (Int.natAbs_dvd_natAbs.2 hp.2) h1, fun q hq hne => ?_⟩
    exact Nat.Coprime.mul_right (pr_gcd hq hp.1 (fun e => hne p List.mem_cons_self e.symm)) (h2 q hq (fun x hx => hne x (List.mem_cons_of_mem _ hx)))
theorem prodN_pos : ∀ (l : List Int), (∀ p ∈ l, Pr p) → 1 ≤ prodN l
  | [], _ => Nat.le_refl _
  | p :: l, h => by
    have h1 := prodN_pos l (fun x hx => h x (List.mem_cons_of_mem _ hx))
    have h2 := (h p List.mem_cons_self).1
    exact Nat.mul_pos (by omega) h1
theorem sqn_pr {p : Int} (h : Pr p) : SqN p.natAbs := by
  have h2 := h.1
  refine ⟨by omega, fun m hm => ?_⟩
  have h3 := Nat.le_of_dvd (by omega) hm
  rcases Nat.lt_or_ge m 2 with q | q
  · rcases Nat.eq_zero_or_pos m with r | r
    · subst r; obtain ⟨c, hc⟩ := hm; omega
    · omega
  · exfalso
    refine h.2 (m : Int) (by omega) ?_ ?_
    · have : ((m * m : Nat) : Int) ≤ p := by omega
      simpa using this
    · refine Int.emod_eq_zero_of_dvd ?_
      have : m ∣ p.natAbs := Nat.dvd_trans (Nat.dvd_mul_left m m) hm
      exact Int.natAbs_dvd_natAbs.1 (by simpa using this)
theorem sqS_sq {N : Int} (M : Nat) (hM : M ≤ 1000000000000000) : ∀ (l : List Int) (s : Int), l.Pairwise (· < ·) → (∀ p ∈ l, Pr p) → SqN s.natAbs → (∀ p ∈ l, Nat.Coprime s.natAbs p.natAbs) → s.natAbs * prodN l ≤ M → SqN (sqS N s l).natAbs
  | [], s, _, _, h, _, _ => h
  | p :: l, s, hs, hp, h, hc, hb => by
    rw [List.pairwise_cons] at hs
    have p1 := hp p List.mem_cons_self
    have hl := prodN_pos l (fun x hx => hp x (List.mem_cons_of_mem _ hx))
    have hsp : s.natAbs * p.natAbs ≤ M := by
      refine Nat.le_trans ?_ hb
      show s.natAbs * p.natAbs ≤ s.natAbs * (p.natAbs * prodN l)
      exact Nat.mul_le_mul_left _ (Nat.le_mul_of_pos_right _ hl)
    have hsl : s.natAbs * prodN l ≤ M := by
      refine Nat.le_trans ?_ hb
      show s.natAbs * prodN l ≤ s.natAbs * (p.natAbs * prodN l)
      exact Nat.mul_le_mul_left _ (Nat.le_mul_of_pos_left _ (by have := p1.1; omega))
    unfold sqS
    split
    · have e : wrap64 (s * p) = s * p := win (by have := Int.natAbs_mul s p; omega)
      rw [e]
      refine sqS_sq M hM l _ hs.2 (fun x hx => hp x (List.mem_cons_of_mem _ hx)) ?_ (fun x hx => ?_) ?_
      · rw [Int.natAbs_mul]; exact sqn_mul h (sqn_pr p1) (hc p List.mem_cons_self)
      · rw [Int.natAbs_mul]
        exact Nat.Coprime.mul_left (hc x (List.mem_cons_of_mem _ hx)) (pr_gcd p1 (hp x (List.mem_cons_of_mem _ hx)) (fun e => by have := hs.1 x hx; omega))
      · rw [Int.natAbs_mul, Nat.mul_assoc]; exact hb
    · exact sqS_sq M hM l s hs.2 (fun x hx => hp x (List.mem_cons_of_mem _ hx)) h (fun x hx => hc x (List.mem_cons_of_mem _ hx)) hsl
theorem sqf_sq {N : Int} (h0 : N ≠ 0) (h1 : -1000000000000000 ≤ N) (h2 : N ≤ 1000000000000000) : Sqz (sqf N) := by
  have hM : 1 ≤ max N (-N) := by omega
  have hp := pf_ex hM
  obtain ⟨d1, -⟩ := prodN_dvd (M := max N (-N)) (pf (max N (-N))) hp.1 (fun p h => (hp.2 p).1 h)
  have d2 := Nat.le_of_dvd (by omega) d1
  refine sqS_sq (max N (-N)).natAbs (by omega) _ _ hp.1 (fun p h => ((hp.2 p).1 h).1) ?_ ?_ ?_
  · have := sqz_one.2
    split
    · exact ⟨by decide, fun m hm => this m hm⟩
    · exact ⟨by decide, fun m hm => this m hm⟩
  · intro p _; split <;> simp
  · split <;> simpa using d2
theorem clB_sq {d : Int} (h : clB d = true) : Sqz d := by
  obtain ⟨a, b, c, e⟩ := clB_f h
  have := sqf_sq c (by omega) (by omega)
  rwa [e] at this

end Go.Proofs.Ytldmledjdcphmaa
