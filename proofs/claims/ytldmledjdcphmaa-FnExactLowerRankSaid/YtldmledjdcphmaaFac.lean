import Derived.Test.YtldmledjdcphmaaOwnX
import Derived.Test.YtldmledjdcphmaaVal
set_option linter.unusedSimpArgs false
set_option linter.unusedVariables false
namespace Go.Proofs.Ytldmledjdcphmaa
open Go.RowKit
/-! ### prime factors -/

theorem pr_gcd {a b : Int} (ha : Pr a) (hb : Pr b) (h : a ≠ b) : Int.gcd a b = 1 := by
  have h1 : ((Int.gcd a b : Nat) : Int) ∣ a := Int.gcd_dvd_left ..
  have h2 : ((Int.gcd a b : Nat) : Int) ∣ b := Int.gcd_dvd_right ..
  have hp : Int.gcd a b ≠ 0 := by intro g; rw [g] at h1; have := ha.1; have e : a = 0 := Int.zero_dvd.1 h1; omega
  generalize Int.gcd a b = g at *
  rcases Nat.lt_or_ge g 2 with c | c
  · omega
  · have k : ∀ n : Int, Pr n → (g : Int) ∣ n → (g : Int) = n := fun n hn hd => by
      have hle := Int.le_of_dvd (by have := hn.1; omega) hd
      rcases Int.lt_or_le (g : Int) n with q | q
      · exact absurd (Int.emod_eq_zero_of_dvd hd) (pr_div hn (by omega) q)
      · omega
    have e1 := k a ha h1
    have e2 := k b hb h2
    omega
theorem cop_pow {a b : Int} (h : Int.gcd a b = 1) (j k : Nat) : Int.gcd (a ^ j) (b ^ k) = 1 := by
  have h' : Nat.Coprime a.natAbs b.natAbs := h
  have : Nat.Coprime (a.natAbs ^ j) (b.natAbs ^ k) := Nat.Coprime.pow j k h'
  unfold Int.gcd
  rw [Int.natAbs_pow, Int.natAbs_pow]; exact this
theorem dvd_cop {a b c : Int} (h : Int.gcd a b = 1) (hd : a ∣ b * c) : a ∣ c := by
  have h' : Nat.Coprime a.natAbs b.natAbs := h
  have hd' : a.natAbs ∣ b.natAbs * c.natAbs := by rw [← Int.natAbs_mul]; exact Int.natAbs_dvd_natAbs.2 hd
  exact Int.natAbs_dvd_natAbs.1 (Nat.Coprime.dvd_of_dvd_mul_left h' hd')
theorem srt_ext : ∀ (l m : List Int), l.Pairwise (· < ·) → m.Pairwise (· < ·) → (∀ d, d ∈ l ↔ d ∈ m) → l = m := by
  intro l
  induction l with
  | nil => intro m _ _ h; cases m with
    | nil => rfl
    | cons y ys => exact absurd ((h y).2 (List.mem_cons_self)) (by simp)
  | cons x xs ih =>
    intro m hl hm h
    cases m with
    | nil => exact absurd ((h x).1 (List.mem_cons_self)) (by simp)
    | cons y ys =>
      rw [List.pairwise_cons] at hl hm
      have hxy : x = y := by
        have h1 := (h x).1 List.mem_cons_self
        have h2 := (h y).2 List.mem_cons_self
        rcases List.mem_cons.1 h1 with e | e
        · exact e
        · rcases List.mem_cons.1 h2 with f | f
          · exact f.symm
          · have := hm.1 x e; have := hl.1 y f; omega
      subst hxy
      congr 1
      refine ih ys hl.2 hm.2 fun d => ?_
      constructor
      · intro hd
        rcases List.mem_cons.1 ((h d).1 (List.mem_cons_of_mem _ hd)) with e | e
        · have := hl.1 d hd; omega
        · exact e
      · intro hd
        rcases List.mem_cons.1 ((h d).2 (List.mem_cons_of_mem _ hd)) with e | e
        · have := hm.1 d hd; omega
        · exact e
/-- The primes that divide N, increasing. -/
def IsPf (N : Int) (l : List Int) : Prop := l.Pairwise (· < ·) ∧ ∀ d, d ∈ l ↔ (Pr d ∧ d ∣ N)
noncomputable def pf (N : Int) : List Int := Classical.epsilon (IsPf N)
theorem pf_eq {N : Int} {l : List Int} (h : IsPf N l) : pf N = l := by
  have h' : IsPf N (pf N) := Classical.epsilon_spec (p := IsPf N) ⟨l, h⟩
  exact srt_ext _ _ h'.1 h.1 fun d => by rw [h'.2, h.2]
/-- The loop's state: n is what is left of N, all smaller primes are out. -/
structure FI (N n p : Int) : Prop where
  n1 : 1 ≤ n
  p2 : 2 ≤ p
  dv : n ∣ N
  nod : ∀ d, 2 ≤ d → d < p → ¬ d ∣ n
  up : ∀ d, Pr d → p ≤ d → ∀ j : Nat, d ^ j ∣ N → d ^ j ∣ n
theorem FI.start {N : Int} (h : 1 ≤ N) : FI N N 2 := ⟨h, by omega, Int.dvd_refl _, fun d h1 h2 => by omega, fun d _ _ j h => h⟩
theorem FI.ple {N n p : Int} (h : FI N n p) (h1 : 1 < n) : p ≤ n := by
  rcases Int.lt_or_le n p with g | g
  · exact absurd (Int.dvd_refl n) (h.nod n (by omega) g)
  · exact g
/-- the found list -/
def Acc (N p : Int) (acc : List Int) : Prop := acc.Pairwise (· < ·) ∧ (∀ d, d ∈ acc ↔ (Pr d ∧ d ∣ N ∧ d < p)) ∧ (acc.length : Int) + 2 ≤ p
theorem Acc.start (N : Int) : Acc N 2 [] := ⟨List.Pairwise.nil, fun d => by simp; intro h _; exact h.1, by simp⟩
theorem FI.done {N n p : Int} {acc : List Int} (h : FI N n p) (h1 : ¬ 1 < n) (ha : Acc N p acc) : pf N = acc := by
  refine pf_eq ⟨ha.1, fun d => ?_⟩
  rw [ha.2.1]
  constructor
  · exact fun ⟨a, b, _⟩ => ⟨a, b⟩
  · rintro ⟨a, b⟩
    refine ⟨a, b, ?_⟩
    rcases Int.lt_or_le d p with g | g
    · exact g
    · have := h.up d a g 1 (by rw [Int.pow_one]; exact b)
      rw [Int.pow_one] at this
      have hle := Int.le_of_dvd (by have := h.n1; omega) this
      have := a.1; omega
theorem FI.skip {N n p : Int} (h : FI N n p) (h0 : ¬ p ∣ n) : FI N n (p + 1) := by
  refine ⟨h.n1, by have := h.p2; omega, h.dv, fun d a b => ?_, fun d a b j c => h.up d a (by omega) j c⟩
  by_cases e : d = p
  · subst e; exact h0
  · exact h.nod d a (by omega)
theorem Acc.skip {N n p : Int} {acc : List Int} (ha : Acc N p acc) (h : FI N n p) (h0 : ¬ p ∣ n) : Acc N (p + 1) acc := by
  refine ⟨ha.1, fun d => ?_, by have := ha.2.2; omega⟩
  rw [ha.2.1]
  constructor
  · exact fun ⟨a, b, c⟩ => ⟨a, b, by omega⟩
  · rintro ⟨a, b, c⟩
    refine ⟨a, b, ?_⟩
    by_cases e : d = p
    · subst e
      have := h.up d a (Int.le_refl _) 1 (by rw [Int.pow_one]; exact b)
      rw [Int.pow_one] at this
      exact absurd this h0
    · omega
/-- The next candidate q is a prime when it divides. -/
theorem FI.prP {N n p : Int} (h : FI N n p) (h0 : p ∣ n) : Pr p := by
  refine ⟨h.p2, fun d a b c => ?_⟩
  have : 2 * d ≤ d * d := Int.mul_le_mul_of_nonneg_right a (by omega)
  exact h.nod d a (by omega) (Int.dvd_trans (Int.dvd_of_emod_eq_zero c) h0)
theorem FI.prN {N n p : Int} (h : FI N n p) (h1 : 1 < n) (h0 : n < p * p) : Pr n := by
  refine ⟨by omega, fun d a b c => ?_⟩
  rcases Int.lt_or_le d p with g | g
  · exact h.nod d a g (Int.dvd_of_emod_eq_zero c)
  · have : p * p ≤ d * d := Int.mul_le_mul g g (by have := h.p2; omega) (by omega)
    omega
/-- From p to n, if n is less than p p. -/
theorem FI.jump {N n p : Int} (h : FI N n p) (h1 : 1 < n) (h0 : n < p * p) : FI N n n := by
  have hp := h.prN h1 h0
  refine ⟨h.n1, by omega, h.dv, fun d a b c => pr_div hp a b (Int.emod_eq_zero_of_dvd c), fun d a b j c => h.up d a (Int.le_trans (h.ple h1) b) j c⟩
theorem Acc.jump {N n p : Int} {acc : List Int} (ha : Acc N p acc) (h : FI N n p) (h1 : 1 < n) (h0 : n < p * p) : Acc N n acc := by
  have hp := h.prN h1 h0
  have hle := h.ple h1
  refine ⟨ha.1, fun d => ?_, by have := ha.2.2; omega⟩
  rw [ha.2.1]
  constructor
  · exact fun ⟨a, b, c⟩ => ⟨a, b, by omega⟩
  · rintro ⟨a, b, c⟩
    refine ⟨a, b, ?_⟩
    rcases Int.lt_or_le d p with g | g
    · exact g
    · have := h.up d a g 1 (by rw [Int.pow_one]; exact b)
      rw [Int.pow_one] at this
      exact absurd (Int.emod_eq_zero_of_dvd this) (pr_div hp a.1 c)
/-- q divides: it is taken out. -/
theorem FI.out {N n q b : Int} {k : Nat} (h : FI N n q) (h0 : q ∣ n) (e : n = q ^ k * b) (hb : 1 ≤ b) (hq : ¬ q ∣ b) : FI N b (q + 1) ∧ vl N q = k ∧ 1 ≤ k ∧ 2 * b ≤ n := by
  have hp := h.prP h0
  have hq2 := h.p2
  have hbn : b ∣ n := ⟨q ^ k, by rw [e, Int.mul_comm]⟩
  have hk : 1 ≤ k := by
    rcases Nat.lt_or_ge k 1 with g | g
    · obtain rfl : k = 0 := by omega
      rw [Int.pow_zero, Int.one_mul] at e
      exact absurd (e ▸ h0) hq
    · exact g
  refine ⟨⟨hb, by omega, Int.dvd_trans hbn h.dv, fun d a c g => ?_, fun d a c j g => ?_⟩, ?_, hk, ?_⟩
  · by_cases f : d = q
    · subst f; exact hq g
    · exact h.nod d a (by omega) (Int.dvd_trans g hbn)
  · have := h.up d a (by omega) j g
    rw [e] at this
    exact dvd_cop (cop_pow (pr_gcd a hp (by omega)) j k) this
  · refine vl_eq ⟨Int.emod_eq_zero_of_dvd (Int.dvd_trans ⟨b, e⟩ h.dv), fun g => ?_⟩
    have := h.up q hp (Int.le_refl _) (k + 1) (Int.dvd_of_emod_eq_zero g)
    rw [e, Int.pow_succ] at this
    obtain ⟨c, hc⟩ := this
    apply hq
    refine ⟨c, Int.eq_of_mul_eq_mul_left (a := q ^ k) (Int.pow_ne_zero (by omega)) ?_⟩
    rw [hc, Int.mul_assoc]
  · have e2 : q ^ k = q ^ (k - 1) * q := by rw [← Int.pow_succ]; congr 1; omega
    have h3 : 1 ≤ q ^ (k - 1) := (Int.pow_pos (by omega) : 0 < q ^ (k - 1))
    have h4 : 1 * 2 ≤ q ^ (k - 1) * q := Int.mul_le_mul h3 hq2 (by omega) (by omega)
    have h5 := Int.mul_le_mul_of_nonneg_right h4 (show 0 ≤ b by omega)
    rw [e, e2]; omega
theorem Acc.out {N n q b : Int} {k : Nat} {acc : List Int} (ha : Acc N q acc) (h : FI N n q) (h0 : q ∣ n) : Acc N (q + 1) (acc ++ [q]) := by
  have hp := h.prP h0
  refine ⟨?_, fun d => ?_, by have := ha.2.2; simp; omega⟩
  · rw [List.pairwise_append]
    refine ⟨ha.1, by simp, fun x hx y hy => ?_⟩
    obtain rfl : y = q := by simpa using hy
    exact ((ha.2.1 x).1 hx).2.2
  · rw [List.mem_append, ha.2.1]
    constructor
    · rintro (⟨a, b, c⟩ | hd)
      · exact ⟨a, b, by omega⟩
      · obtain rfl : d = q := by simpa using hd
        exact ⟨hp, Int.dvd_trans h0 h.dv, by omega⟩
    · rintro ⟨a, b, c⟩
      by_cases e : d = q
      · right; simp [e]
      · left; exact ⟨a, b, by omega⟩
/-- bounds of the loop -/
def PB (N n p : Int) : Prop := p ≤ N + 1 ∧ (n = 1 ∨ p * p ≤ 3 * N + 4)
theorem PB.start {N : Int} (h : 1 ≤ N) : PB N N 2 := ⟨by omega, .inr (by omega)⟩
theorem PB.next {N n b p : Int} (h0 : 1 ≤ n) (hn : n ≤ N) (h2 : 2 ≤ p) (h : p * p ≤ n) : PB N b (p + 1) := by
  have h1 : 2 * p ≤ p * p := Int.mul_le_mul_of_nonneg_right h2 (by omega)
  refine ⟨by omega, .inr ?_⟩
  have : (p + 1) * (p + 1) = p * p + 2 * p + 1 := by grind
  omega
theorem PB.sq {N n p : Int} (h : PB N n p) (h1 : 1 < n) (h2 : 2 ≤ p) (hN : N ≤ 1000000000000000) : 0 ≤ p * p ∧ p * p ≤ 3000000000000004 ∧ p ≤ 100000000 := by
  rcases h.2 with e | e
  · omega
  · refine ⟨Int.mul_nonneg (by omega) (by omega), by omega, ?_⟩
    rcases Int.lt_or_le p 100000000 with g | g
    · omega
    · have := Int.mul_le_mul g g (by omega) (by omega); omega
/-- the inner loop's state: n = q^k b -/
def TO (n q b : Int) (k : Nat) : Prop := n = q ^ k * b ∧ 1 ≤ b ∧ b ≤ n
theorem TO.start {n q : Int} (h : 1 ≤ n) : TO n q n 0 := ⟨by simp, h, Int.le_refl _⟩
theorem TO.step {n q b : Int} {k : Nat} (h : TO n q b k) (hq : 2 ≤ q) (h0 : b % q = 0) : TO n q (b / q) (k + 1) ∧ b / q < b := by
  obtain ⟨e, h1, h2⟩ := h
  have d := Int.mul_ediv_add_emod b q
  rw [h0, Int.add_zero] at d
  have h3 : 1 ≤ b / q := by
    rcases Int.lt_or_le (b / q) 1 with g | g
    · have := Int.mul_le_mul_of_nonneg_left (show b / q ≤ 0 by omega) (show 0 ≤ q by omega); omega
    · exact g
  have h4 := Int.mul_le_mul_of_nonneg_right hq (show 0 ≤ b / q by omega)
  exact ⟨⟨by rw [e, Int.pow_succ, Int.mul_assoc, d], h3, by omega⟩, by omega⟩
theorem TO.both {N n q b : Int} {k : Nat} (h : TO n q b k) (hf : FI N n q) (h0 : ¬ b % q = 0) : FI N b (q + 1) := by
  have hq : ¬ q ∣ b := fun g => h0 (Int.emod_eq_zero_of_dvd g)
  by_cases c : q ∣ n
  · exact (hf.out c h.1 h.2.1 hq).1
  · have hk : k = 0 := by
      rcases Nat.eq_zero_or_pos k with g | g
      · exact g
      · exfalso; apply c
        rw [h.1, show k = (k - 1) + 1 by omega, Int.pow_succ, Int.mul_assoc]
        exact Int.dvd_trans (Int.dvd_mul_right q b) (Int.dvd_mul_left ..)
    have e := h.1
    rw [hk, Int.pow_zero, Int.one_mul] at e
    rw [← e]; exact hf.skip c
theorem TO.half {N n q b : Int} {k : Nat} (h : TO n q b k) (hf : FI N n q) (h0 : ¬ b % q = 0) (c : q ∣ n) : vl N q = k ∧ 1 ≤ k ∧ 2 * b ≤ n := (hf.out c h.1 h.2.1 (fun g => h0 (Int.emod_eq_zero_of_dvd g))).2
theorem TO.one {n b : Int} {k : Nat} (h : TO n n b k) (hn : 2 ≤ n) (hk : 1 ≤ k) : b = 1 := by
  obtain ⟨e, h1, h2⟩ := h
  have e2 : n ^ k = n ^ (k - 1) * n := by rw [← Int.pow_succ]; congr 1; omega
  have h3 : 1 ≤ n ^ (k - 1) := (Int.pow_pos (by omega) : 0 < n ^ (k - 1))
  have h4 := Int.mul_le_mul_of_nonneg_right h3 (show 0 ≤ n by omega)
  have h5 := Int.mul_le_mul_of_nonneg_right h4 (show 0 ≤ b by omega)
  rw [← e2, Int.one_mul] at h5
  have h6 : n * b ≤ n := by rw [← e] at h5; exact h5
  clear h5 h4 h3 e2 e
  rcases Int.lt_or_le b 2 with g | g
  · omega
  · have := Int.mul_le_mul_of_nonneg_left g (show 0 ≤ n by omega); omega
theorem TO.skip {N n q b : Int} {k : Nat} (h : TO n q b k) (hf : FI N n q) (h0 : ¬ b % q = 0) (c : ¬ q ∣ n) : b = n := by
  have hk : k = 0 := by
    rcases Nat.eq_zero_or_pos k with g | g
    · exact g
    · exfalso; apply c
      rw [h.1, show k = (k - 1) + 1 by omega, Int.pow_succ, Int.mul_assoc]
      exact Int.dvd_trans (Int.dvd_mul_right q b) (Int.dvd_mul_left ..)
  have e := h.1
  rw [hk, Int.pow_zero, Int.one_mul] at e
  exact e.symm

set_option maxRecDepth 100000 in
set_option maxHeartbeats 2000000 in
theorem primesOf_any (N : Int) (h0 : N ≠ 0) (h1 : -1000000000000000 ≤ N) (h2 : N ≤ 1000000000000000) (w : World) : Calls Try.prog 65 #[.int .i64 N] w (GivesOwn (pf (max N (-N))) w) := by
  have hm1 : 1 ≤ max N (-N) := by omega
  have hm2 : max N (-N) ≤ 1000000000000000 := by omega
  have HS := Lib.hid (FI.start hm1)
  have HP := Lib.hid (PB.start hm1)
  have HA := Lib.hid (Acc.start (max N (-N)))
  generalize hM : max N (-N) = M at *
  have HM := Lib.hid hM
  clear hM h0
  go_enter Try.func65, Try.ntmps65
  go_wp2
  rw [HM.out]
  clear HM h1 h2
  go_loopw [0, 3, 4] (fun v0 v3 v4 wr => ∃ (n p : Int) (acc : List Int), v0 = .int .i64 n ∧ v4 = .int .i64 p ∧ FI M n p ∧ Acc M p acc ∧ PB M n p ∧ n ≤ M ∧ Own wr w.heap.size v3 acc ∧ Below w.heap.size w wr) (fun v0 _ v4 _ => (2 * intOf v0 - intOf v4).toNat)
  case atStart => exact ⟨M, 2, [], rfl, rfl, HS.out, HA.out, HP.out, by omega, Own.nil _ _, Below.refl _ _⟩
  case round =>
    clear HS HP HA
    obtain ⟨n, p, acc, rfl, rfl, hfi, hacc, hpb, hnm, hown, hbw⟩ := hrel
    obtain ⟨ca, cc, rfl⟩ := hown.slice
    by_cases hgt : 1 < n
    · have hple := hfi.ple hgt
      have hp2 := hfi.p2
      obtain ⟨b1, b2, b3⟩ := hpb.sq hgt hfi.p2 hm2
      have hal : acc.length ≤ 100000000 := by have := hacc.2.2; omega
      by_cases c1 : p * p ≤ n
      · by_cases c2 : p ∣ n
        · have HA := Lib.hid (hacc.out (k := 0) (b := n) hfi c2)
          have HF := Lib.hid hfi
          have hdv := Lib.hid c2
          have hq2 := hp2
          have c2' : (n % p == 0) = true := by simpa using Int.emod_eq_zero_of_dvd c2
          clear hfi hacc hpb c2

          go_wp2_with (first | (at_builtin; refine wpl_app rfl _ _ rfl w.heap.size _ acc rfl (hown.alloc _) ⟨wr.heap.size, 0, none⟩ 1 p rfl (by simp) (by omega) (Below.alloc hbw hbw.size _) (by have := hbw.size; simp; omega) ?_; intro a1 cc1 w1 hown1 hbw1 hsz1))
          go_loop [0] (fun v0 => ∃ (b : Int) (k : Nat), v0 = .int .i64 b ∧ TO n p b k) (fun v0 => (intOf v0).toNat)
          case atStart => exact ⟨n, 0, rfl, TO.start (by omega)⟩
          case round =>
            obtain ⟨b, k, rfl, hto⟩ := hrel
            have hb1 := hto.2.1
            have hb2 := hto.2.2
            by_cases hd : b % p = 0
            · have hd' : (b % p == 0) = true := by simpa using hd
              have hs := hto.step hq2 hd
              have hs2 := hs.2
              have HS := Lib.hid hs.1
              have hs3 := hs.1.2.1
              clear hs hd hto
              go_wp2
              go_round
              case rel => exact ⟨_, k + 1, rfl, HS.out⟩
              case measure => simp [intOf]; omega
            · have hd' : (b % p == 0) = false := by simpa using hd
              have HF2 := Lib.hid (hto.both HF.out hd)
              obtain ⟨hv1, hv2, hv3⟩ := hto.half HF.out hd hdv.out
              clear hv1
              have HPB := Lib.hid (PB.next (N := M) (n := n) (b := b) (p := p) (by omega) hnm hq2 c1)
              clear hd hto
              go_wp2
              go_roundw
              case rel => exact ⟨b, p + 1, (acc ++ [p]), rfl, rfl, HF2.out, HA.out, HPB.out, by omega, hown1, hbw1⟩
              case measure => simp [intOf]; omega

        · have HA := Lib.hid (hacc.skip hfi c2)
          have HF := Lib.hid hfi
          have hdv := Lib.hid c2
          have hq2 := hp2
          have c2' : (n % p == 0) = false := by simpa using fun g => c2 (Int.dvd_of_emod_eq_zero g)
          clear hfi hacc hpb c2

          go_wp2
          go_loop [0] (fun v0 => ∃ (b : Int) (k : Nat), v0 = .int .i64 b ∧ TO n p b k) (fun v0 => (intOf v0).toNat)
          case atStart => exact ⟨n, 0, rfl, TO.start (by omega)⟩
          case round =>
            obtain ⟨b, k, rfl, hto⟩ := hrel
            have hb1 := hto.2.1
            have hb2 := hto.2.2
            by_cases hd : b % p = 0
            · have hd' : (b % p == 0) = true := by simpa using hd
              have hs := hto.step hq2 hd
              have hs2 := hs.2
              have HS := Lib.hid hs.1
              have hs3 := hs.1.2.1
              clear hs hd hto
              go_wp2
              go_round
              case rel => exact ⟨_, k + 1, rfl, HS.out⟩
              case measure => simp [intOf]; omega
            · have hd' : (b % p == 0) = false := by simpa using hd
              have HF2 := Lib.hid (hto.both HF.out hd)
              have hbn : b = n := hto.skip HF.out hd hdv.out
              subst hbn
              have HPB := Lib.hid (PB.next (N := M) (n := b) (b := b) (p := p) (by omega) hnm hq2 c1)
              clear hd hto
              go_wp2
              go_roundw
              case rel => exact ⟨b, p + 1, acc, rfl, rfl, HF2.out, HA.out, HPB.out, by omega, hown, hbw⟩
              case measure => simp [intOf]; omega

      · have c1' : n < p * p := by omega
        have HF := Lib.hid (hfi.jump hgt c1')
        have HA := Lib.hid ((hacc.jump hfi hgt c1').out (k := 0) (b := n) HF.out (Int.dvd_refl n))
        have hdv := Lib.hid (Int.dvd_refl n)
        have hq2 : 2 ≤ n := by omega
        clear hfi hacc hpb c1

        go_wp2_with (first | (at_builtin; refine wpl_app rfl _ _ rfl w.heap.size _ acc rfl (hown.alloc _) ⟨wr.heap.size, 0, none⟩ 1 n rfl (by simp) (by omega) (Below.alloc hbw hbw.size _) (by have := hbw.size; simp; omega) ?_; intro a1 cc1 w1 hown1 hbw1 hsz1))
        go_loop [0] (fun v0 => ∃ (b : Int) (k : Nat), v0 = .int .i64 b ∧ TO n n b k) (fun v0 => (intOf v0).toNat)
        case atStart => exact ⟨n, 0, rfl, TO.start (by omega)⟩
        case round =>
          obtain ⟨b, k, rfl, hto⟩ := hrel
          have hb1 := hto.2.1
          have hb2 := hto.2.2
          by_cases hd : b % n = 0
          · have hd' : (b % n == 0) = true := by simpa using hd
            have hs := hto.step hq2 hd
            have hs2 := hs.2
            have HS := Lib.hid hs.1
            have hs3 := hs.1.2.1
            clear hs hd hto
            go_wp2
            go_round
            case rel => exact ⟨_, k + 1, rfl, HS.out⟩
            case measure => simp [intOf]; omega
          · have hd' : (b % n == 0) = false := by simpa using hd
            have HF2 := Lib.hid (hto.both HF.out hd)
            obtain ⟨hv1, hv2, hv3⟩ := hto.half HF.out hd hdv.out
            clear hv1
            have hbe : b = 1 := hto.one (by omega) hv2
            have HPB := Lib.hid (show PB M b (n + 1) from ⟨by omega, .inl hbe⟩)
            clear hbe
            clear hd hto
            go_wp2
            go_roundw
            case rel => exact ⟨b, n + 1, (acc ++ [n]), rfl, rfl, HF2.out, HA.out, HPB.out, by omega, hown1, hbw1⟩
            case measure => simp [intOf]; omega

    · have HE := Lib.hid (hfi.done hgt hacc)
      clear hfi hacc hpb
      go_wp2
      go_ret
      rw [HE.out]
      exact ⟨_, _, _, rfl, hown, hbw⟩

end Go.Proofs.Ytldmledjdcphmaa
