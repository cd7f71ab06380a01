import Derived.Test.YtldmledjdcphmaaGp
set_option linter.unusedSimpArgs false
set_option linter.unusedVariables false
namespace Go.Proofs.Ytldmledjdcphmaa
open Go.RowKit
/-! ### squarefree divisors: no program in sight -/

def dvS (out : List Int) (p : Int) : List Int := out ++ out.map (· * p)
def dvP (out : List Int) (p : Int) : List Int := (out.map (· * p)).foldl putL out
structure DI (M : Nat) (rest out : List Int) : Prop where
  nd : out.Nodup
  el : ∀ d ∈ out, d ≠ 0 ∧ d.natAbs * prodN rest ≤ M ∧ (∀ p ∈ rest, Nat.Coprime d.natAbs p.natAbs) ∧ Sqz d
  len : out.length * prodN rest ≤ 2 * M
theorem DI.start {M : Nat} {ps : List Int} (h : prodN ps ≤ M) : DI M ps [-1, 1] := by
  refine ⟨by decide, fun d hd => ?_, by simp; omega⟩
  have hd2 : d.natAbs = 1 := by
    rcases List.mem_cons.1 hd with rfl | hd
    · rfl
    · rw [List.mem_singleton.1 hd]; rfl
  refine ⟨fun e => by rw [e] at hd2; exact absurd hd2 (by decide), by rw [hd2]; omega, fun p _ => by rw [hd2]; exact Nat.coprime_one_left _, ?_⟩
  unfold Sqz
  rw [hd2]
  exact sqz_one
theorem DI.next {M : Nat} {p : Int} {rest out : List Int} (h : DI M (p :: rest) out) (hp : Pr p) (hr : ∀ q ∈ rest, Pr q ∧ p < q) : DI M rest (dvS out p) := by
  have p2 := hp.1
  have hpos := prodN_pos rest (fun q hq => (hr q hq).1)
  have hle : ∀ d ∈ out, d.natAbs * prodN rest ≤ M := fun d hd => by
    refine Nat.le_trans ?_ (h.el d hd).2.1
    show d.natAbs * prodN rest ≤ d.natAbs * (p.natAbs * prodN rest)
    exact Nat.mul_le_mul_left _ (Nat.le_mul_of_pos_left _ (by omega))
  refine ⟨?_, ?_, ?_⟩
  · unfold dvS
    rw [List.nodup_append]
    refine ⟨h.nd, ?_, ?_⟩
    · rw [List.nodup_iff_pairwise_ne, List.pairwise_map]
      refine (List.nodup_iff_pairwise_ne.1 h.nd).imp ?_
      intro a b hab e
      exact hab (Int.eq_of_mul_eq_mul_right (by omega) e)
    · intro a ha b hb e
      obtain ⟨d, hd, rfl⟩ := List.mem_map.1 hb
      have hc := (h.el a ha).2.2.1 p List.mem_cons_self
      have : p.natAbs ∣ a.natAbs := by rw [e, Int.natAbs_mul]; exact Nat.dvd_mul_left _ _
      have h1 := Nat.Coprime.eq_one_of_dvd hc.symm this
      omega
  · intro d hd
    rcases List.mem_append.1 hd with hd | hd
    · exact ⟨(h.el d hd).1, hle d hd, fun q hq => (h.el d hd).2.2.1 q (List.mem_cons_of_mem _ hq), (h.el d hd).2.2.2⟩
    · obtain ⟨c, hc, rfl⟩ := List.mem_map.1 hd
      obtain ⟨c1, c2, c3, c4⟩ := h.el c hc
      refine ⟨Int.mul_ne_zero c1 (by omega), ?_, fun q hq => ?_, ?_⟩
      · show (c * p).natAbs * prodN rest ≤ M
        rw [Int.natAbs_mul, Nat.mul_assoc]; exact c2
      · show Nat.Coprime (c * p).natAbs q.natAbs
        rw [Int.natAbs_mul]
        exact Nat.Coprime.mul_left (c3 q (List.mem_cons_of_mem _ hq)) (pr_gcd hp (hr q hq).1 (fun e => by have := (hr q hq).2; omega))
      · show SqN (c * p).natAbs
        rw [Int.natAbs_mul]
        exact sqn_mul c4 (sqn_pr hp) (c3 p List.mem_cons_self)
  · have h1 := h.len
    have e : out.length * prodN (p :: rest) = out.length * (p.natAbs * prodN rest) := rfl
    rw [e] at h1
    refine Nat.le_trans ?_ h1
    rw [show (dvS out p).length = out.length * 2 by unfold dvS; simp; omega, Nat.mul_assoc]
    exact Nat.mul_le_mul_left _ (Nat.mul_le_mul_right _ (by omega))
theorem foldl_putL : ∀ (ns out : List Int), out.Pairwise (· < ·) → (ns.foldl putL out).Pairwise (· < ·) ∧ ∀ y, y ∈ ns.foldl putL out ↔ y ∈ out ∨ y ∈ ns
  | [], out, h => ⟨h, fun y => by simp⟩
  | n :: ns, out, h => by
    obtain ⟨h1, h2⟩ := foldl_putL ns (putL out n) (srt_putL out n h)
    refine ⟨h1, fun y => ?_⟩
    rw [List.foldl_cons, h2, mem_putL, List.mem_cons]
    constructor
    · rintro ((h | h) | h) <;> simp [h]
    · rintro (h | h | h) <;> simp [h]
theorem Same2.dv {S T : List Int} (h : Same2 S T) (p : Int) : Same2 (dvS S p) (dvP T p) := by
  obtain ⟨h1, h2⟩ := foldl_putL (T.map (· * p)) T h.1
  refine ⟨h1, fun x => ?_⟩
  unfold dvP dvS
  rw [h2, List.mem_append, h.2, List.mem_map, List.mem_map]
  constructor <;> rintro (q | ⟨y, hy, q⟩)
  · exact .inl q
  · exact .inr ⟨y, (h.2 y).1 hy, q⟩
  · exact .inl q
  · exact .inr ⟨y, (h.2 y).2 hy, q⟩
def dvs (ps : List Int) : List Int := ps.foldl dvS [-1, 1]
def dvp (ps : List Int) : List Int := ps.foldl dvP [-1, 1]
theorem dv_go {M : Nat} : ∀ (ps S T : List Int), DI M ps S → Same2 S T → ps.Pairwise (· < ·) → (∀ p ∈ ps, Pr p) → DI M [] (ps.foldl dvS S) ∧ Same2 (ps.foldl dvS S) (ps.foldl dvP T)
  | [], S, T, h, hs, _, _ => ⟨h, hs⟩
  | p :: ps, S, T, h, hs, hl, hp => by
    rw [List.pairwise_cons] at hl
    exact dv_go ps _ _ (h.next (hp p List.mem_cons_self) (fun q hq => ⟨hp q (List.mem_cons_of_mem _ hq), hl.1 q hq⟩)) (hs.dv p) hl.2 (fun q hq => hp q (List.mem_cons_of_mem _ hq))
theorem pf_prod {N : Int} (h : 1 ≤ N) : prodN (pf N) ≤ N.natAbs := Nat.le_of_dvd (by omega) (prodN_dvd (pf N) (pf_ex h).1 (fun p hp => ((pf_ex h).2 p).1 hp)).1
theorem dvs_dvp {N : Int} (h : 1 ≤ N) : DI N.natAbs [] (dvs (pf N)) ∧ Same2 (dvs (pf N)) (dvp (pf N)) :=
  dv_go _ _ _ (DI.start (pf_prod h)) ⟨by decide, fun x => Iff.rfl⟩ (pf_ex h).1 (fun p hp => (((pf_ex h).2 p).1 hp).1)
/-- A sorted list with the same elements, none twice. -/
theorem srt_perm {S T R : List Int} (h : Same2 S T) (hn : S.Nodup) (hp : R.Perm S) (hs : R.Pairwise (· ≤ ·)) : R = T := by
  have hn2 : R.Nodup := hp.nodup_iff.2 hn
  refine srt_ext R T ?_ h.1 (fun d => by rw [h.2]; exact hp.mem_iff)
  have := (List.nodup_iff_pairwise_ne.1 hn2).and hs
  exact this.imp (fun h => by omega)

theorem pr_ex : ∀ (n : Nat), 2 ≤ n → ∃ r : Int, Pr r ∧ r ∣ (n : Int) := by
  intro n
  induction n using Nat.strongRecOn with
  | ind n ih =>
    intro h
    by_cases hp : Pr (n : Int)
    · exact ⟨n, hp, Int.dvd_refl _⟩
    · have : ∃ d : Int, 2 ≤ d ∧ d * d ≤ n ∧ (n : Int) % d = 0 := by
        refine Classical.byContradiction fun hc => hp ⟨by omega, fun d h1 h2 h3 => hc ⟨d, h1, h2, h3⟩⟩
      obtain ⟨d, d1, d2, d3⟩ := this
      have hdd : d * 2 ≤ d * d := Int.mul_le_mul_of_nonneg_left d1 (by omega)
      obtain ⟨r, r1, r2⟩ := ih d.toNat (by omega) (by omega)
      refine ⟨r, r1, Int.dvd_trans r2 ?_⟩
      rw [Int.toNat_of_nonneg (by omega)]
      exact Int.dvd_of_emod_eq_zero d3
theorem mem_dvd_prodN : ∀ (l : List Int) (p : Int), p ∈ l → p.natAbs ∣ prodN l
  | [], p, h => by cases h
  | q :: l, p, h => by
    rcases List.mem_cons.1 h with rfl | h
    · exact Nat.dvd_mul_right _ _
    · exact Nat.dvd_trans (mem_dvd_prodN l p h) (Nat.dvd_mul_left _ _)
theorem prodN_sqz {N : Int} (h : Sqz N) : prodN (pf (max N (-N))) = N.natAbs := by
  have h0 : N ≠ 0 := fun e => h.1 (by rw [e]; rfl)
  have hM : 1 ≤ max N (-N) := by omega
  have hpf := pf_ex hM
  have hd := (prodN_dvd (M := max N (-N)) (pf (max N (-N))) hpf.1 (fun p hp => (hpf.2 p).1 hp)).1
  have e : (max N (-N)).natAbs = N.natAbs := by omega
  rw [e] at hd
  obtain ⟨q, hq⟩ := hd
  rcases Nat.lt_or_ge q 2 with g | g
  · rcases Nat.eq_zero_or_pos q with g0 | g1
    · subst g0; exact absurd hq h.1
    · have : q = 1 := by omega
      subst this; omega
  · exfalso
    obtain ⟨r, r1, r2⟩ := pr_ex q g
    have r2' : r.natAbs ∣ q := Int.natAbs_dvd_natAbs.2 r2
    have hrN : r.natAbs ∣ N.natAbs := by rw [hq]; exact Nat.dvd_trans r2' (Nat.dvd_mul_left _ _)
    have hm : r ∈ pf (max N (-N)) := (hpf.2 r).2 ⟨r1, Int.natAbs_dvd_natAbs.1 (by rw [e]; exact hrN)⟩
    have h2 := h.2 r.natAbs (by rw [hq]; exact Nat.mul_dvd_mul (mem_dvd_prodN _ _ hm) r2')
    have := r1.1
    omega
theorem vl_one {N p : Int} (h : Sqz N) (hp : Pr p) (hd : p ∣ N) : vl N p = 1 := by
  refine vl_eq ⟨by rw [Int.pow_succ, Int.pow_zero, Int.one_mul]; exact Int.emod_eq_zero_of_dvd hd, fun g => ?_⟩
  have h1 := Int.dvd_of_emod_eq_zero g
  rw [show p ^ (1 + 1) = p * p by rw [Int.pow_succ, Int.pow_succ, Int.pow_zero, Int.one_mul]] at h1
  have h2 := h.2 p.natAbs (by rw [← Int.natAbs_mul]; exact Int.natAbs_dvd_natAbs.2 h1)
  have := hp.1
  omega
theorem sqS_all {N : Int} : ∀ (l : List Int) (s : Int), (∀ p ∈ l, Pr p ∧ vl N p = 1) → s.natAbs * prodN l ≤ 1000000000000000 → sqS N s l = s * (prodN l : Int)
  | [], s, _, _ => by simp [sqS, prodN]
  | p :: l, s, h, hb => by
    obtain ⟨p1, p2⟩ := h p List.mem_cons_self
    have hl := prodN_pos l (fun x hx => (h x (List.mem_cons_of_mem _ hx)).1)
    have hsp : s.natAbs * p.natAbs ≤ 1000000000000000 := by
      refine Nat.le_trans ?_ hb
      show s.natAbs * p.natAbs ≤ s.natAbs * (p.natAbs * prodN l)
      exact Nat.mul_le_mul_left _ (Nat.le_mul_of_pos_right _ hl)
    have e : wrap64 (s * p) = s * p := win (by have := Int.natAbs_mul s p; omega)
    unfold sqS
    rw [p2, if_pos (by decide), e, sqS_all l _ (fun x hx => h x (List.mem_cons_of_mem _ hx)) (by rw [Int.natAbs_mul, Nat.mul_assoc]; exact hb)]
    have := p1.1
    show s * p * (prodN l : Int) = s * ((p.natAbs * prodN l : Nat) : Int)
    rw [Int.natCast_mul, show ((p.natAbs : Nat) : Int) = p by omega, Int.mul_assoc]
theorem sqf_id {N : Int} (h : Sqz N) (h2 : N.natAbs ≤ 1000000000000000) : sqf N = N := by
  have h0 : N ≠ 0 := fun e => h.1 (by rw [e]; rfl)
  have hM : 1 ≤ max N (-N) := by omega
  have hpf := pf_ex hM
  have e := prodN_sqz h
  unfold sqf
  rw [sqS_all _ _ (fun p hp => ?_) (by rw [e]; split <;> simp <;> omega), e]
  · split <;> omega
  · obtain ⟨q1, q2⟩ := (hpf.2 p).1 hp
    refine ⟨q1, vl_one h q1 ?_⟩
    rcases Int.lt_or_le N 0 with g | g
    · rw [show max N (-N) = -N by omega] at q2; exact Int.dvd_neg.1 q2
    · rwa [show max N (-N) = N by omega] at q2
theorem sqS_le {N : Int} (M : Nat) (hM : M ≤ 1000000000000000) : ∀ (l : List Int) (s : Int), (∀ p ∈ l, Pr p) → s.natAbs * prodN l ≤ M → (sqS N s l).natAbs ≤ M
  | [], s, _, hb => by simpa [sqS, prodN] using hb
  | p :: l, s, hp, hb => by
    have p1 := hp p List.mem_cons_self
    have hl := prodN_pos l (fun x hx => hp x (List.mem_cons_of_mem _ hx))
    have hsp : s.natAbs * p.natAbs ≤ M := by
      refine Nat.le_trans ?_ hb
      show s.natAbs * p.natAbs ≤ s.natAbs * (p.natAbs * prodN l)
      exact Nat.mul_le_mul_left _ (Nat.le_mul_of_pos_right _ hl)
    unfold sqS
    split
    · rw [win (n := s * p) (by have := Int.natAbs_mul s p; omega)]
      exact sqS_le M hM l _ (fun x hx => hp x (List.mem_cons_of_mem _ hx)) (by rw [Int.natAbs_mul, Nat.mul_assoc]; exact hb)
    · refine sqS_le M hM l s (fun x hx => hp x (List.mem_cons_of_mem _ hx)) (Nat.le_trans ?_ hb)
      show s.natAbs * prodN l ≤ s.natAbs * (p.natAbs * prodN l)
      exact Nat.mul_le_mul_left _ (Nat.le_mul_of_pos_left _ (by have := p1.1; omega))
theorem sqf_rng {N : Int} (h0 : N ≠ 0) (h2 : N.natAbs ≤ 1000000000000000) : (sqf N).natAbs ≤ N.natAbs := by
  have hM : 1 ≤ max N (-N) := by omega
  have hpf := pf_ex hM
  have hd := Nat.le_of_dvd (by omega) (prodN_dvd (M := max N (-N)) (pf (max N (-N))) hpf.1 (fun p hp => (hpf.2 p).1 hp)).1
  unfold sqf
  refine sqS_le N.natAbs h2 _ _ (fun p hp => ((hpf.2 p).1 hp).1) ?_
  split <;> simp <;> omega
theorem clB_of {d : Int} (h : Sqz d) (h2 : d.natAbs ≤ 1000000) : clB d = true := by
  have h0 : d ≠ 0 := fun e => h.1 (by rw [e]; rfl)
  unfold clB
  rw [sqf_id h (by omega)]
  simp [inB_iff, h0]
  omega
theorem clB_sqf {N : Int} (h0 : N ≠ 0) (h2 : N.natAbs ≤ 1000000) : clB (sqf N) = true := clB_of (sqf_sq h0 (by omega) (by omega)) (Nat.le_trans (sqf_rng h0 (by omega)) h2)

end Go.Proofs.Ytldmledjdcphmaa
