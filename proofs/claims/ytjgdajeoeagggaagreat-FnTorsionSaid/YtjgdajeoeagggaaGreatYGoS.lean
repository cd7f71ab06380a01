import Derived.Test.YtjgdajeoeagggaaGreatYGoR
import Derived.Test.YtjgdajeoeagggaaGreatYK12
import Derived.Test.YtjgdajeoeagggaaGreatYPtG
import Derived.Test.YtjgdajeoeagggaaGreatYMlA
set_option linter.unusedSimpArgs false
set_option linter.unusedVariables false
namespace Go.Proofs.YtjgdajeoeagggaaGreat
open Go.RowKit
/-! ### what the told shape says of the generators; bounds -/
theorem gm_eq (A B : Int) : gmL A (tps A B) 0 = gmV A B := by
  obtain ⟨L, hL, -⟩ := tps_zero A B
  unfold gmV
  rw [hL, gmL_cons, gmL_cons, ordV_zero]
  rfl
theorem told_at {A B : Int} (hC : isC A B = true) {n0 : Nat} {p0 : P3} (m0 : p0 ∈ tps A B) (t0 : Tor A B p0 n0) (e1 : gmV A B = n0) :
    (∀ p ∈ tps A B, ∃ n, Tor A B p n ∧ n ∣ n0) ∧
    (((∀ x, x ∈ tQ A B → x ∈ TB.cyc none (EC.add (A : Rat)) (EC.toQ p0) n0) ∧ (tps A B).length = n0) ∨
      ∃ s, s ∈ tQ A B ∧ s ∉ TB.cyc none (EC.add (A : Rat)) (EC.toQ p0) n0 ∧ EC.add (A : Rat) s s = none ∧ 2 ∣ n0 ∧ (tps A B).length = 2 * n0 ∧ ∀ x, x ∈ tQ A B → x ∈ TB.cyc none (EC.add (A : Rat)) (EC.toQ p0) n0 ∨ EC.add (A : Rat) x s ∈ TB.cyc none (EC.add (A : Rat)) (EC.toQ p0) n0) := by
  have hT := tQ_TG hC (tps_nodup A B)
  have hlen : (tQ A B).length = (tps A B).length := by unfold tQ; simp
  have h13 : (tQ A B).length ≤ 13 := by rw [hlen]; exact tps_le hC (tps_nodup A B)
  have tor : ∀ p ∈ tps A B, ∃ n, Tor A B p n := fun p hp => tor_of (tps_PV hC p hp) ((mem_tps hC (tps_PV hC p hp)).1 hp)
  have hge := gmL_ge A (tps A B) 0
  rw [gm_eq] at hge
  have mq0 : EC.toQ p0 ∈ tQ A B := List.mem_map.2 ⟨p0, m0, rfl⟩
  have o0 := ord_Ord t0
  have hmax : ∀ g, g ∈ tQ A B → ∀ n, TB.Ord none (EC.add (A : Rat)) g n → n ≤ n0 := by
    intro g hg n o
    obtain ⟨p, mp, rfl⟩ := List.mem_map.1 hg
    obtain ⟨m, t⟩ := tor p mp
    have e2 := ord_same hT hg o (ord_Ord t)
    have := hge.2 p mp
    rw [t.ord] at this
    omega
  refine ⟨fun p mp => ?_, ?_⟩
  · obtain ⟨m, t⟩ := tor p mp
    exact ⟨m, t, TB.max_dvd hT h13 mq0 o0 hmax (List.mem_map.2 ⟨p, mp, rfl⟩) (ord_Ord t)⟩
  · have := TB.struct hT h13 mq0 o0 hmax
    rw [hlen] at this
    exact this
/-- The first told point of the greatest order. -/
theorem tgF_tor {A B : Int} (hC : isC A B = true) : ∃ n0 : Nat, tgF A B ∈ tps A B ∧ Tor A B (tgF A B) n0 ∧ gmV A B = n0 ∧ 1 ≤ n0 ∧ n0 ≤ 12 := by
  have h1 := List.mem_of_find?_eq_some (tg_find (A := A) (B := B))
  have h2 := List.find?_some (tg_find (A := A) (B := B))
  obtain ⟨n, t⟩ := tps_tor hC h1
  exact ⟨n, h1, t, by rw [← t.ord]; exact (by simpa using h2 : (ordV A (tgF A B)).1 = gmV A B).symm, t.lo, t.hi⟩
theorem ml_cyc {A B : Int} (hC : isC A B = true) {p q : P3} {n : Nat} (hp : p ∈ tps A B) (t : Tor A B p n) (h : q ∈ mlL A p n) : EC.toQ q ∈ TB.cyc none (EC.add (A : Rat)) (EC.toQ p) n := by
  have hT := tQ_TG hC (tps_nodup A B)
  unfold mlL at h
  obtain ⟨k, hk, hq⟩ := List.mem_filterMap.1 h
  rw [List.mem_range] at hk
  obtain ⟨q', e, -, e2⟩ := t.some_ (j := k + 1) (by omega)
  rw [hq] at e
  obtain rfl := Option.some.inj e
  rw [e2, ← nm_nmul]
  exact TB.cyc_mem hT (List.mem_map.2 ⟨p, hp, rfl⟩) (ord_Ord t) _
/-- The told shape, in numbers. -/
theorem shape_fact {A B : Int} (hC : isC A B = true) : ∃ f n : Nat, gmV A B = n ∧ 1 ≤ n ∧ n ≤ 12 ∧ (tps A B).length = f * n ∧ (f = 1 ∨ f = 2 ∧ 2 ∣ n) ∧ ((((tps A B).length : Nat) : Int).tdiv (gmV A B)) = f ∧
    ((tgPs A B).length = if n = 1 then 0 else f) := by
  obtain ⟨n, m0, t0, e1, l1, l2⟩ := tgF_tor hC
  obtain ⟨hall, hs⟩ := told_at hC m0 t0 e1
  have hT := tQ_TG hC (tps_nodup A B)
  have hdiv : ∀ f : Nat, ((f * n : Nat) : Int).tdiv (n : Int) = f := by
    intro f
    rw [Int.natCast_mul, Int.mul_tdiv_cancel _ (by omega)]
  rcases hs with ⟨hs1, hs2⟩ | ⟨s, s1, s2, s3, s4, s5, s6⟩
  · refine ⟨1, n, e1, l1, l2, by omega, .inl rfl, by rw [e1, hs2]; have := hdiv 1; rwa [Nat.one_mul] at this, ?_⟩
    unfold tgPs
    rw [e1, hs2]
    by_cases g : n = 1
    · rw [if_pos (show (n : Int) = 1 by omega), if_pos g]; rfl
    · rw [if_neg (show ¬ (n : Int) = 1 by omega), if_neg g, if_neg (show ¬ (n : Int) < (n : Nat) by omega)]; rfl
  · have hn2 : 2 ≤ n := Nat.le_of_dvd (by omega) s4
    refine ⟨2, n, e1, l1, l2, s5, .inr ⟨rfl, s4⟩, by rw [e1, s5]; exact hdiv 2, ?_⟩
    unfold tgPs
    rw [e1, s5, if_neg (show ¬ (n : Int) = 1 by omega), if_neg (show ¬ n = 1 by omega), if_pos (show (n : Int) < ((2 * n : Nat) : Int) by omega)]
    -- the point of order two outside the multiples is found
    obtain ⟨p, mp, rfl⟩ := List.mem_map.1 s1
    obtain ⟨k, tk, -⟩ := hall p mp
    have ok := ord_Ord tk
    have hz : TB.nm none (EC.add (A : Rat)) 2 (EC.toQ p) = none := by
      show EC.add (A : Rat) (EC.add (A : Rat) none (EC.toQ p)) (EC.toQ p) = none
      rw [EC.zero_add]; exact s3
    have k2 : k ∣ 2 := ok.dvd hT s1 hz
    have k1 : k ≠ 1 := by
      rintro rfl
      apply s2
      have e : EC.toQ p = none := by have := ok.fin; rw [TB.TG.nm_one hT s1] at this; exact this
      rw [e]
      exact (TB.cyc_iff hT (List.mem_map.2 ⟨_, m0, rfl⟩) (ord_Ord t0) _).2 ⟨0, rfl⟩
    have kk : k = 2 := by
      have := Nat.le_of_dvd (by omega) k2
      have := tk.lo
      omega
    subst kk
    have hfound : tgH A (mlL A (tgF A B) (n : Int).toNat) p = true := by
      unfold tgH
      rw [Bool.and_eq_true]
      refine ⟨by rw [tk.ord]; rfl, ?_⟩
      rw [Int.toNat_natCast]
      have : ¬ p ∈ mlL A (tgF A B) n := fun h => s2 (ml_cyc hC m0 t0 h)
      simpa using this
    have : ((tps A B).find? (tgH A (mlL A (tgF A B) (n : Int).toNat))).isSome = true := by
      rw [List.find?_isSome]; exact ⟨p, mp, hfound⟩
    obtain ⟨r, hr⟩ := Option.isSome_iff_exists.1 this
    rw [hr]; rfl
theorem gcdF_dvd (a b : Int) : ∀ (l : List Int) (d : Int), l.foldl (fun d p => (Int.gcd d (cnt a b p) : Int)) d ∣ d ∧ ∀ p ∈ l, l.foldl (fun d p => (Int.gcd d (cnt a b p) : Int)) d ∣ cnt a b p
  | [], d => ⟨Int.dvd_refl _, fun p hp => by cases hp⟩
  | q :: l, d => by
    obtain ⟨h1, h2⟩ := gcdF_dvd a b l (Int.gcd d (cnt a b q) : Int)
    refine ⟨Int.dvd_trans h1 (Int.gcd_dvd_left _ _), fun p hp => ?_⟩
    rcases List.mem_cons.1 hp with rfl | hp
    · exact Int.dvd_trans h1 (Int.gcd_dvd_right _ _)
    · exact h2 p hp
theorem tbV_dvd {a b k p : Int} (h : p ∈ gpl a b k) : tbV a b k ∣ cnt a b p := (gcdF_dvd a b _ 0).2 p h
theorem tbV_pos {a b k : Int} (hC : isC a b = true) (h1 : 1 ≤ k) (h2 : k ≤ 8) : 1 ≤ tbV a b k ∧ tbV a b k ≤ 2000 := by
  have hl := gpl_len hC (k := k) (by omega) h2
  have h0 := tbT_bd a b k (gpl a b k).length
  rw [tbT_all _ _ _ _ (Nat.le_refl _)] at h0
  refine ⟨?_, h0.2⟩
  have hlt : 0 < (gpl a b k).length := by omega
  obtain ⟨p, hp⟩ : ∃ p, p ∈ gpl a b k := ⟨(gpl a b k)[0], List.getElem_mem hlt⟩
  have hd := tbV_dvd hp
  have hm := gpl_mem hp
  have hc := cnt_bd a b p (by omega)
  rcases Int.lt_or_le 0 (tbV a b k) with g | g
  · omega
  · have e : tbV a b k = 0 := by omega
    rw [e] at hd
    have := Int.zero_dvd.1 hd
    omega
theorem mod_zero_of {a b : Int} (h : b ∣ a) : a % b = 0 := Int.emod_eq_zero_of_dvd h
end Go.Proofs.YtjgdajeoeagggaaGreat
