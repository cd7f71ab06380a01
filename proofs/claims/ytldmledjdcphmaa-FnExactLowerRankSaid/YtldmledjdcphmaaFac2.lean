import Derived.Test.YtldmledjdcphmaaOwnL
import Derived.Test.YtldmledjdcphmaaFac
import Derived.Test.YtldmledjdcphmaaFracA
set_option linter.unusedSimpArgs false
set_option linter.unusedVariables false
namespace Go.Proofs.Ytldmledjdcphmaa
open Go.RowKit
/-! ### prime factors with their exponents; squarefree parts; classes -/

theorem TO.ex {n q : Int} (h : 1 ≤ n) (hq : 2 ≤ q) : ∃ (b : Int) (k : Nat), TO n q b k ∧ ¬ b % q = 0 := by
  have key : ∀ (m : Nat) (b : Int) (k : Nat), b.toNat ≤ m → TO n q b k → ∃ (b : Int) (k : Nat), TO n q b k ∧ ¬ b % q = 0 := by
    intro m
    induction m with
    | zero => intro b k hb ht; have := ht.2.1; omega
    | succ m ih =>
      intro b k hb ht
      by_cases c : b % q = 0
      · have s := ht.step hq c
        exact ih _ _ (by have := s.2; have := s.1.2.1; omega) s.1
      · exact ⟨b, k, ht, c⟩
  exact key _ n 0 (Nat.le_refl _) (TO.start h)
theorem TO.val {n q b : Int} {k : Nat} (h : TO n q b k) (hq : 2 ≤ q) (h0 : ¬ b % q = 0) : vl n q = k := by
  refine vl_eq ⟨by rw [h.1]; exact Int.mul_emod_right _ _, fun g => h0 ?_⟩
  rw [h.1, Int.pow_succ] at g
  obtain ⟨c, hc⟩ := Int.dvd_of_emod_eq_zero g
  refine Int.emod_eq_zero_of_dvd ⟨c, Int.eq_of_mul_eq_mul_left (a := q ^ k) (Int.pow_ne_zero (by omega)) ?_⟩
  rw [← hc.trans (Int.mul_assoc _ _ _)]
theorem pow_ge1 {p : Int} (hp : 2 ≤ p) (k : Nat) : (k : Int) + 1 ≤ p ^ k := by
  induction k with
  | zero => simp
  | succ n ih => rw [Int.pow_succ]; have h0 : 0 ≤ p ^ n := Int.pow_nonneg (by omega); have := Int.mul_le_mul_of_nonneg_left hp h0; omega
theorem TO.kle {n q b : Int} {k : Nat} (h : TO n q b k) (hq : 2 ≤ q) : (k : Int) ≤ n := by
  have h1 := pow_ge1 hq k
  have h2 := Int.mul_le_mul_of_nonneg_left h.2.1 (show 0 ≤ q ^ k by omega)
  rw [← h.1] at h2; omega
/-- on the way back: j factors are still to come out -/
def TI (n q b c : Int) (j : Nat) : Prop := c = q ^ j * b ∧ 1 ≤ c ∧ c ≤ n
theorem TI.start {n q b : Int} {k : Nat} (h : TO n q b k) (hn : 1 ≤ n) : TI n q b n k := ⟨h.1, hn, Int.le_refl _⟩
theorem TI.step {n q b c : Int} {j : Nat} (h : TI n q b c (j + 1)) (hq : 2 ≤ q) (hb : 1 ≤ b) : TI n q b (c / q) j := by
  obtain ⟨e, h1, h2⟩ := h
  have e2 : c = q * (q ^ j * b) := by rw [e, Int.pow_succ]; grind
  have e3 : c / q = q ^ j * b := by rw [e2]; exact Int.mul_ediv_cancel_left _ (by omega)
  have h3 : 1 ≤ q ^ j := (Int.pow_pos (by omega) : 0 < q ^ j)
  have h4 := Int.mul_le_mul h3 hb (by omega) (by omega)
  have h5 := Int.mul_le_mul_of_nonneg_right hq (show 0 ≤ q ^ j * b by omega)
  exact ⟨e3, by omega, by omega⟩
theorem TI.end_ {n q b c : Int} (h : TI n q b c 0) : c = b := by have := h.1; simpa using this
/-- the factors with their exponents -/
noncomputable def fcl (N : Int) : List (List Int) := (pf N).map fun p => [p, (vl N p : Int)]
noncomputable def fcr (N : Int) (acc : List Int) : List (List Int) := acc.map fun p => [p, (vl N p : Int)]
theorem fcr_len (N : Int) (acc : List Int) : (fcr N acc).length = acc.length := by simp [fcr]
theorem fcr_snoc (N : Int) (acc : List Int) (p : Int) (k : Nat) (h : vl N p = k) : fcr N acc ++ [[p, (k : Int)]] = fcr N (acc ++ [p]) := by simp [fcr, h]
/-- the squarefree part -/
noncomputable def sqS (N : Int) (s : Int) : List Int → Int
  | [] => s
  | p :: ps => sqS N (if (vl N p : Int) % 2 = 1 then wrap64 (s * p) else s) ps
noncomputable def sqf (N : Int) : Int := sqS N (if N < 0 then -1 else 1) (pf (max N (-N)))
theorem neg_mod0 (a m : Int) : (-a) % m = 0 ↔ a % m = 0 := ⟨fun h => Int.emod_eq_zero_of_dvd (Int.dvd_neg.1 (Int.dvd_of_emod_eq_zero h)), fun h => Int.emod_eq_zero_of_dvd (Int.dvd_neg.2 (Int.dvd_of_emod_eq_zero h))⟩
theorem vl_neg (N p : Int) : vl (-N) p = vl N p := by
  have : IsVal (-N) p = IsVal N p := by funext k; simp [IsVal, neg_mod0]
  unfold vl; rw [this]
theorem vl_abs (N p : Int) : vl (max N (-N)) p = vl N p := by
  rcases Int.lt_or_le N 0 with g | g
  · rw [show max N (-N) = -N by omega]; exact vl_neg N p
  · rw [show max N (-N) = N by omega]
theorem pf_ge {N p : Int} (h1 : 1 ≤ N) (h2 : N ≤ 1000000000000000) (hp : p ∈ pf N) (hl : ∃ l, IsPf N l) : 2 ≤ p ∧ p ≤ N := by
  obtain ⟨l, hl⟩ := hl
  rw [pf_eq hl, hl.2] at hp
  exact ⟨hp.1.1, Int.le_of_dvd (by omega) hp.2⟩


set_option maxRecDepth 100000 in
set_option maxHeartbeats 2000000 in
theorem mdFactors_any (M : Int) (hm1 : 1 ≤ M) (hm2 : M ≤ 1000000000000000) (w : World) : Calls Try.prog 62 #[.int .i64 M] w (GivesLL (fcl M) w) := by
  have HS := Lib.hid (FI.start hm1)
  have HP := Lib.hid (PB.start hm1)
  have HA := Lib.hid (Acc.start M)
  go_enter Try.func62, Try.ntmps62
  go_wp2
  go_loopw [0, 3, 4] (fun v0 v3 v4 wr => ∃ (n p : Int) (acc : List Int), v0 = .int .i64 n ∧ v4 = .int .i64 p ∧ FI M n p ∧ Acc M p acc ∧ PB M n p ∧ n ≤ M ∧ OwnLL wr w.heap.size v3 (fcr M acc) ∧ Below w.heap.size w wr) (fun v0 _ v4 _ => (2 * intOf v0 - intOf v4).toNat)
  case atStart => exact ⟨M, 2, [], rfl, rfl, HS.out, HA.out, HP.out, by omega, OwnLL.nil _ _, Below.refl _ _⟩
  case round =>
    clear HS HP HA
    obtain ⟨n, p, acc, rfl, rfl, hfi, hacc, hpb, hnm, hown, hbw⟩ := hrel
    obtain ⟨ca, cc, rfl⟩ := hown.slice
    by_cases hgt : 1 < n
    · have hple := hfi.ple hgt
      have hp2 := hfi.p2
      obtain ⟨b1, b2, b3⟩ := hpb.sq hgt hfi.p2 hm2
      have hal : acc.length ≤ 100000000 := by have := hacc.2.2; omega
      by_cases c1 : p * p ≤ n
      · by_cases c2 : p ∣ n
        · have HA := Lib.hid (hacc.out (k := 0) (b := n) hfi c2)
          have HF := Lib.hid hfi
          have hdv := Lib.hid c2
          have hq2 := hp2
          clear hfi hacc hpb c2

          obtain ⟨b, k, hto, hnb⟩ := TO.ex (n := n) (q := p) (by omega) hq2
          have hv := hto.val hq2 hnb
          have hk := hto.kle hq2
          have hb1 := hto.2.1
          have hb2 := hto.2.2
          have HF2 := Lib.hid (hto.both HF.out hnb)
          obtain ⟨hv1, hv2, hv3⟩ := hto.half HF.out hnb hdv.out
          have HV1 := Lib.hid hv1
          clear hv1
          have HV := Lib.hid (show ∀ w, Calls Try.prog 86 #[.int .i64 n, .int .i64 p] w (Same (.int .i64 (k : Int)) w) from fun w => by rw [← hv]; exact mdValuation_any n p (by omega) (by omega) (by omega) hq2 w)
          have HTI := Lib.hid (TI.start hto (by omega))
          clear hv hto hnb
          go_wp2_with (first | (go_at_call 86; refine (HV.out _).mono ?_; rintro e w1 ⟨rfl, rfl⟩) | (at_builtin; refine wpl_appLL rfl _ _ rfl w.heap.size _ (fcr M acc) rfl hown 1 [p, (k : Int)] _ rfl rfl _ rfl (by rw [fcr_len]; omega) hbw hbw.size ?_; intro a1 cc1 w1 hown1 hbw1 hsz1))
          go_loop [0, 5] (fun v0 v5 => ∃ (c : Int) (j : Nat), v0 = .int .i64 c ∧ v5 = .int .i64 j ∧ TI n p b c j ∧ j ≤ k) (fun _ v5 => (intOf v5).toNat)
          case atStart => exact ⟨n, k, rfl, rfl, HTI.out, Nat.le_refl _⟩
          case round =>
            clear HTI
            obtain ⟨c, j, rfl, rfl, hti, hjk⟩ := hrel
            have ht1 := hti.2.1
            have ht2 := hti.2.2
            cases j with
            | succ j =>
              have hs := hti.step hq2 hb1
              have HS := Lib.hid hs
              clear hs hti
              go_wp2
              go_round
              case rel => exact ⟨_, j, rfl, by go_num, HS.out, by omega⟩
              case measure => first | (simp [intOf]; done) | (simp [intOf]; omega)
            | zero =>
              have HE := Lib.hid hti.end_
              clear hti
              have HPB := Lib.hid (PB.next (N := M) (n := n) (b := b) (p := p) (by omega) hnm hq2 c1)
              go_wp2
              go_roundw
              case rel => exact ⟨b, p + 1, acc ++ [p], by rw [HE.out], rfl, HF2.out, HA.out, HPB.out, by omega, by rw [← fcr_snoc M acc p k HV1.out]; exact hown1, hbw1⟩
              case measure => have := HE.out; simp [intOf]; omega

        · have HA := Lib.hid (hacc.skip hfi c2)
          have HF := Lib.hid hfi
          have hdv := Lib.hid c2
          have hq2 := hp2
          clear hfi hacc hpb c2

          obtain ⟨b, k, hto, hnb⟩ := TO.ex (n := n) (q := p) (by omega) hq2
          have hv := hto.val hq2 hnb
          have hk := hto.kle hq2
          have hb1 := hto.2.1
          have hb2 := hto.2.2
          have HF2 := Lib.hid (hto.both HF.out hnb)
          have hbn : b = n := hto.skip HF.out hnb hdv.out
          have hk0 : k = 0 := by
            rcases Nat.eq_zero_or_pos k with g | g
            · exact g
            · have h3 : n = p ^ k * n := by have := hto.1; rw [hbn] at this; exact this
              have h4 := pow_ge1 hq2 k
              have h5 := Int.mul_le_mul_of_nonneg_right (show 2 ≤ p ^ k by omega) (show 0 ≤ n by omega)
              omega
          have HV := Lib.hid (show ∀ w, Calls Try.prog 86 #[.int .i64 n, .int .i64 p] w (Same (.int .i64 0) w) from fun w => by rw [show (0 : Int) = ((vl n p : Nat) : Int) by rw [hv, hk0]; rfl]; exact mdValuation_any n p (by omega) (by omega) (by omega) hq2 w)
          have HF3 := Lib.hid (show FI M n (p + 1) by have := HF2.out; rwa [hbn] at this)
          have HPB := Lib.hid (PB.next (N := M) (n := n) (b := n) (p := p) (by omega) hnm hq2 c1)
          clear hv hto hnb hbn hk0 HF2 hb1 hb2 hk
          go_wp2_with (first | (go_at_call 86; refine (HV.out _).mono ?_; rintro e w1 ⟨rfl, rfl⟩))
          go_roundw
          case rel => exact ⟨n, p + 1, acc, rfl, rfl, HF3.out, HA.out, HPB.out, by omega, hown, hbw⟩
          case measure => simp [intOf]; omega

      · have c1' : n < p * p := by omega
        have HF := Lib.hid (hfi.jump hgt c1')
        have HA := Lib.hid ((hacc.jump hfi hgt c1').out (k := 0) (b := n) HF.out (Int.dvd_refl n))
        have hdv := Lib.hid (Int.dvd_refl n)
        have hq2 : 2 ≤ n := by omega
        clear hfi hacc hpb c1

        obtain ⟨b, k, hto, hnb⟩ := TO.ex (n := n) (q := n) (by omega) hq2
        have hv := hto.val hq2 hnb
        have hk := hto.kle hq2
        have hb1 := hto.2.1
        have hb2 := hto.2.2
        have HF2 := Lib.hid (hto.both HF.out hnb)
        obtain ⟨hv1, hv2, hv3⟩ := hto.half HF.out hnb hdv.out
        have HV1 := Lib.hid hv1
        clear hv1
        have HV := Lib.hid (show ∀ w, Calls Try.prog 86 #[.int .i64 n, .int .i64 n] w (Same (.int .i64 (k : Int)) w) from fun w => by rw [← hv]; exact mdValuation_any n n (by omega) (by omega) (by omega) hq2 w)
        have HTI := Lib.hid (TI.start hto (by omega))
        have HBE := Lib.hid (hto.one (by omega) hv2)
        clear hv hto hnb
        go_wp2_with (first | (go_at_call 86; refine (HV.out _).mono ?_; rintro e w1 ⟨rfl, rfl⟩) | (at_builtin; refine wpl_appLL rfl _ _ rfl w.heap.size _ (fcr M acc) rfl hown 1 [n, (k : Int)] _ rfl rfl _ rfl (by rw [fcr_len]; omega) hbw hbw.size ?_; intro a1 cc1 w1 hown1 hbw1 hsz1))
        go_loop [0, 5] (fun v0 v5 => ∃ (c : Int) (j : Nat), v0 = .int .i64 c ∧ v5 = .int .i64 j ∧ TI n n b c j ∧ j ≤ k) (fun _ v5 => (intOf v5).toNat)
        case atStart => exact ⟨n, k, rfl, rfl, HTI.out, Nat.le_refl _⟩
        case round =>
          clear HTI
          obtain ⟨c, j, rfl, rfl, hti, hjk⟩ := hrel
          have ht1 := hti.2.1
          have ht2 := hti.2.2
          cases j with
          | succ j =>
            have hs := hti.step hq2 hb1
            have HS := Lib.hid hs
            clear hs hti
            go_wp2
            go_round
            case rel => exact ⟨_, j, rfl, by go_num, HS.out, by omega⟩
            case measure => first | (simp [intOf]; done) | (simp [intOf]; omega)
          | zero =>
            have HE := Lib.hid hti.end_
            clear hti
            have HPB := Lib.hid (show PB M b (n + 1) from ⟨by omega, .inl HBE.out⟩)
            go_wp2
            go_roundw
            case rel => exact ⟨b, n + 1, acc ++ [n], by rw [HE.out], rfl, HF2.out, HA.out, HPB.out, by omega, by rw [← fcr_snoc M acc n k HV1.out]; exact hown1, hbw1⟩
            case measure => have := HE.out; simp [intOf]; omega

    · have HE := Lib.hid (hfi.done hgt hacc)
      clear hfi hacc hpb
      go_wp2
      go_ret
      unfold fcl
      rw [HE.out]
      exact ⟨_, _, _, rfl, hown, hbw⟩

end Go.Proofs.Ytldmledjdcphmaa

