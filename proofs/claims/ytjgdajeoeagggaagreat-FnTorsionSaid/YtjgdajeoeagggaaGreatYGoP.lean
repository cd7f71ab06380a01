import Derived.Test.YtjgdajeoeagggaaGreatYK5
import Derived.Test.YtjgdajeoeagggaaGreatYK6
import Derived.Test.YtjgdajeoeagggaaGreatYK1
set_option linter.unusedSimpArgs false
set_option linter.unusedVariables false
namespace Go.Proofs.YtjgdajeoeagggaaGreat
open Go.RowKit
/-! ### good primes -/
noncomputable def gdB (a b p : Int) : Bool := inB p 5 997 && prB p && (dsc a b % p != 0)
theorem gdB_iff {a b p : Int} : gdB a b p = true ↔ 5 ≤ p ∧ p ≤ 997 ∧ Pr p ∧ dsc a b % p ≠ 0 := by
  unfold gdB prB
  simp [inB_iff]
  constructor
  · rintro ⟨⟨⟨h1, h2⟩, h3⟩, h4⟩; exact ⟨h1, h2, h3, h4⟩
  · rintro ⟨h1, h2, h3, h4⟩; exact ⟨⟨⟨h1, h2⟩, h3⟩, h4⟩
theorem gdB_f1 {a b p : Int} (h : inB p 5 997 = false) : gdB a b p = false := by unfold gdB; rw [h]; rfl
theorem gdB_f2 {a b p : Int} (h : prB p = false) : gdB a b p = false := by unfold gdB; rw [h]; simp
theorem gdB_f3 {a b p : Int} (h : dsc a b % p = 0) : gdB a b p = false := by unfold gdB; rw [h]; simp
theorem gdB_t {a b p : Int} (h1 : inB p 5 997 = true) (h2 : prB p = true) (h3 : dsc a b % p ≠ 0) : gdB a b p = true := by unfold gdB; rw [h1, h2]; simpa using h3
theorem tmod0G {a p : Int} : a.tmod p = 0 ↔ a % p = 0 := by
  rw [← Int.dvd_iff_tmod_eq_zero, Int.dvd_iff_emod_eq_zero]
set_option maxHeartbeats 1000000 in
theorem isGood_any (a b p : Int) (w : World) : Calls Tryz.prog 71 #[.agg #[.int .i64 a, .int .i64 b], .int .i64 p] w (Gives (.bool (gdB a b p)) w) := by
  have HP := Lib.hid (fun (h : p ≤ 1000000000000000000) w => isPrime_any p h w)
  have HI := Lib.hid (fun w => inside_any p 5 997 w)
  have HC := Lib.hid (fun w => core_any a b w)
  cases h0 : inB p 5 997 with
  | false =>
    have E := Lib.hid (gdB_f1 (a := a) (b := b) h0)
    rw [h0] at HI; clear h0 HP HC
    rw [E.out]; clear E
    go_enter Tryz.func71, Tryz.ntmps71
    go_wp2_with (go_at_call 52; refine (HI.out _).mono ?_; rintro e w1 ⟨rfl, rfl⟩)
    go_ret
    exact gives rfl gr
  | true =>
    obtain ⟨h1, h2⟩ := inB_iff.1 h0
    have HQ := Lib.hid (HP.out (by omega)); clear HP
    have hp0 : (p == 0) = false := by simp; omega
    have hp1 : ¬ p = 0 := by omega
    cases hp : prB p with
    | false =>
      have E := Lib.hid (gdB_f2 (a := a) (b := b) hp)
      rw [h0] at HI; rw [hp] at HQ; clear h0 HC hp
      rw [E.out]; clear E
      go_enter Tryz.func71, Tryz.ntmps71
      go_wp2_with (first | (go_at_call 52; refine (HI.out _).mono ?_; rintro e w1 ⟨rfl, rfl⟩) | (go_at_call 105; refine (HQ.out _).mono ?_; rintro e w1 ⟨rfl, rfl⟩))
      go_ret
      exact gives rfl gr
    | true =>
      by_cases hm : dsc a b % p = 0
      · have E := Lib.hid (gdB_f3 (a := a) (b := b) hm)
        have hm2 := tmod0G.2 hm
        have hm3 : ((dsc a b).tmod p != 0) = false := by simpa using hm2
        rw [h0] at HI; rw [hp] at HQ; clear h0 hp hm
        rw [E.out]; clear E
        generalize dsc a b = D at *
        go_enter Tryz.func71, Tryz.ntmps71
        go_wp2_with (first | (go_at_call 52; refine (HI.out _).mono ?_; rintro e w1 ⟨rfl, rfl⟩) | (go_at_call 105; refine (HQ.out _).mono ?_; rintro e w1 ⟨rfl, rfl⟩) | (go_at_call 89; refine (HC.out _).mono ?_; rintro e w1 ⟨rfl, hb⟩; have hz := hb.size; (try simp only [wz1, wz2, wz3, wz4] at hz); try (refine keepc hb (w.heap.size) ?_ ?_; (focus (first | omega | (simp <;> omega))); intro hc0 hf0 hl0); try (refine keepc hb (w.heap.size + 1) ?_ ?_; (focus (first | omega | (simp <;> omega))); intro hc1 hf1 hl1); try (refine keepc hb (w.heap.size + 1 + 1) ?_ ?_; (focus (first | omega | (simp <;> omega))); intro hc2 hf2 hl2)))
        go_ret
        exact gives rfl gr
      · have E := Lib.hid (gdB_t (a := a) (b := b) h0 hp hm)
        have hm2 := fun h => hm (tmod0G.1 h)
        have hm3 : ((dsc a b).tmod p != 0) = true := by simpa using hm2
        have hm4 : ((dsc a b).tmod p == 0) = false := by simpa using hm2
        rw [h0] at HI; rw [hp] at HQ; clear h0 hp hm
        rw [E.out]; clear E
        generalize dsc a b = D at *
        go_enter Tryz.func71, Tryz.ntmps71
        go_wp2_with (first | (go_at_call 52; refine (HI.out _).mono ?_; rintro e w1 ⟨rfl, rfl⟩) | (go_at_call 105; refine (HQ.out _).mono ?_; rintro e w1 ⟨rfl, rfl⟩) | (go_at_call 89; refine (HC.out _).mono ?_; rintro e w1 ⟨rfl, hb⟩; have hz := hb.size; (try simp only [wz1, wz2, wz3, wz4] at hz); try (refine keepc hb (w.heap.size) ?_ ?_; (focus (first | omega | (simp <;> omega))); intro hc0 hf0 hl0); try (refine keepc hb (w.heap.size + 1) ?_ ?_; (focus (first | omega | (simp <;> omega))); intro hc1 hf1 hl1); try (refine keepc hb (w.heap.size + 1 + 1) ?_ ?_; (focus (first | omega | (simp <;> omega))); intro hc2 hf2 hl2)))
        go_ret
        exact gives rfl gr
theorem fm_f1 {a b p : Int} (h : isC a b = false) : (isC a b && gdB a b p) = false := by rw [h]; rfl
theorem fm_f2 {a b p : Int} (h : mdPr p = false) : (isC a b && gdB a b p) = false := by
  cases g : gdB a b p with
  | false => simp
  | true =>
    exfalso
    obtain ⟨h1, h2, h3, h4⟩ := gdB_iff.1 g
    unfold mdPr at h
    rw [inB_t (by omega) h2, prB_t h3] at h; cases h
theorem fm_f3 {a b p : Int} (h : p < 5) : (isC a b && gdB a b p) = false := by rw [gdB_f1 (inB_f1 h)]; simp
theorem fm_f4 {a b p : Int} (h : dsc a b % p = 0) : (isC a b && gdB a b p) = false := by rw [gdB_f3 h]; simp
theorem fm_t {a b p : Int} (h1 : isC a b = true) (h2 : mdPr p = true) (h3 : 5 ≤ p) (h4 : dsc a b % p ≠ 0) : (isC a b && gdB a b p) = true := by
  unfold mdPr at h2
  rw [Bool.and_eq_true] at h2
  rw [h1, gdB_t (inB_t h3 (inB_iff.1 h2.1).2) h2.2 h4]; rfl
set_option maxHeartbeats 1000000 in
theorem fmGood_any (a b p : Int) (w : World) : Calls Tryz.prog 76 #[.agg #[.int .i64 a, .int .i64 b], .int .i64 p] w (Gives (.bool (isC a b && gdB a b p)) w) := by
  have HG := Lib.hid (fun w => ecGood_any a b w)
  have HP := Lib.hid (fun w => mdPrime_any p w)
  have HD := Lib.hid (fun w => ecDisc_any a b w)
  cases h0 : isC a b with
  | false =>
    have E := Lib.hid (fm_f1 (p := p) h0)
    rw [h0] at HG; rw [← h0, E.out]; clear h0 HP HD E
    go_enter Tryz.func76, Tryz.ntmps76
    go_wp2_with (go_at_call 44; refine (HG.out _).mono ?_; rintro e w1 ⟨rfl, hb⟩; have hz := hb.size; (try simp only [wz1, wz2, wz3, wz4] at hz); try (refine keepc hb (w.heap.size) ?_ ?_; (focus (first | omega | (simp <;> omega))); intro hc0 hf0 hl0); try (refine keepc hb (w.heap.size + 1) ?_ ?_; (focus (first | omega | (simp <;> omega))); intro hc1 hf1 hl1); try (refine keepc hb (w.heap.size + 1 + 1) ?_ ?_; (focus (first | omega | (simp <;> omega))); intro hc2 hf2 hl2))
    go_ret
    exact gives rfl gr
  | true =>
    rw [h0] at HG
    cases hp : mdPr p with
    | false =>
      have E := Lib.hid (fm_f2 (a := a) (b := b) hp)
      rw [hp] at HP; rw [← h0, E.out]; clear h0 hp HD E
      go_enter Tryz.func76, Tryz.ntmps76
      go_wp2_with (first | (go_at_call 44; refine (HG.out _).mono ?_; rintro e w1 ⟨rfl, hb⟩; have hz := hb.size; (try simp only [wz1, wz2, wz3, wz4] at hz); try (refine keepc hb (w.heap.size) ?_ ?_; (focus (first | omega | (simp <;> omega))); intro hc0 hf0 hl0); try (refine keepc hb (w.heap.size + 1) ?_ ?_; (focus (first | omega | (simp <;> omega))); intro hc1 hf1 hl1); try (refine keepc hb (w.heap.size + 1 + 1) ?_ ?_; (focus (first | omega | (simp <;> omega))); intro hc2 hf2 hl2)) | (go_at_call 110; refine (HP.out _).mono ?_; rintro e w1 ⟨rfl, rfl⟩))
      go_ret
      exact gives rfl gr
    | true =>
      rw [hp] at HP
      by_cases h5 : 5 ≤ p
      · have h9 : p ≤ 997 := by
          unfold mdPr at hp
          rw [Bool.and_eq_true] at hp
          exact (inB_iff.1 hp.1).2
        have HM := Lib.hid (fun w => mdMod_any (dsc a b) p (by omega) (by omega) w)
        by_cases hm : dsc a b % p = 0
        · have E := Lib.hid (fm_f4 (a := a) (b := b) hm)
          have hm2 : (dsc a b % p != 0) = false := by simpa using hm
          rw [← h0, E.out]; clear h0 hp E
          rw [hm] at HM; clear hm hm2
          generalize dsc a b = D at *
          go_enter Tryz.func76, Tryz.ntmps76
          go_wp2_with (first | (go_at_call 44; refine (HG.out _).mono ?_; rintro e w1 ⟨rfl, hb⟩; have hz := hb.size; (try simp only [wz1, wz2, wz3, wz4] at hz); try (refine keepc hb (w.heap.size) ?_ ?_; (focus (first | omega | (simp <;> omega))); intro hc0 hf0 hl0); try (refine keepc hb (w.heap.size + 1) ?_ ?_; (focus (first | omega | (simp <;> omega))); intro hc1 hf1 hl1); try (refine keepc hb (w.heap.size + 1 + 1) ?_ ?_; (focus (first | omega | (simp <;> omega))); intro hc2 hf2 hl2)) | (go_at_call 110; refine (HP.out _).mono ?_; rintro e w1 ⟨rfl, rfl⟩) | (go_at_call 90; refine (HD.out _).mono ?_; rintro e w1 ⟨rfl, hb⟩; have hz := hb.size; (try simp only [wz1, wz2, wz3, wz4] at hz); try (refine keepc hb (w.heap.size) ?_ ?_; (focus (first | omega | (simp <;> omega))); intro hc0 hf0 hl0); try (refine keepc hb (w.heap.size + 1) ?_ ?_; (focus (first | omega | (simp <;> omega))); intro hc1 hf1 hl1); try (refine keepc hb (w.heap.size + 1 + 1) ?_ ?_; (focus (first | omega | (simp <;> omega))); intro hc2 hf2 hl2)) | (go_at_call 111; refine (HM.out _).mono ?_; rintro e w1 ⟨rfl, rfl⟩))
          go_ret
          exact gives rfl gr
        · have E := Lib.hid (fm_t (a := a) (b := b) h0 hp h5 hm)
          have hm2 : (dsc a b % p != 0) = true := by simpa using hm
          have hm3 : (dsc a b % p == 0) = false := by simpa using hm
          rw [← h0, E.out]; clear h0 hp E
          generalize dsc a b % p = m at *
          generalize dsc a b = D at *
          go_enter Tryz.func76, Tryz.ntmps76
          go_wp2_with (first | (go_at_call 44; refine (HG.out _).mono ?_; rintro e w1 ⟨rfl, hb⟩; have hz := hb.size; (try simp only [wz1, wz2, wz3, wz4] at hz); try (refine keepc hb (w.heap.size) ?_ ?_; (focus (first | omega | (simp <;> omega))); intro hc0 hf0 hl0); try (refine keepc hb (w.heap.size + 1) ?_ ?_; (focus (first | omega | (simp <;> omega))); intro hc1 hf1 hl1); try (refine keepc hb (w.heap.size + 1 + 1) ?_ ?_; (focus (first | omega | (simp <;> omega))); intro hc2 hf2 hl2)) | (go_at_call 110; refine (HP.out _).mono ?_; rintro e w1 ⟨rfl, rfl⟩) | (go_at_call 90; refine (HD.out _).mono ?_; rintro e w1 ⟨rfl, hb⟩; have hz := hb.size; (try simp only [wz1, wz2, wz3, wz4] at hz); try (refine keepc hb (w.heap.size) ?_ ?_; (focus (first | omega | (simp <;> omega))); intro hc0 hf0 hl0); try (refine keepc hb (w.heap.size + 1) ?_ ?_; (focus (first | omega | (simp <;> omega))); intro hc1 hf1 hl1); try (refine keepc hb (w.heap.size + 1 + 1) ?_ ?_; (focus (first | omega | (simp <;> omega))); intro hc2 hf2 hl2)) | (go_at_call 111; refine (HM.out _).mono ?_; rintro e w1 ⟨rfl, rfl⟩))
          go_ret
          exact gives rfl gr
      · have E := Lib.hid (fm_f3 (a := a) (b := b) (p := p) (by omega))
        have h5' : p < 5 := by omega
        rw [← h0, E.out]; clear h0 hp E h5
        go_enter Tryz.func76, Tryz.ntmps76
        go_wp2_with (first | (go_at_call 44; refine (HG.out _).mono ?_; rintro e w1 ⟨rfl, hb⟩; have hz := hb.size; (try simp only [wz1, wz2, wz3, wz4] at hz); try (refine keepc hb (w.heap.size) ?_ ?_; (focus (first | omega | (simp <;> omega))); intro hc0 hf0 hl0); try (refine keepc hb (w.heap.size + 1) ?_ ?_; (focus (first | omega | (simp <;> omega))); intro hc1 hf1 hl1); try (refine keepc hb (w.heap.size + 1 + 1) ?_ ?_; (focus (first | omega | (simp <;> omega))); intro hc2 hf2 hl2)) | (go_at_call 110; refine (HP.out _).mono ?_; rintro e w1 ⟨rfl, rfl⟩))
        go_ret
        exact gives rfl gr
theorem symb_bd (a p : Int) : -1 ≤ symb a p ∧ symb a p ≤ 1 := by unfold symb; split <;> (try split) <;> omega
def fv (a b p x : Int) : Int := (x * x * x + a * x + b) % p
def cntTo (a b p : Int) : Nat → Int
  | 0 => 0
  | n + 1 => cntTo a b p n + symb (fv a b p n) p
def cnt (a b p : Int) : Int := p + 1 + cntTo a b p p.toNat
theorem cntTo_bd (a b p : Int) (n : Nat) : -(n : Int) ≤ cntTo a b p n ∧ cntTo a b p n ≤ n := by
  induction n with
  | zero => simp [cntTo]
  | succ n ih => have := symb_bd (fv a b p n) p; simp only [cntTo]; omega
theorem cnt_bd (a b p : Int) (h : 0 ≤ p) : 1 ≤ cnt a b p ∧ cnt a b p ≤ 2 * p + 1 := by
  have := cntTo_bd a b p p.toNat; unfold cnt; omega
theorem fv_eq {a b p x : Int} : ((x * x % p) * x + a * x + b) % p = fv a b p x := by
  unfold fv
  rw [Int.add_assoc, Int.add_assoc, Int.add_emod, Int.mul_emod, Int.emod_emod, ← Int.mul_emod, ← Int.add_emod]
theorem fv_bd {a x p : Int} (h0 : 0 ≤ x) (h1 : x < p) (h2 : p ≤ 997) (ha : -1000 ≤ a) (ha' : a ≤ 1000) : 0 ≤ x * x ∧ x * x ≤ 994009 ∧ 0 ≤ x * x * x ∧ x * x * x ≤ 991026973 ∧ 0 ≤ (x * x % p) * x ∧ (x * x % p) * x ≤ 994009 ∧ -997000 ≤ a * x ∧ a * x ≤ 997000 := by
  have e1 : 0 ≤ x * x := Int.mul_nonneg h0 h0
  have e2 : x * x ≤ 997 * 997 := Int.mul_le_mul (by omega) (by omega) h0 (by omega)
  have e3 : 0 ≤ x * x * x := Int.mul_nonneg e1 h0
  have e4 : x * x * x ≤ 994009 * 997 := Int.mul_le_mul (by omega) (by omega) h0 (by omega)
  have g1 := Int.emod_nonneg (x * x) (show p ≠ 0 by omega)
  have g2 := Int.emod_lt_of_pos (x * x) (show 0 < p by omega)
  have e5 : 0 ≤ (x * x % p) * x := Int.mul_nonneg g1 h0
  have e6 : (x * x % p) * x ≤ 997 * 997 := Int.mul_le_mul (by omega) (by omega) h0 (by omega)
  have e7 : a * x ≤ 1000 * x := Int.mul_le_mul_of_nonneg_right ha' h0
  have e8 : -1000 * x ≤ a * x := Int.mul_le_mul_of_nonneg_right ha h0
  omega
set_option maxHeartbeats 1000000 in
theorem rightSide_any (a b p x : Int) (ha : -1000 ≤ a) (ha' : a ≤ 1000) (hb1 : -10000 ≤ b) (hb2 : b ≤ 10000) (h0 : 0 ≤ x) (h1 : x < p) (h2 : p ≤ 997) (w : World) : Calls Tryz.prog 98 #[.agg #[.int .i64 a, .int .i64 b], .int .i64 p, .int .i64 x] w (Gives (.int .i64 (fv a b p x)) w) := by
  obtain ⟨s1, s2, -, -, s3, s4, s5, s6⟩ := fv_bd h0 h1 h2 ha ha'
  have hp0 : (p == 0) = false := by simp; omega
  have hp1 : ¬ p = 0 := by omega
  have E := Lib.hid (fv_eq (a := a) (b := b) (p := p) (x := x))
  have HM := Lib.hid (fun w => modulo_any ((x * x % p) * x + a * x + b) p (by omega) (by omega) w)
  rw [E.out] at HM
  generalize fv a b p x = V at *
  clear E
  go_enter Tryz.func98, Tryz.ntmps98
  go_wp2
  go_quiet ((go_at_call 109; exact qs (HM.out _)))
  go_wp2
  go_ret
  exact gives rfl gr
set_option maxHeartbeats 1000000 in
theorem fmValue_any (a b p x : Int) (ha : -1000 ≤ a) (ha' : a ≤ 1000) (hb1 : -10000 ≤ b) (hb2 : b ≤ 10000) (h0 : 0 ≤ x) (h1 : x < p) (h2 : p ≤ 997) (w : World) : Calls Tryz.prog 100 #[.agg #[.int .i64 a, .int .i64 b], .int .i64 p, .int .i64 x] w (Gives (.int .i64 (fv a b p x)) w) := by
  obtain ⟨s1, s2, s3, s4, -, -, s5, s6⟩ := fv_bd h0 h1 h2 ha ha'
  have HM := Lib.hid (fun w => mdMod_any (x * x * x + a * x + b) p (by omega) (by omega) w)
  rw [show (x * x * x + a * x + b) % p = fv a b p x from rfl] at HM
  generalize fv a b p x = V at *
  go_enter Tryz.func100, Tryz.ntmps100
  go_wp2_with (go_at_call 111; refine (HM.out _).mono ?_; rintro e w1 ⟨rfl, rfl⟩)
  go_ret
  exact gives rfl gr
set_option maxHeartbeats 2000000 in
theorem countPoints_any (a b p : Int) (ha : -1000 ≤ a) (ha' : a ≤ 1000) (hb1 : -10000 ≤ b) (hb2 : b ≤ 10000) (h1 : 2 ≤ p) (h2 : p ≤ 997) (w : World) : Calls Tryz.prog 55 #[.agg #[.int .i64 a, .int .i64 b], .int .i64 p] w (Gives (.int .i64 (cnt a b p)) w) := by
  have HR := Lib.hid (fun x h0 h1 w => rightSide_any a b p x ha ha' hb1 hb2 h0 h1 h2 w)
  have HS := Lib.hid (fun x w => symbol_any x p h1 (by omega) w)
  have HC := Lib.hid (show cnt a b p = p + 1 + cntTo a b p p.toNat from rfl)
  have HN := Lib.hid (fun n => (show cntTo a b p (n + 1) = cntTo a b p n + symb (fv a b p n) p from rfl))
  have HZ := Lib.hid (show cntTo a b p 0 = 0 from rfl)
  have HB := Lib.hid (fun n => cntTo_bd a b p n)
  have HY := Lib.hid (fun n => symb_bd (fv a b p n) p)
  generalize cnt a b p = C at *
  generalize cntTo a b p = T at *
  go_enter Tryz.func55, Tryz.ntmps55
  go_wp2
  refine name_world (fun W hW => ?_)
  have X0 : Box W w.heap.size [.int .i64 a, .int .i64 b] := by subst hW; exact box_two (by simp) (by simp [go_sem]) (by simp [go_sem]) (fun o => by simp [go_sem])
  have B0 : Below w.heap.size w W := by subst hW; repeat' (first | (with_reducible first | exact bq1 _ _ | assumption | refine bq2 ?_ ?_ _ | refine bq3 ?_ ?_ _ | refine bq4 ?_ | refine bq5 ?_ _) | (apply bthen2; (with_reducible assumption)) | go_size)
  clear hW
  go_loopw [5, 8] (fun v5 v8 wr => ∃ n : Nat, (n : Int) ≤ p ∧ v8 = .int .i64 n ∧ v5 = .int .i64 (1 + n + T n) ∧ Box wr w.heap.size [.int .i64 a, .int .i64 b] ∧ Below w.heap.size w wr) (fun _ v8 _ => (p - intOf v8).toNat)
  case atStart => exact ⟨0, by omega, rfl, by rw [HZ.out]; rfl, X0, B0⟩
  case round =>
    clear X0 B0
    obtain ⟨n, hn, rfl, rfl, X, hB⟩ := hrel
    have q0 := X.2.1 0 _ rfl; have q1 := X.2.1 1 _ rfl; have ql := X.1
    have hb := HB.out n
    by_cases hlt : (n : Int) < p
    · have hs := HY.out n
      have hstep := Lib.hid (show 1 + (n : Int) + T n + (1 + symb (fv a b p n) p) = 1 + ((n + 1 : Nat) : Int) + T (n + 1) by rw [HN.out]; omega)
      have HR1 := Lib.hid (HR.out n (by omega) hlt)
      generalize fv a b p n = F at *
      have HS1 := Lib.hid (HS.out F)
      generalize symb F p = G at *
      go_wp2_with (first | (go_at_call 98; refine (HR1.out _).mono ?_; rintro e w1 ⟨rfl, hb3⟩; have X1 := X.below hb3; clear q0 q1 ql; have q0 := X1.2.1 0 _ rfl; have q1 := X1.2.1 1 _ rfl; have ql := X1.1) | (go_at_call 97; refine (HS1.out _).mono ?_; rintro e w2 ⟨rfl, hb4⟩; have X2 := X1.below hb4))
      go_roundw
      case rel => exact ⟨n + 1, by omega, by go_num, by rw [← hstep.out], X2, bthen2 hb4 (bthen2 hb3 hB)⟩
      case measure => simp [intOf]; omega
    · have e2 : p.toNat = n := by omega
      have hst := Lib.hid (show 1 + (n : Int) + T n = C by rw [HC.out, e2]; omega)
      clear e2
      go_wp2
      go_ret
      exact gives (vint hst.out) hB
set_option maxHeartbeats 2000000 in
theorem fmCount_any (a b p : Int) (ha : -1000 ≤ a) (ha' : a ≤ 1000) (hb1 : -10000 ≤ b) (hb2 : b ≤ 10000) (hpr : Pr p) (h1 : 3 ≤ p) (h2 : p ≤ 997) (w : World) : Calls Tryz.prog 59 #[.agg #[.int .i64 a, .int .i64 b], .int .i64 p] w (Gives (.int .i64 (cnt a b p)) w) := by
  have HR := Lib.hid (fun x h0 h1 w => fmValue_any a b p x ha ha' hb1 hb2 h0 h1 h2 w)
  have HS := Lib.hid (fun x w => mdSymbol_any x p hpr h1 h2 w)
  have HC := Lib.hid (show cnt a b p = p + 1 + cntTo a b p p.toNat from rfl)
  have HN := Lib.hid (fun n => (show cntTo a b p (n + 1) = cntTo a b p n + symb (fv a b p n) p from rfl))
  have HZ := Lib.hid (show cntTo a b p 0 = 0 from rfl)
  have HB := Lib.hid (fun n => cntTo_bd a b p n)
  have HY := Lib.hid (fun n => symb_bd (fv a b p n) p)
  clear hpr
  generalize cnt a b p = C at *
  generalize cntTo a b p = T at *
  go_enter Tryz.func59, Tryz.ntmps59
  go_wp2
  refine name_world (fun W hW => ?_)
  have X0 : Box W w.heap.size [.int .i64 a, .int .i64 b] := by subst hW; exact box_two (by simp) (by simp [go_sem]) (by simp [go_sem]) (fun o => by simp [go_sem])
  have B0 : Below w.heap.size w W := by subst hW; repeat' (first | (with_reducible first | exact bq1 _ _ | assumption | refine bq2 ?_ ?_ _ | refine bq3 ?_ ?_ _ | refine bq4 ?_ | refine bq5 ?_ _) | (apply bthen2; (with_reducible assumption)) | go_size)
  clear hW
  go_loopw [5, 6] (fun v5 v6 wr => ∃ n : Nat, (n : Int) ≤ p ∧ v6 = .int .i64 n ∧ v5 = .int .i64 (p + 1 + T n) ∧ Box wr w.heap.size [.int .i64 a, .int .i64 b] ∧ Below w.heap.size w wr) (fun _ v6 _ => (p - intOf v6).toNat)
  case atStart => exact ⟨0, by omega, rfl, by rw [HZ.out]; simp, X0, B0⟩
  case round =>
    clear X0 B0
    obtain ⟨n, hn, rfl, rfl, X, hB⟩ := hrel
    have q0 := X.2.1 0 _ rfl; have q1 := X.2.1 1 _ rfl; have ql := X.1
    have hb := HB.out n
    by_cases hlt : (n : Int) < p
    · have hs := HY.out n
      have hstep := Lib.hid (show p + 1 + T n + symb (fv a b p n) p = p + 1 + T (n + 1) by rw [HN.out]; omega)
      have HR1 := Lib.hid (HR.out n (by omega) hlt)
      generalize fv a b p n = F at *
      have HS1 := Lib.hid (HS.out F)
      generalize symb F p = G at *
      go_wp2_with (first | (go_at_call 100; refine (HR1.out _).mono ?_; rintro e w1 ⟨rfl, hb3⟩; have X1 := X.below hb3; clear q0 q1 ql; have q0 := X1.2.1 0 _ rfl; have q1 := X1.2.1 1 _ rfl; have ql := X1.1) | (go_at_call 99; refine (HS1.out _).mono ?_; rintro e w2 ⟨rfl, hb4⟩; have X2 := X1.below hb4))
      go_roundw
      case rel => exact ⟨n + 1, by omega, by go_num, by rw [← hstep.out], X2, bthen2 hb4 (bthen2 hb3 hB)⟩
      case measure => simp [intOf]; omega
    · have e2 : p.toNat = n := by omega
      have hst := Lib.hid (show p + 1 + T n = C by rw [HC.out, e2])
      clear e2
      go_wp2
      go_ret
      exact gives (vint hst.out) hB
/-! the first good primes -/
noncomputable def gpTo (a b : Int) (n : Nat) : List Int := ((List.range n).map (fun (i : Nat) => (i : Int) + 5)).filter (gdB a b)
noncomputable def gpl (a b k : Int) : List Int := (gpTo a b 993).take k.toNat
theorem gpTo_succ (a b : Int) (n : Nat) : gpTo a b (n + 1) = gpTo a b n ++ (if gdB a b ((n : Int) + 5) = true then [(n : Int) + 5] else []) := by
  unfold gpTo
  rw [List.range_succ, List.map_append, List.filter_append]
  congr 1
  simp only [List.map_cons, List.map_nil, List.filter_cons, List.filter_nil]
theorem gpTo_t {a b : Int} {n : Nat} (h : gdB a b ((n : Int) + 5) = true) : gpTo a b (n + 1) = gpTo a b n ++ [(n : Int) + 5] := by rw [gpTo_succ, if_pos h]
theorem gpTo_f {a b : Int} {n : Nat} (h : gdB a b ((n : Int) + 5) = false) : gpTo a b (n + 1) = gpTo a b n := by rw [gpTo_succ, if_neg (by rw [h]; simp), List.append_nil]
theorem gpTo_pre (a b : Int) {m n : Nat} (h : m ≤ n) : gpTo a b m <+: gpTo a b n := by
  induction h with
  | refl => exact List.prefix_refl _
  | step _ ih => exact ih.trans (by rw [gpTo_succ]; exact List.prefix_append _ _)
theorem gpl_of {a b k : Int} {n : Nat} (hn : n ≤ 993) (hl : ((gpTo a b n).length : Int) = k) : gpTo a b n = gpl a b k := by
  unfold gpl
  have := List.prefix_iff_eq_take.1 (gpTo_pre a b hn)
  rw [show k.toNat = (gpTo a b n).length by omega]; exact this
theorem gpTo_mem {a b p : Int} {n : Nat} : p ∈ gpTo a b n ↔ 5 ≤ p ∧ p < n + 5 ∧ gdB a b p = true := by
  unfold gpTo
  rw [List.mem_filter, List.mem_map]
  constructor
  · rintro ⟨⟨i, hi, rfl⟩, h⟩
    rw [List.mem_range] at hi
    exact ⟨by omega, by omega, h⟩
  · rintro ⟨h1, h2, h3⟩
    exact ⟨⟨(p - 5).toNat, by rw [List.mem_range]; omega, by omega⟩, h3⟩
theorem gpl_mem {a b k p : Int} (h : p ∈ gpl a b k) : 5 ≤ p ∧ p ≤ 997 ∧ gdB a b p = true := by
  obtain ⟨h1, h2, h3⟩ := gpTo_mem.1 (List.mem_of_mem_take h)
  exact ⟨h1, by omega, h3⟩
/-! at least eight primes up to 61 are good -/
def big9 (B : Nat) : List Nat → Nat → Nat → Bool
  | [], acc, n => decide (B < acc) || decide (n ≤ 8)
  | p :: L, acc, n => decide (B < acc) || (big9 B L (acc * p) (n + 1) && big9 B L acc n)
def P16 : List Nat := [5, 7, 11, 13, 17, 19, 23, 29, 31, 37, 41, 43, 47, 53, 59, 61]
theorem big9_ok : big9 7000000000 P16 1 0 = true := by decide +kernel
theorem big9_use {B D : Nat} (h0 : 0 < D) (hD : D ≤ B) : ∀ (L : List Nat) (acc n : Nat), big9 B L acc n = true → acc ∣ D → L.Pairwise Nat.Coprime → (∀ p ∈ L, Nat.Coprime acc p) → n + (L.filter (fun p => decide (p ∣ D))).length ≤ 8
  | [], acc, n, h, hd, _, _ => by
    have := Nat.le_of_dvd h0 hd
    simp [big9] at h
    simp; omega
  | p :: L, acc, n, h, hd, hp, hc => by
    have h1 := Nat.le_of_dvd h0 hd
    unfold big9 at h
    rw [Bool.or_eq_true] at h
    rcases h with h | h
    · have : B < acc := by simpa using h
      omega
    rw [Bool.and_eq_true] at h
    rw [List.pairwise_cons] at hp
    by_cases g : p ∣ D
    · have := big9_use h0 hD L (acc * p) (n + 1) h.1 (Nat.Coprime.mul_dvd_of_dvd_of_dvd (hc p (by simp)) hd g) hp.2 (fun q hq => Nat.Coprime.mul_left (hc q (by simp [hq])) (hp.1 q hq))
      rw [List.filter_cons, if_pos (by simpa using g), List.length_cons]; omega
    · have := big9_use h0 hD L acc n h.2 hd hp.2 (fun q hq => hc q (by simp [hq]))
      rw [List.filter_cons, if_neg (by simpa using g)]; exact this
theorem prn_to {n : Nat} (h2 : 2 ≤ n) (h : prn n = true) : Pr (n : Int) := by
  refine ⟨by omega, fun d hd hdd h0 => ?_⟩
  rw [prn, List.all_eq_true] at h
  have hlt : d.toNat < n := by
    rcases Int.lt_or_le d n with g | g
    · omega
    · have := Int.mul_le_mul_of_nonneg_left g (show 0 ≤ d by omega)
      have h3 := Int.mul_le_mul_of_nonneg_right hd (show (0 : Int) ≤ n by omega)
      have h4 := Int.mul_le_mul_of_nonneg_right hd (show (0 : Int) ≤ d by omega)
      omega
  have := h d.toNat (by rw [List.mem_range]; exact hlt)
  have e : ((n % d.toNat : Nat) : Int) = (n : Int) % d := by rw [Int.natCast_emod, Int.toNat_of_nonneg (by omega)]
  simp at this
  rcases this with g | g
  · omega
  · apply g; omega
theorem P16_pr : ∀ p ∈ P16, 2 ≤ p ∧ prn p = true ∧ 5 ≤ p ∧ p ≤ 61 := by decide +kernel
theorem P16_cop : P16.Pairwise Nat.Coprime := by decide +kernel
theorem dsc_bd {a b : Int} (h : isC a b = true) : dsc a b = 4 * a * a * a + 27 * b * b ∧ dsc a b ≠ 0 ∧ (dsc a b).natAbs ≤ 7000000000 := by
  unfold isC at h
  rw [Bool.and_eq_true, Bool.and_eq_true] at h
  obtain ⟨⟨h1, h2⟩, h3⟩ := h
  obtain ⟨a1, a2⟩ := inB_iff.1 h1
  obtain ⟨b1, b2⟩ := inB_iff.1 h2
  have e1 : 0 ≤ a * a ∧ a * a ≤ 1000000 := by
    have : a * a = (a.natAbs : Int) * (a.natAbs : Int) := by rw [Int.natAbs_mul_self']
    rw [this]
    have q : (a.natAbs : Int) ≤ 1000 := by omega
    exact ⟨Int.mul_nonneg (by omega) (by omega), Int.mul_le_mul q q (by omega) (by omega)⟩
  have e2 : 0 ≤ b * b ∧ b * b ≤ 100000000 := by
    have : b * b = (b.natAbs : Int) * (b.natAbs : Int) := by rw [Int.natAbs_mul_self']
    rw [this]
    have q : (b.natAbs : Int) ≤ 10000 := by omega
    exact ⟨Int.mul_nonneg (by omega) (by omega), Int.mul_le_mul q q (by omega) (by omega)⟩
  have e3 : a * a * a ≤ 1000000 * 1000 ∧ -(1000000 * 1000) ≤ a * a * a := by
    have g1 := Int.mul_le_mul_of_nonneg_left a2 e1.1
    have g2 := Int.mul_le_mul_of_nonneg_left a1 e1.1
    omega
  have e4 : 4 * a * a * a + 27 * b * b = 4 * (a * a * a) + 27 * (b * b) := by grind
  have e5 : dsc a b = 4 * a * a * a + 27 * b * b := by unfold dsc; exact win (by omega)
  refine ⟨e5, by simpa using h3, by omega⟩
theorem sub_of_sorted : ∀ {l m : List Int}, l.Pairwise (· < ·) → m.Pairwise (· < ·) → (∀ x ∈ l, x ∈ m) → l.Sublist m
  | [], m, _, _, _ => List.nil_sublist _
  | x :: l, [], _, _, h => by have := h x (by simp); simp at this
  | x :: l, y :: m, hl, hm, h => by
    rw [List.pairwise_cons] at hl hm
    by_cases e : x = y
    · subst e
      refine List.Sublist.cons_cons _ (sub_of_sorted hl.2 hm.2 (fun z hz => ?_))
      have h1 := h z (by simp [hz])
      have h2 := hl.1 z hz
      simp at h1
      rcases h1 with h1 | h1
      · omega
      · exact h1
    · have hx := h x (by simp)
      simp [e] at hx
      have hyx := hm.1 x hx
      refine List.Sublist.cons _ (sub_of_sorted (List.pairwise_cons.2 hl) hm.2 (fun z hz => ?_))
      have h1 := h z hz
      simp at h1 hz
      rcases h1 with h1 | h1
      · rcases hz with hz | hz
        · omega
        · have := hl.1 z hz; omega
      · exact h1
theorem len_split (f : Nat → Bool) (l : List Nat) : l.length = (l.filter f).length + (l.filter (fun x => !f x)).length := by
  induction l with
  | nil => rfl
  | cons x l ih => cases g : f x <;> simp [List.filter_cons, g, ih] <;> omega
theorem gp8 {a b : Int} (h : isC a b = true) : 8 ≤ (gpTo a b 993).length := by
  obtain ⟨-, h1, h2⟩ := dsc_bd h
  have hb := big9_use (D := (dsc a b).natAbs) (by omega) h2 P16 1 0 big9_ok (Nat.one_dvd _) P16_cop (fun p _ => Nat.coprime_one_left p)
  have e := len_split (fun p => decide (p ∣ (dsc a b).natAbs)) P16
  have h16 : P16.length = 16 := rfl
  have hs : ((P16.filter (fun p => !decide (p ∣ (dsc a b).natAbs))).map (fun (n : Nat) => (n : Int))).Sublist (gpTo a b 993) := by
    have hmem : ∀ x ∈ (P16.filter (fun p => !decide (p ∣ (dsc a b).natAbs))).map (fun (n : Nat) => (n : Int)), x ∈ gpTo a b 993 := by
      intro x hx
      rw [List.mem_map] at hx
      obtain ⟨p, hp, rfl⟩ := hx
      rw [List.mem_filter] at hp
      obtain ⟨k1, k2, k3, k4⟩ := P16_pr p hp.1
      refine gpTo_mem.2 ⟨by omega, by omega, gdB_iff.2 ⟨by omega, by omega, prn_to k1 k2, fun h0 => ?_⟩⟩
      have := Int.natAbs_dvd_natAbs.2 (Int.dvd_of_emod_eq_zero h0)
      simp at hp
      exact hp.2 (by simpa using this)
    have hsort : ((P16.filter (fun p => !decide (p ∣ (dsc a b).natAbs))).map (fun (n : Nat) => (n : Int))).Pairwise (· < ·) := by
      exact List.Pairwise.map _ (fun x y (hxy : x < y) => by omega) (List.Pairwise.filter _ (show P16.Pairwise (· < ·) by decide +kernel))
    have hsort2 : (gpTo a b 993).Pairwise (· < ·) := by
      unfold gpTo
      exact List.Pairwise.filter _ (List.Pairwise.map _ (fun x y (hxy : x < y) => by omega) List.pairwise_lt_range)
    exact sub_of_sorted hsort hsort2 hmem
  have := hs.length_le
  rw [List.length_map] at this
  omega
theorem gpl_len {a b k : Int} (h : isC a b = true) (h1 : 0 ≤ k) (h2 : k ≤ 8) : ((gpl a b k).length : Int) = k := by
  have := gp8 h
  unfold gpl
  rw [List.length_take]; omega
set_option maxRecDepth 100000 in
set_option maxHeartbeats 4000000 in
theorem goodPrimes_any (a b k : Int) (hC : isC a b = true) (h1 : 1 ≤ k) (h2 : k ≤ 8) (w : World) : Calls Tryz.prog 53 #[.agg #[.int .i64 a, .int .i64 b], .int .i64 k] w (GivesOwn (gpl a b k) w) := by
  have H8 := Lib.hid (gp8 hC)
  have HG := Lib.hid (fun p w => isGood_any a b p w)
  skip
  have HT := Lib.hid (fun (n : Nat) (h : gdB a b ((n : Int) + 5) = true) => gpTo_t h)
  have HF := Lib.hid (fun (n : Nat) (h : gdB a b ((n : Int) + 5) = false) => gpTo_f h)
  have HE := Lib.hid (fun (n : Nat) (hn : n ≤ 993) (hl : ((gpTo a b n).length : Int) = k) => gpl_of hn hl)
  have HZ := Lib.hid (show gpTo a b 0 = [] from rfl)
  clear hC
  generalize gpl a b k = R at *
  generalize gpTo a b = T at *
  go_enter Tryz.func53, Tryz.ntmps53
  go_wp2
  refine name_world (fun W hW => ?_)
  have X0 : Box W w.heap.size [.int .i64 a, .int .i64 b] := by subst hW; exact box_two (by simp) (by simp [go_sem]) (by simp [go_sem]) (fun o => by simp [go_sem])
  have B0 : Below w.heap.size w W := by subst hW; repeat' (first | (with_reducible first | exact bq1 _ _ | assumption | refine bq2 ?_ ?_ _ | refine bq3 ?_ ?_ _ | refine bq4 ?_ | refine bq5 ?_ _) | (apply bthen2; (with_reducible assumption)) | go_size)
  clear hW
  go_loopw [5, 6] (fun v5 v6 wr => ∃ n : Nat, n ≤ 993 ∧ v6 = .int .i64 (n + 5) ∧ ((T n).length : Int) ≤ k ∧ Own wr W.heap.size v5 (T n) ∧ Below W.heap.size W wr) (fun _ v6 _ => (1000 - intOf v6).toNat)
  case atStart => exact ⟨0, by omega, rfl, by rw [HZ.out]; simp; omega, by rw [HZ.out]; exact Own.nil _ _, Below.refl _ _⟩
  case round =>
    obtain ⟨n, hn, rfl, hk, hown, hB⟩ := hrel
    obtain ⟨sa, sc, rfl⟩ := hown.slice
    have X := X0.below hB
    have q0 := X.2.1 0 _ rfl; have q1 := X.2.1 1 _ rfl; have ql := X.1
    have hsz := hB.size
    by_cases hlt : ((T n).length : Int) < k ∧ n < 993
    · obtain ⟨hlt, hn2⟩ := hlt
      cases hg : gdB a b ((n : Int) + 5) with
      | true =>
        have HN := Lib.hid (HT.out n hg)
        have HG1 := Lib.hid (fun w => HG.out ((n : Int) + 5) w)
        rw [hg] at HG1; clear hg
        have hl1 : ((T (n + 1)).length : Int) = (T n).length + 1 := by rw [HN.out]; simp
        have HL := Lib.hid hl1; clear hl1
        generalize T n = acc at *
        go_wp2_with (first | (go_at_call 71; refine (HG1.out _).mono ?_; rintro e w1 ⟨rfl, hb3⟩; have own1 := hown.below hb3; have hB1 := hB.trans (hb3.mono hsz); have hz1 := hb3.size) | (at_builtin; refine wpl_app rfl _ _ rfl W.heap.size _ acc rfl (own1.alloc _) ⟨w1.heap.size, 0, none⟩ 1 ((n : Int) + 5) rfl (by simp) (by omega) (Below.alloc hB1 hB1.size _) (by have := hB1.size; simp; omega) ?_; intro a1 cc1 w2 own2 hB2 hsz2))
        go_roundw
        case rel => exact ⟨n + 1, by omega, by go_num, by rw [HL.out]; omega, by rw [HN.out]; exact own2, hB2⟩
        case measure => simp [intOf]; omega
      | false =>
        have HN := Lib.hid (HF.out n hg)
        have HG1 := Lib.hid (fun w => HG.out ((n : Int) + 5) w)
        rw [hg] at HG1; clear hg
        generalize T n = acc at *
        go_wp2_with (first | (go_at_call 71; refine (HG1.out _).mono ?_; rintro e w1 ⟨rfl, hb3⟩; have own1 := hown.below hb3; have hB1 := hB.trans (hb3.mono hsz); have hz1 := hb3.size))
        go_roundw
        case rel => exact ⟨n + 1, by omega, by go_num, by rw [HN.out]; omega, by rw [HN.out]; exact own1, hB1⟩
        case measure => simp [intOf]; omega
    · have hkk : ((T n).length : Int) = k := by
        by_cases g : n = 993
        · subst g; have := H8.out; omega
        · omega
      have HR := Lib.hid (HE.out n hn hkk)
      clear hlt
      generalize T n = acc at *
      go_wp2
      go_ret
      refine ⟨sa, acc.length, sc, rfl, ?_, B0.trans (hB.mono B0.size)⟩
      rw [← HR.out]
      exact hown.mono B0.size
set_option maxHeartbeats 4000000 in
theorem toPrimes_any (a b k : Int) (hC : isC a b = true) (h1 : 1 ≤ k) (h2 : k ≤ 8) (w : World) : Calls Tryz.prog 57 #[.agg #[.int .i64 a, .int .i64 b], .int .i64 k] w (GivesOwn (gpl a b k) w) := by
  have H8 := Lib.hid (gp8 hC)
  have HG := Lib.hid (fun p w => fmGood_any a b p w)
  rw [hC] at HG; simp only [Bool.true_and] at HG
  have HT := Lib.hid (fun (n : Nat) (h : gdB a b ((n : Int) + 5) = true) => gpTo_t h)
  have HF := Lib.hid (fun (n : Nat) (h : gdB a b ((n : Int) + 5) = false) => gpTo_f h)
  have HE := Lib.hid (fun (n : Nat) (hn : n ≤ 993) (hl : ((gpTo a b n).length : Int) = k) => gpl_of hn hl)
  have HZ := Lib.hid (show gpTo a b 0 = [] from rfl)
  clear hC
  generalize gpl a b k = R at *
  generalize gpTo a b = T at *
  go_enter Tryz.func57, Tryz.ntmps57
  go_wp2
  refine name_world (fun W hW => ?_)
  have X0 : Box W w.heap.size [.int .i64 a, .int .i64 b] := by subst hW; exact box_two (by simp) (by simp [go_sem]) (by simp [go_sem]) (fun o => by simp [go_sem])
  have B0 : Below w.heap.size w W := by subst hW; repeat' (first | (with_reducible first | exact bq1 _ _ | assumption | refine bq2 ?_ ?_ _ | refine bq3 ?_ ?_ _ | refine bq4 ?_ | refine bq5 ?_ _) | (apply bthen2; (with_reducible assumption)) | go_size)
  clear hW
  go_loopw [5, 6] (fun v5 v6 wr => ∃ n : Nat, n ≤ 993 ∧ v6 = .int .i64 (n + 5) ∧ ((T n).length : Int) ≤ k ∧ Own wr W.heap.size v5 (T n) ∧ Below W.heap.size W wr) (fun _ v6 _ => (1000 - intOf v6).toNat)
  case atStart => exact ⟨0, by omega, rfl, by rw [HZ.out]; simp; omega, by rw [HZ.out]; exact Own.nil _ _, Below.refl _ _⟩
  case round =>
    obtain ⟨n, hn, rfl, hk, hown, hB⟩ := hrel
    obtain ⟨sa, sc, rfl⟩ := hown.slice
    have X := X0.below hB
    have q0 := X.2.1 0 _ rfl; have q1 := X.2.1 1 _ rfl; have ql := X.1
    have hsz := hB.size
    by_cases hlt : ((T n).length : Int) < k ∧ n < 993
    · obtain ⟨hlt, hn2⟩ := hlt
      cases hg : gdB a b ((n : Int) + 5) with
      | true =>
        have HN := Lib.hid (HT.out n hg)
        have HG1 := Lib.hid (fun w => HG.out ((n : Int) + 5) w)
        rw [hg] at HG1; clear hg
        have hl1 : ((T (n + 1)).length : Int) = (T n).length + 1 := by rw [HN.out]; simp
        have HL := Lib.hid hl1; clear hl1
        generalize T n = acc at *
        go_wp2_with (first | (go_at_call 76; refine (HG1.out _).mono ?_; rintro e w1 ⟨rfl, hb3⟩; have own1 := hown.below hb3; have hB1 := hB.trans (hb3.mono hsz); have hz1 := hb3.size) | (at_builtin; refine wpl_app rfl _ _ rfl W.heap.size _ acc rfl (own1.alloc _) ⟨w1.heap.size, 0, none⟩ 1 ((n : Int) + 5) rfl (by simp) (by omega) (Below.alloc hB1 hB1.size _) (by have := hB1.size; simp; omega) ?_; intro a1 cc1 w2 own2 hB2 hsz2))
        go_roundw
        case rel => exact ⟨n + 1, by omega, by go_num, by rw [HL.out]; omega, by rw [HN.out]; exact own2, hB2⟩
        case measure => simp [intOf]; omega
      | false =>
        have HN := Lib.hid (HF.out n hg)
        have HG1 := Lib.hid (fun w => HG.out ((n : Int) + 5) w)
        rw [hg] at HG1; clear hg
        generalize T n = acc at *
        go_wp2_with (first | (go_at_call 76; refine (HG1.out _).mono ?_; rintro e w1 ⟨rfl, hb3⟩; have own1 := hown.below hb3; have hB1 := hB.trans (hb3.mono hsz); have hz1 := hb3.size))
        go_roundw
        case rel => exact ⟨n + 1, by omega, by go_num, by rw [HN.out]; omega, by rw [HN.out]; exact own1, hB1⟩
        case measure => simp [intOf]; omega
    · have hkk : ((T n).length : Int) = k := by
        by_cases g : n = 993
        · subst g; have := H8.out; omega
        · omega
      have HR := Lib.hid (HE.out n hn hkk)
      clear hlt
      generalize T n = acc at *
      go_wp2
      go_ret
      refine ⟨sa, acc.length, sc, rfl, ?_, B0.trans (hB.mono B0.size)⟩
      rw [← HR.out]
      exact hown.mono B0.size
theorem isC_bd {a b : Int} (h : isC a b = true) : -1000 ≤ a ∧ a ≤ 1000 ∧ -10000 ≤ b ∧ b ≤ 10000 := by
  unfold isC at h
  rw [Bool.and_eq_true, Bool.and_eq_true] at h
  have h1 := inB_iff.1 h.1.1
  have h2 := inB_iff.1 h.1.2
  omega
noncomputable def tbT (a b k : Int) (j : Nat) : Int := ((gpl a b k).take j).foldl (fun d p => (Int.gcd d (cnt a b p) : Int)) 0
noncomputable def tbV (a b k : Int) : Int := (gpl a b k).foldl (fun d p => (Int.gcd d (cnt a b p) : Int)) 0
noncomputable def tbR (a b k : Int) : Value := if isC a b && inB k 1 8 then .tuple #[.int .i64 (tbV a b k), .bool true] else .tuple #[.int .i64 0, .bool false]
theorem tbR_f1 {a b k : Int} (h : isC a b = false) : tbR a b k = .tuple #[.int .i64 0, .bool false] := by unfold tbR; rw [h]; rfl
theorem tbR_f2 {a b k : Int} (h : inB k 1 8 = false) : tbR a b k = .tuple #[.int .i64 0, .bool false] := by unfold tbR; rw [h]; simp
theorem tbR_t {a b k : Int} (h : isC a b = true) (h2 : inB k 1 8 = true) : tbR a b k = .tuple #[.int .i64 (tbV a b k), .bool true] := by unfold tbR; rw [h, h2]; rfl
theorem tbT_zero (a b k : Int) : tbT a b k 0 = 0 := by unfold tbT; simp
theorem tbT_succ (a b k : Int) (j : Nat) (h : j < (gpl a b k).length) : tbT a b k (j + 1) = (Int.gcd (tbT a b k j) (cnt a b ((gpl a b k).getD j 0)) : Int) := by
  unfold tbT
  rw [List.take_add_one, List.getElem?_eq_getElem h, List.foldl_append]
  simp [List.getD, List.getElem?_eq_getElem h]
theorem tbT_all (a b k : Int) (j : Nat) (h : (gpl a b k).length ≤ j) : tbT a b k j = tbV a b k := by
  unfold tbT tbV; rw [List.take_of_length_le h]
theorem gpl_at {a b k : Int} {j : Nat} (h : j < (gpl a b k).length) : 5 ≤ (gpl a b k).getD j 0 ∧ (gpl a b k).getD j 0 ≤ 997 ∧ gdB a b ((gpl a b k).getD j 0) = true := by
  have e : (gpl a b k).getD j 0 = (gpl a b k)[j] := by simp [List.getD, List.getElem?_eq_getElem h]
  rw [e]; exact gpl_mem (List.getElem_mem h)
theorem cnt_gp {a b k : Int} (j : Nat) (h : j < (gpl a b k).length) : 1 ≤ cnt a b ((gpl a b k).getD j 0) ∧ cnt a b ((gpl a b k).getD j 0) ≤ 2000 := by
  have h1 := gpl_at h
  have := cnt_bd a b ((gpl a b k).getD j 0) (by omega)
  omega
theorem tbT_bd (a b k : Int) (j : Nat) : 0 ≤ tbT a b k j ∧ tbT a b k j ≤ 2000 := by
  induction j with
  | zero => rw [tbT_zero]; omega
  | succ j ih =>
    by_cases h : j < (gpl a b k).length
    · rw [tbT_succ a b k j h]
      have h1 := cnt_gp j h
      have := Int.gcd_le_right (tbT a b k j) (b := cnt a b ((gpl a b k).getD j 0)) (by omega)
      omega
    · have e : tbT a b k (j + 1) = tbT a b k j := by rw [tbT_all _ _ _ _ (by omega), tbT_all _ _ _ _ (by omega)]
      omega
set_option maxRecDepth 100000 in
set_option maxHeartbeats 4000000 in
theorem TorsionBound_any (a b k : Int) (w : World) : Calls Tryz.prog 15 #[.agg #[.int .i64 a, .int .i64 b], .int .i64 k] w (Gives (tbR a b k) w) := by
  have HI := Lib.hid (fun w => isCurve_any a b w)
  have HM := Lib.hid (fun w => inside_any k 1 8 w)
  cases hC : isC a b with
  | false =>
    have E := Lib.hid (tbR_f1 (k := k) hC)
    rw [hC] at HI; clear hC HM
    rw [E.out]; clear E
    go_enter Tryz.func15, Tryz.ntmps15
    go_wp2_with (first | (go_at_call 42; refine (HI.out _).mono ?_; rintro e w1 ⟨rfl, hb⟩; have hz := hb.size; (try simp only [wz1, wz2, wz3, wz4] at hz); try (refine keepc hb (w.heap.size) ?_ ?_; (focus (first | omega | (simp <;> omega))); intro hc0 hf0 hl0); try (refine keepc hb (w.heap.size + 1) ?_ ?_; (focus (first | omega | (simp <;> omega))); intro hc1 hf1 hl1); try (refine keepc hb (w.heap.size + 1 + 1) ?_ ?_; (focus (first | omega | (simp <;> omega))); intro hc2 hf2 hl2)))
    go_returns
    exact gives rfl gr
  | true =>
    rw [hC] at HI
    cases hk : inB k 1 8 with
    | false =>
      have E := Lib.hid (tbR_f2 (a := a) (b := b) hk)
      rw [hk] at HM; clear hC hk
      rw [E.out]; clear E
      go_enter Tryz.func15, Tryz.ntmps15
      go_wp2_with (first | (go_at_call 42; refine (HI.out _).mono ?_; rintro e w1 ⟨rfl, hb⟩; have hz := hb.size; (try simp only [wz1, wz2, wz3, wz4] at hz); try (refine keepc hb (w.heap.size) ?_ ?_; (focus (first | omega | (simp <;> omega))); intro hc0 hf0 hl0); try (refine keepc hb (w.heap.size + 1) ?_ ?_; (focus (first | omega | (simp <;> omega))); intro hc1 hf1 hl1); try (refine keepc hb (w.heap.size + 1 + 1) ?_ ?_; (focus (first | omega | (simp <;> omega))); intro hc2 hf2 hl2)) | (go_at_call 52; refine (HM.out _).mono ?_; rintro e w1 ⟨rfl, rfl⟩))
      go_returns
      exact gives rfl gr
    | true =>
      obtain ⟨k1, k2⟩ := inB_iff.1 hk
      obtain ⟨a1, a2, b1, b2⟩ := isC_bd hC
      have E := Lib.hid (tbR_t hC hk)
      rw [hk] at HM
      have HP := Lib.hid (fun w => goodPrimes_any a b k hC k1 k2 w)
      have HB := Lib.hid (fun j => tbT_bd a b k j)
      have HS := Lib.hid (fun j (hj : j < (gpl a b k).length) => tbT_succ a b k j hj)
      have HZ := Lib.hid (tbT_zero a b k)
      have HE := Lib.hid (fun j (hj : (gpl a b k).length ≤ j) => tbT_all a b k j hj)
      have HCt := Lib.hid (fun j (hj : j < (gpl a b k).length) w => countPoints_any a b ((gpl a b k).getD j 0) a1 a2 b1 b2 (by have := gpl_at hj; omega) (by have := gpl_at hj; omega) w)
      have HL := Lib.hid (fun j (hj : j < (gpl a b k).length) => cnt_gp (b := b) j hj)
      clear hC hk
      rw [E.out]; clear E
      generalize tbV a b k = R at *
      generalize tbT a b k = T at *
      generalize gpl a b k = l at *
      go_enter Tryz.func15, Tryz.ntmps15
      go_wp2_with (first | (go_at_call 42; refine (HI.out _).mono ?_; rintro e w1 ⟨rfl, hb⟩; have hz := hb.size; (try simp only [wz1, wz2, wz3, wz4] at hz); try (refine keepc hb (w.heap.size) ?_ ?_; (focus (first | omega | (simp <;> omega))); intro hc0 hf0 hl0); try (refine keepc hb (w.heap.size + 1) ?_ ?_; (focus (first | omega | (simp <;> omega))); intro hc1 hf1 hl1); try (refine keepc hb (w.heap.size + 1 + 1) ?_ ?_; (focus (first | omega | (simp <;> omega))); intro hc2 hf2 hl2)) | (go_at_call 52; refine (HM.out _).mono ?_; rintro e w1 ⟨rfl, rfl⟩) | (go_at_call 53; refine (HP.out _).mono ?_; rintro e w2 ⟨sa, sl, sc, rfl, hown, hb2⟩))
      refine name_world (fun W hW => ?_)
      have X0 : Box W w.heap.size [.int .i64 a, .int .i64 b] := by subst hW; exact (Box.below (box_two (by first | omega | (simp; done) | (simp; omega)) (by simp [go_sem]) (by simp [go_sem]) (fun o => by simp [go_sem])) hb).below hb2
      have B0 : Below w.heap.size w W := by subst hW; repeat' (first | (with_reducible first | exact bq1 _ _ | assumption | refine bq2 ?_ ?_ _ | refine bq3 ?_ ?_ _ | refine bq4 ?_ | refine bq5 ?_ _) | (apply bthen2; (with_reducible assumption)) | go_size)
      have own0 : Ints W (.slice sa sl sc) l := by subst hW; exact hown.ints
      clear hW
      obtain ⟨hl, hl2, hc⟩ := own0.cell
      have HC := Lib.hid hc; clear hc
      have HLL := Lib.hid hl; clear hl
      go_loopw [6, 21] (fun v6 v21 wr => ∃ j : Nat, j ≤ sl ∧ v21 = .int .i64 j ∧ v6 = .int .i64 (T j) ∧ Below W.heap.size W wr) (fun _ v21 _ => sl - (intOf v21).toNat)
      case atStart => exact ⟨0, by omega, rfl, by rw [HZ.out], Below.refl _ _⟩
      case round =>
        obtain ⟨j, hj, rfl, rfl, hB⟩ := hrel
        have X := X0.below hB
        have q0 := X.2.1 0 _ rfl; have q1 := X.2.1 1 _ rfl; have ql := X.1
        have hsz := hB.size
        have hT := HB.out j
        by_cases hlt : j < sl
        · obtain ⟨bk, off, rfl, hbl, c0⟩ := HC.out j hlt
          have c1 := (hB.cell (p := ⟨bk, off + j, none⟩) hbl).trans c0
          have hlj : j < l.length := by rw [HLL.out]; exact hlt
          have HS1 := Lib.hid (HS.out j hlj)
          have HC1 := Lib.hid (HCt.out j hlj)
          obtain ⟨hL1, hL2⟩ := HL.out j hlj
          clear c0
          generalize l.getD j 0 = p at *
          have hT1 := HB.out (j + 1)
          rw [HS1.out] at hT1
          generalize T j = d at *
          generalize cnt a b p = C at *
          have HG := Lib.hid (fun w => gcd_any d C (by omega) (by omega) (by omega) (by omega) w)
          go_wp2_with (first | (go_at_call 55; refine (HC1.out _).mono ?_; rintro e w3 ⟨rfl, hb3⟩; have hB1 := hB.trans (hb3.mono hsz)) | (go_at_call 54; refine (HG.out _).mono ?_; rintro e w4 ⟨rfl, nq, rfl⟩))
          go_roundw
          case rel => exact ⟨j + 1, by omega, by go_num, by rw [HS1.out], below_drewN hB1 _⟩
          case measure => simp [intOf]; omega
        · have hR := Lib.hid (HE.out j (by rw [HLL.out]; omega))
          go_wp2
          go_returns
          rw [← hR.out]
          exact gives rfl (B0.trans (hB.mono B0.size))
theorem toMany_any (k : Int) (w : World) : Calls Tryz.prog 56 #[.int .i64 k] w (Same (.bool (inB k 1 8)) w) := by
  go_enter Tryz.func56, Tryz.ntmps56
  go_wp2_with (go_at_call 63; refine (l1In_any _ _ _ _).mono ?_; rintro e w1 ⟨rfl, rfl⟩)
  go_ret
  exact same rfl
set_option maxRecDepth 100000 in
set_option maxHeartbeats 4000000 in
theorem sTorsionBound_any (a b k : Int) (w : World) : Calls Tryz.prog 16 #[.agg #[.int .i64 a, .int .i64 b], .int .i64 k] w (Gives (tbR a b k) w) := by
  have HI := Lib.hid (fun w => ecGood_any a b w)
  have HM := Lib.hid (fun w => toMany_any k w)
  cases hC : isC a b with
  | false =>
    have E := Lib.hid (tbR_f1 (k := k) hC)
    rw [hC] at HI; clear hC HM
    rw [E.out]; clear E
    go_enter Tryz.func16, Tryz.ntmps16
    go_wp2_with (first | (go_at_call 44; refine (HI.out _).mono ?_; rintro e w1 ⟨rfl, hb⟩; have hz := hb.size; (try simp only [wz1, wz2, wz3, wz4] at hz); try (refine keepc hb (w.heap.size) ?_ ?_; (focus (first | omega | (simp <;> omega))); intro hc0 hf0 hl0); try (refine keepc hb (w.heap.size + 1) ?_ ?_; (focus (first | omega | (simp <;> omega))); intro hc1 hf1 hl1); try (refine keepc hb (w.heap.size + 1 + 1) ?_ ?_; (focus (first | omega | (simp <;> omega))); intro hc2 hf2 hl2)))
    go_returns
    exact gives rfl gr
  | true =>
    rw [hC] at HI
    cases hk : inB k 1 8 with
    | false =>
      have E := Lib.hid (tbR_f2 (a := a) (b := b) hk)
      rw [hk] at HM; clear hC hk
      rw [E.out]; clear E
      go_enter Tryz.func16, Tryz.ntmps16
      go_wp2_with (first | (go_at_call 44; refine (HI.out _).mono ?_; rintro e w1 ⟨rfl, hb⟩; have hz := hb.size; (try simp only [wz1, wz2, wz3, wz4] at hz); try (refine keepc hb (w.heap.size) ?_ ?_; (focus (first | omega | (simp <;> omega))); intro hc0 hf0 hl0); try (refine keepc hb (w.heap.size + 1) ?_ ?_; (focus (first | omega | (simp <;> omega))); intro hc1 hf1 hl1); try (refine keepc hb (w.heap.size + 1 + 1) ?_ ?_; (focus (first | omega | (simp <;> omega))); intro hc2 hf2 hl2)) | (go_at_call 56; refine (HM.out _).mono ?_; rintro e w1 ⟨rfl, rfl⟩))
      go_returns
      exact gives rfl gr
    | true =>
      obtain ⟨k1, k2⟩ := inB_iff.1 hk
      obtain ⟨a1, a2, b1, b2⟩ := isC_bd hC
      have E := Lib.hid (tbR_t hC hk)
      rw [hk] at HM
      have HP := Lib.hid (fun w => toPrimes_any a b k hC k1 k2 w)
      have HB := Lib.hid (fun j => tbT_bd a b k j)
      have HS := Lib.hid (fun j (hj : j < (gpl a b k).length) => tbT_succ a b k j hj)
      have HZ := Lib.hid (tbT_zero a b k)
      have HE := Lib.hid (fun j (hj : (gpl a b k).length ≤ j) => tbT_all a b k j hj)
      have HCt := Lib.hid (fun j (hj : j < (gpl a b k).length) w => fmCount_any a b ((gpl a b k).getD j 0) a1 a2 b1 b2 (gdB_iff.1 (gpl_at hj).2.2).2.2.1 (by have := gpl_at hj; omega) (by have := gpl_at hj; omega) w)
      have HL := Lib.hid (fun j (hj : j < (gpl a b k).length) => cnt_gp (b := b) j hj)
      clear hC hk
      rw [E.out]; clear E
      generalize tbV a b k = R at *
      generalize tbT a b k = T at *
      generalize gpl a b k = l at *
      go_enter Tryz.func16, Tryz.ntmps16
      go_wp2_with (first | (go_at_call 44; refine (HI.out _).mono ?_; rintro e w1 ⟨rfl, hb⟩; have hz := hb.size; (try simp only [wz1, wz2, wz3, wz4] at hz); try (refine keepc hb (w.heap.size) ?_ ?_; (focus (first | omega | (simp <;> omega))); intro hc0 hf0 hl0); try (refine keepc hb (w.heap.size + 1) ?_ ?_; (focus (first | omega | (simp <;> omega))); intro hc1 hf1 hl1); try (refine keepc hb (w.heap.size + 1 + 1) ?_ ?_; (focus (first | omega | (simp <;> omega))); intro hc2 hf2 hl2)) | (go_at_call 56; refine (HM.out _).mono ?_; rintro e w1 ⟨rfl, rfl⟩) | (go_at_call 57; refine (HP.out _).mono ?_; rintro e w2 ⟨sa, sl, sc, rfl, hown, hb2⟩))
      refine name_world (fun W hW => ?_)
      have X0 : Box W w.heap.size [.int .i64 a, .int .i64 b] := by subst hW; exact (Box.below (box_two (by first | omega | (simp; done) | (simp; omega)) (by simp [go_sem]) (by simp [go_sem]) (fun o => by simp [go_sem])) hb).below hb2
      have B0 : Below w.heap.size w W := by subst hW; repeat' (first | (with_reducible first | exact bq1 _ _ | assumption | refine bq2 ?_ ?_ _ | refine bq3 ?_ ?_ _ | refine bq4 ?_ | refine bq5 ?_ _) | (apply bthen2; (with_reducible assumption)) | go_size)
      have own0 : Ints W (.slice sa sl sc) l := by subst hW; exact hown.ints
      clear hW
      obtain ⟨hl, hl2, hc⟩ := own0.cell
      have HC := Lib.hid hc; clear hc
      have HLL := Lib.hid hl; clear hl
      go_loopw [6, 21] (fun v6 v21 wr => ∃ j : Nat, j ≤ sl ∧ v21 = .int .i64 j ∧ v6 = .int .i64 (T j) ∧ Below W.heap.size W wr) (fun _ v21 _ => sl - (intOf v21).toNat)
      case atStart => exact ⟨0, by omega, rfl, by rw [HZ.out], Below.refl _ _⟩
      case round =>
        obtain ⟨j, hj, rfl, rfl, hB⟩ := hrel
        have X := X0.below hB
        have q0 := X.2.1 0 _ rfl; have q1 := X.2.1 1 _ rfl; have ql := X.1
        have hsz := hB.size
        have hT := HB.out j
        by_cases hlt : j < sl
        · obtain ⟨bk, off, rfl, hbl, c0⟩ := HC.out j hlt
          have c1 := (hB.cell (p := ⟨bk, off + j, none⟩) hbl).trans c0
          have hlj : j < l.length := by rw [HLL.out]; exact hlt
          have HS1 := Lib.hid (HS.out j hlj)
          have HC1 := Lib.hid (HCt.out j hlj)
          obtain ⟨hL1, hL2⟩ := HL.out j hlj
          clear c0
          generalize l.getD j 0 = p at *
          have hT1 := HB.out (j + 1)
          rw [HS1.out] at hT1
          generalize T j = d at *
          generalize cnt a b p = C at *
          have HG := Lib.hid (fun w => bgCommon_any d C (by omega) (by omega) w)
          go_wp2_with (first | (go_at_call 59; refine (HC1.out _).mono ?_; rintro e w3 ⟨rfl, hb3⟩; have hB1 := hB.trans (hb3.mono hsz)) | (go_at_call 58; refine (HG.out _).mono ?_; rintro e w4 ⟨rfl, rfl⟩))
          go_roundw
          case rel => exact ⟨j + 1, by omega, by go_num, by rw [HS1.out], hB1⟩
          case measure => simp [intOf]; omega
        · have hR := Lib.hid (HE.out j (by rw [HLL.out]; omega))
          go_wp2
          go_returns
          rw [← hR.out]
          exact gives rfl (B0.trans (hB.mono B0.size))
end Go.Proofs.YtjgdajeoeagggaaGreat
