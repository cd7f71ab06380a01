import Derived.Test.YtelkmldmebdcgaaRatio
set_option linter.unusedSimpArgs false
set_option linter.unusedVariables false
namespace Go.Proofs.Ytelkmldmebdcgaa
open Go.RowKit
/-! ### wholes are compared -/

def cmpI (x y : Int) : Int := if x < y then -1 else if y < x then 1 else 0
theorem cmpI_lt {x y : Int} (h : x < y) : cmpI x y = -1 := by unfold cmpI; rw [if_pos h]
theorem cmpI_gt {x y : Int} (h : y < x) : cmpI x y = 1 := by unfold cmpI; rw [if_neg (by omega), if_pos h]
theorem cmpI_eq {x y : Int} (h : x = y) : cmpI x y = 0 := by unfold cmpI; rw [if_neg (by omega), if_neg (by omega)]
theorem val_ht (xs : List Int) : val xs = xs.getD 0 0 + 10000 * val xs.tail := by cases xs <;> simp [val]
theorem getD_tl (xs : List Int) (j : Nat) : xs.getD (j + 1) 0 = xs.tail.getD j 0 := by cases xs <;> simp
theorem InR.tl {xs : List Int} (h : InR xs) : InR xs.tail := fun x hx => h x (List.mem_of_mem_tail hx)
theorem InR.at {xs : List Int} (h : InR xs) (i : Nat) : 0 ≤ xs.getD i 0 ∧ xs.getD i 0 ≤ 9999 := by
  by_cases hi : i < xs.length
  · simp only [List.getD, List.getElem?_eq_getElem hi, Option.getD_some]; exact h _ (List.getElem_mem hi)
  · simp only [List.getD, List.getElem?_eq_none (show xs.length ≤ i by omega), Option.getD_none]; omega
theorem val_same (n : Nat) : ∀ (xs ys : List Int), xs.length + ys.length ≤ n → (∀ j, xs.getD j 0 = ys.getD j 0) → val xs = val ys := by
  induction n with
  | zero =>
    intro xs ys h _
    have e1 : xs = [] := List.length_eq_zero_iff.1 (by omega)
    have e2 : ys = [] := List.length_eq_zero_iff.1 (by omega)
    rw [e1, e2]
  | succ n ih =>
    intro xs ys h he
    by_cases h0 : xs.length + ys.length = 0
    · have e1 : xs = [] := List.length_eq_zero_iff.1 (by omega)
      have e2 : ys = [] := List.length_eq_zero_iff.1 (by omega)
      rw [e1, e2]
    · rw [val_ht xs, val_ht ys, he 0, ih xs.tail ys.tail (by simp; omega) (fun j => by rw [← getD_tl, ← getD_tl]; exact he (j + 1))]
theorem val_less (i : Nat) : ∀ (xs ys : List Int), InR xs → InR ys → (∀ j, i < j → xs.getD j 0 = ys.getD j 0) → xs.getD i 0 < ys.getD i 0 → val xs < val ys := by
  induction i with
  | zero =>
    intro xs ys hx hy he hl
    have := val_same _ xs.tail ys.tail (Nat.le_refl _) (fun j => by rw [← getD_tl, ← getD_tl]; exact he (j + 1) (by omega))
    rw [val_ht xs, val_ht ys, this]; omega
  | succ i ih =>
    intro xs ys hx hy he hl
    have := ih xs.tail ys.tail hx.tl hy.tl (fun j hj => by rw [← getD_tl, ← getD_tl]; exact he (j + 1) (by omega)) (by rw [← getD_tl, ← getD_tl]; exact hl)
    have a := hx.at 0
    have b := hy.at 0
    rw [val_ht xs, val_ht ys]; omega
theorem val_ge {xs : List Int} (h : Can xs) (h0 : xs ≠ []) : 10000 ^ (xs.length - 1) ≤ val xs := by
  have e := dg_val h
  have hn := val_nonneg h.1
  have h1 : ¬ (dg (val xs).toNat).length ≤ xs.length - 1 := by
    rw [e]; have : xs.length ≠ 0 := fun g => h0 (List.length_eq_zero_iff.1 g); omega
  rw [dg_len_iff] at h1
  have h2 : ((10000 ^ (xs.length - 1) : Nat) : Int) ≤ ((val xs).toNat : Int) := by omega
  rw [Int.natCast_pow] at h2
  simp at h2
  omega
theorem val_len {xs ys : List Int} (hx : Can xs) (hy : Can ys) (h : xs.length < ys.length) : val xs < val ys := by
  have h1 := val_lt hx.1
  have h2 := val_ge hy (fun g => by rw [g] at h; simp at h)
  have h3 : (10000 : Int) ^ xs.length ≤ 10000 ^ (ys.length - 1) := by
    have : xs.length ≤ ys.length - 1 := by omega
    generalize ys.length - 1 = n at this
    induction this with
    | refl => exact Int.le_refl _
    | @step m _ ih =>
      refine Int.le_trans ih ?_
      rw [Int.pow_succ]
      have h0 : (0 : Int) ≤ 10000 ^ m := Int.pow_nonneg (by omega)
      omega
  omega

theorem whB_can {neg : Bool} {xs : List Int} (h : whB neg xs = true) : Can xs ∧ xs.length ≤ 400 ∧ (neg = true → xs ≠ []) := by
  unfold whB at h
  simp only [Bool.and_eq_true, decide_eq_true_eq, Bool.or_eq_true, Bool.not_eq_true', List.all_eq_true, inB_iff, beq_iff_eq, Bool.and_eq_false_iff] at h
  obtain ⟨⟨⟨h1, h2⟩, h3⟩, h4⟩ := h
  refine ⟨⟨fun x hx => h4 x hx, ?_⟩, h1, ?_⟩
  · intro hl
    rcases h3 with h3 | h3
    · have : xs = [] := List.length_eq_zero_iff.1 h3
      rw [this] at hl; simp at hl
    · have hne : xs ≠ [] := fun g => by rw [g] at hl; simp at hl
      have : xs.getD (xs.length - 1) 0 = 0 := by
        rw [List.getLast?_eq_getElem?] at hl
        simp [List.getD, hl]
      rw [this] at h3; simp at h3
  · intro hn hxs
    rcases h2 with h2 | h2
    · rw [hxs] at h2; simp at h2
    · rw [hn] at h2; cases h2

theorem isNaN_any (x : Int) (w : World) : Calls Try.prog 132 #[.int .i64 x] w (Same (.bool false) w) := by
  have h : (x != x) = false := by simp
  go_enter Try.func132, Try.ntmps132
  go_wp2
  go_ret
  exact same rfl
theorem cmpCompare_any (x y : Int) (w : World) : Calls Try.prog 114 #[.int .i64 x, .int .i64 y] w (Same (.int .i64 (cmpI x y)) w) := by
  have HN := Lib.hid (fun x w => isNaN_any x w)
  rcases Int.lt_trichotomy x y with h | h | h
  · have E := Lib.hid (cmpI_lt h)
    go_enter Try.func114, Try.ntmps114
    go_wp2_with (first | (go_at_call 132; refine (HN.out _ _).mono ?_; rintro e w1 ⟨rfl, rfl⟩))
    go_ret; exact same (vint E.out.symm)
  · have E := Lib.hid (cmpI_eq h)
    have h1 : ¬ x < y := by omega
    have h2 : ¬ y < x := by omega
    clear h
    go_enter Try.func114, Try.ntmps114
    go_wp2_with (first | (go_at_call 132; refine (HN.out _ _).mono ?_; rintro e w1 ⟨rfl, rfl⟩))
    go_ret; exact same (vint E.out.symm)
  · have E := Lib.hid (cmpI_gt h)
    go_enter Try.func114, Try.ntmps114
    go_wp2_with (first | (go_at_call 132; refine (HN.out _ _).mono ?_; rintro e w1 ⟨rfl, rfl⟩))
    go_ret; exact same (vint E.out.symm)

theorem bgLimb_any (s : Value) (xs : List Int) (k : Nat) (hk : k ≤ 4000000000000000000) (w : World) (hx : Ints w s xs) : Calls Try.prog 116 #[s, .int .i64 k] w (Same (.int .i64 (xs.getD k 0)) w) := by
  obtain ⟨a, len, cap, rfl⟩ : ∃ a len cap, s = .slice a len cap := by
    rcases hx with ⟨a, cap, rfl, _⟩ | ⟨b, off, len, cap, rfl, _⟩ <;> exact ⟨_, _, _, rfl⟩
  obtain ⟨h1, h2, h3⟩ := hx.cell
  clear hx
  by_cases h : k < len
  · obtain ⟨b, off, ha, hbl, c0⟩ := h3 k h
    subst ha
    generalize xs.getD k 0 = X at *
    clear h3 h1
    go_enter Try.func116, Try.ntmps116
    go_wp2
    go_ret; exact same rfl
  · have e : xs.getD k 0 = 0 := by simp [List.getD, List.getElem?_eq_none (show xs.length ≤ k by omega)]
    rw [e]
    clear h3 h1 e
    go_enter Try.func116, Try.ntmps116
    go_wp2
    go_ret; exact same rfl

theorem max_nat (a b : Nat) : max (a : Int) (b : Int) = ((max a b : Nat) : Int) := by omega
set_option maxHeartbeats 1000000 in
theorem bgOrder_any (s t : Value) (xs ys : List Int) (w : World) (hx : Ints w s xs) (hy : Ints w t ys) (rx : InR xs) (ry : InR ys) (lx : xs.length ≤ 1000000) (ly : ys.length ≤ 1000000) : Calls Try.prog 87 #[s, t] w (Same (.int .i64 (cmpI (val xs) (val ys))) w) := by
  obtain ⟨a, len, cap, rfl⟩ : ∃ a len cap, s = .slice a len cap := by
    rcases hx with ⟨a, cap, rfl, _⟩ | ⟨b, off, len, cap, rfl, _⟩ <;> exact ⟨_, _, _, rfl⟩
  obtain ⟨a2, len2, cap2, rfl⟩ : ∃ a len cap, t = .slice a len cap := by
    rcases hy with ⟨a, cap, rfl, _⟩ | ⟨b, off, len, cap, rfl, _⟩ <;> exact ⟨_, _, _, rfl⟩
  obtain ⟨h1, h2, -⟩ := hx.cell
  obtain ⟨k1, k2, -⟩ := hy.cell
  have HM := Lib.hid (fun w => l1Most_any (len : Int) (len2 : Int) w)
  rw [max_nat] at HM
  have HL := Lib.hid (fun (k : Nat) hk w => bgLimb_any (.slice a len cap) xs k hk w)
  have HL2 := Lib.hid (fun (k : Nat) hk w => bgLimb_any (.slice a2 len2 cap2) ys k hk w)
  have HX := Lib.hid hx; have HY := Lib.hid hy
  have HLT := Lib.hid (fun i he hl => val_less i xs ys rx ry he hl)
  have HGT := Lib.hid (fun i he hl => val_less i ys xs ry rx he hl)
  have HEQ := Lib.hid (val_same _ xs ys (Nat.le_refl _))
  have HS := Lib.hid (show ∀ j, max len len2 ≤ j → xs.getD j 0 = ys.getD j 0 from fun j hj => by
    simp [List.getD, List.getElem?_eq_none (show xs.length ≤ j by omega), List.getElem?_eq_none (show ys.length ≤ j by omega)])
  have RX := Lib.hid rx; have RY := Lib.hid ry
  have hmb : max len len2 ≤ 1000000 := by omega
  generalize val xs = X at *
  generalize val ys = Y at *
  clear hx hy rx ry h1 k1
  generalize max len len2 = M at *
  go_enter Try.func87, Try.ntmps87
  go_wp2_with (first | (go_at_call 115; refine (HM.out _).mono ?_; rintro e w1 ⟨rfl, rfl⟩))
  go_loop [5] (fun v5 => ∃ k : Nat, k ≤ M ∧ v5 = .int .i64 ((k : Int) - 1) ∧ Hid (∀ j, k ≤ j → xs.getD j 0 = ys.getD j 0)) (fun v5 => (intOf v5 + 1).toNat)
  case atStart => exact ⟨M, Nat.le_refl _, rfl, HS⟩
  case round =>
    obtain ⟨k, hk, rfl, HJ⟩ := hrel
    cases k with
    | zero =>
      have E := Lib.hid (cmpI_eq (HEQ.out (fun j => HJ.out j (by omega))))
      go_wp2
      go_ret
      exact same (vint E.out.symm)
    | succ k =>
      have hl := fun w => HL.out k (by omega) w
      have hl2 := fun w => HL2.out k (by omega) w
      have e0 : ((k + 1 : Nat) : Int) - 1 = (k : Int) := by omega
      rw [e0]
      rcases Int.lt_trichotomy (xs.getD k 0) (ys.getD k 0) with h | h | h
      · have E := Lib.hid (cmpI_lt (HLT.out k (fun j hj => HJ.out j (by omega)) h))
        generalize xs.getD k 0 = A at *
        generalize ys.getD k 0 = B at *
        have HA := Lib.hid hl; have HB := Lib.hid hl2
        clear hl hl2
        go_wp2_with (first | (go_at_call_of 116 (Value.slice a len cap); refine (HA.out _ HX.out).mono ?_; rintro e w1 ⟨rfl, rfl⟩) | (go_at_call_of 116 (Value.slice a2 len2 cap2); refine (HB.out _ HY.out).mono ?_; rintro e w1 ⟨rfl, rfl⟩))
        go_ret
        exact same (vint E.out.symm)
      · have HJ2 := Lib.hid (show ∀ j, k ≤ j → xs.getD j 0 = ys.getD j 0 from fun j hj => by
          by_cases e : j = k
          · subst e; exact h
          · exact HJ.out j (by omega))
        rw [← h] at hl2
        generalize xs.getD k 0 = A at *
        have hAA : ¬ A < A := by omega
        have HA := Lib.hid hl; have HB := Lib.hid hl2
        clear hl hl2 h
        go_wp2_with (first | (go_at_call_of 116 (Value.slice a len cap); refine (HA.out _ HX.out).mono ?_; rintro e w1 ⟨rfl, rfl⟩) | (go_at_call_of 116 (Value.slice a2 len2 cap2); refine (HB.out _ HY.out).mono ?_; rintro e w1 ⟨rfl, rfl⟩))
        go_round
        case rel => exact ⟨k, by omega, rfl, HJ2⟩
        case measure => first | (simp [intOf]; done) | (simp [intOf]; omega)
      · have E := Lib.hid (cmpI_gt (HGT.out k (fun j hj => (HJ.out j (by omega)).symm) h))
        generalize xs.getD k 0 = A at *
        generalize ys.getD k 0 = B at *
        have HA := Lib.hid hl; have HB := Lib.hid hl2
        clear hl hl2
        go_wp2_with (first | (go_at_call_of 116 (Value.slice a len cap); refine (HA.out _ HX.out).mono ?_; rintro e w1 ⟨rfl, rfl⟩) | (go_at_call_of 116 (Value.slice a2 len2 cap2); refine (HB.out _ HY.out).mono ?_; rintro e w1 ⟨rfl, rfl⟩))
        go_ret
        exact same (vint E.out.symm)

set_option maxHeartbeats 2000000 in
theorem compareSizes_any (n1 n2 : Bool) (a a2 : Option Addr) (len cap len2 cap2 : Nat) (xs ys : List Int) (w : World) (hx : Ints w (.slice a len cap) xs) (hy : Ints w (.slice a2 len2 cap2) ys) (rx : Can xs) (ry : Can ys) (lx : xs.length ≤ 1000000) (ly : ys.length ≤ 1000000) :
    Calls Try.prog 86 #[.agg #[.bool n1, .slice a len cap], .agg #[.bool n2, .slice a2 len2 cap2]] w (Gives (.int .i64 (cmpI (val xs) (val ys))) w) := by
  obtain ⟨h1, h2, h3⟩ := hx.cell
  obtain ⟨k1, k2, k3⟩ := hy.cell
  have HK := Lib.hid (fun x y w => cmpCompare_any x y w)
  rcases Nat.lt_trichotomy len len2 with hl | hl | hl
  · have E := Lib.hid (cmpI_lt (val_len rx ry (by omega)))
    have hk := fun w => HK.out (len : Int) (len2 : Int) w
    rw [cmpI_lt (show (len : Int) < len2 by omega)] at hk
    have HKK := Lib.hid hk
    clear hx hy h3 k3 hk h1 k1
    go_enter Try.func86, Try.ntmps86
    go_wp2_with (first | (go_at_call 114; refine (HKK.out _).mono ?_; rintro e w1 ⟨rfl, rfl⟩))
    go_ret
    exact gives (vint E.out.symm) (by repeat' (first | (with_reducible exact Below.refl _ _) | (with_reducible assumption) | (with_reducible refine Below.alloc ?_ ?_ _) | (with_reducible refine Below.setCell ?_ ?_ _) | (with_reducible refine Below.drew ?_) | (with_reducible refine below_drewN ?_ _) | (apply bthen2; (with_reducible assumption)) | go_size))
  · subst hl
    have HC := Lib.hid h3; have HC2 := Lib.hid k3
    have HLT := Lib.hid (fun i he hl => val_less i xs ys rx.1 ry.1 he hl)
    have HGT := Lib.hid (fun i he hl => val_less i ys xs ry.1 rx.1 he hl)
    have HEQ := Lib.hid (val_same _ xs ys (Nat.le_refl _))
    have HS := Lib.hid (show ∀ j, len ≤ j → xs.getD j 0 = ys.getD j 0 from fun j hj => by
      simp [List.getD, List.getElem?_eq_none (show xs.length ≤ j by omega), List.getElem?_eq_none (show ys.length ≤ j by omega)])
    have hlb : len ≤ 1000000 := by omega
    generalize val xs = X at *
    generalize val ys = Y at *
    clear hx hy rx ry h1 k1 h3 k3 h2 k2
    go_enter Try.func86, Try.ntmps86
    go_wp2
    refine name_world (fun W1 hW1 => ?_)
    have c0 : W1.cell? ⟨w.heap.size, 1, none⟩ = some (.slice a len cap) := by rw [hW1]; simp
    have c1 : W1.cell? ⟨w.heap.size + 1, 1, none⟩ = some (.slice a2 len cap2) := by rw [hW1]; simp
    have hB1 : Below w.heap.size w W1 := by rw [hW1]; repeat' (first | (with_reducible exact Below.refl _ _) | (with_reducible assumption) | (with_reducible refine Below.alloc ?_ ?_ _) | (with_reducible refine Below.setCell ?_ ?_ _) | (with_reducible refine Below.drew ?_) | (with_reducible refine below_drewN ?_ _) | (apply bthen2; (with_reducible assumption)) | go_size)
    clear hW1
    go_loopw [5] (fun v5 wr => ∃ k n : Nat, k ≤ len ∧ v5 = .int .i64 ((k : Int) - 1) ∧ Hid (∀ j, k ≤ j → xs.getD j 0 = ys.getD j 0) ∧ wr = W1.drewN (0 + n)) (fun v5 _ => (intOf v5 + 1).toNat)
    case atStart => exact ⟨len, 0, Nat.le_refl _, rfl, HS, rfl⟩
    case round =>
      obtain ⟨k, n, hk, rfl, HJ, rfl⟩ := hrel
      cases k with
      | zero =>
        have E := Lib.hid (cmpI_eq (HEQ.out (fun j => HJ.out j (by omega))))
        go_wp2
        go_ret
        exact gives (vint E.out.symm) (by repeat (first | exact hB1 | apply below_drewN))
      | succ k =>
        have e0 : ((k + 1 : Nat) : Int) - 1 = (k : Int) := by omega
        rw [e0]
        obtain ⟨b, off, ha, hbl, p0⟩ := HC.out k (by omega)
        obtain ⟨b', off', ha', hbl', q0⟩ := HC2.out k (by omega)
        subst ha ha'
        have p1 : W1.cell? ⟨b, off + k, none⟩ = some (.int .i64 (xs.getD k 0)) := (hB1.cell (p := ⟨b, off + k, none⟩) hbl).trans p0
        have q1 : W1.cell? ⟨b', off' + k, none⟩ = some (.int .i64 (ys.getD k 0)) := (hB1.cell (p := ⟨b', off' + k, none⟩) hbl').trans q0
        have i1 : (0 : Int) ≤ (k : Int) := by omega
        have i2 : (k : Int) < (len : Int) := by omega
        rcases Int.lt_trichotomy (xs.getD k 0) (ys.getD k 0) with h | h | h
        · have E := Lib.hid (cmpI_lt (HLT.out k (fun j hj => HJ.out j (by omega)) h))
          have hk := fun w => HK.out (xs.getD k 0) (ys.getD k 0) w
          rw [cmpI_lt h] at hk
          generalize xs.getD k 0 = A at *
          generalize ys.getD k 0 = B at *
          have HKK := Lib.hid hk
          have hne : (A != B) = true := by simp; omega
          clear hk p0 q0
          go_wp2
          go_quiet (fail)
          go_wp2
          refine name_world (fun W2 hW2 => ?_)
          have e0 : W2.cell? ⟨w.heap.size, 1, none⟩ = some (.slice (some ⟨b, off, none⟩) len cap) := by rw [hW2]; simpa using c0
          have e1 : W2.cell? ⟨w.heap.size + 1, 1, none⟩ = some (.slice (some ⟨b', off', none⟩) len cap2) := by rw [hW2]; simpa using c1
          have r0 : W2.cell? ⟨b, off + k, none⟩ = some (.int .i64 A) := by rw [hW2]; simpa using p1
          have r1 : W2.cell? ⟨b', off' + k, none⟩ = some (.int .i64 B) := by rw [hW2]; simpa using q1
          have hB2 : Below w.heap.size w W2 := by rw [hW2]; repeat (first | exact hB1 | apply below_drewN)
          clear hW2 c0 c1 p1 q1
          go_quiet ((go_at_call 114; exact qs (HKK.out _)))
          go_wp2
          go_ret
          exact gives (vint E.out.symm) (by repeat (first | exact hB2 | apply below_drewN))
        · have HJ2 := Lib.hid (show ∀ j, k ≤ j → xs.getD j 0 = ys.getD j 0 from fun j hj => by
            by_cases e : j = k
            · subst e; exact h
            · exact HJ.out j (by omega))
          rw [← h] at q1
          generalize xs.getD k 0 = A at *
          have hne : (A != A) = false := by simp
          clear h p0 q0
          go_wp2
          go_quiet (fail)
          go_wp2
          go_roundw
          case rel => exact ⟨k, _, by omega, rfl, HJ2, by rw [Nat.zero_add]⟩
          case measure => first | (simp [intOf]; done) | (simp [intOf]; omega)
        · have E := Lib.hid (cmpI_gt (HGT.out k (fun j hj => (HJ.out j (by omega)).symm) h))
          have hk := fun w => HK.out (xs.getD k 0) (ys.getD k 0) w
          rw [cmpI_gt h] at hk
          generalize xs.getD k 0 = A at *
          generalize ys.getD k 0 = B at *
          have HKK := Lib.hid hk
          have hne : (A != B) = true := by simp; omega
          clear hk p0 q0
          go_wp2
          go_quiet (fail)
          go_wp2
          refine name_world (fun W2 hW2 => ?_)
          have e0 : W2.cell? ⟨w.heap.size, 1, none⟩ = some (.slice (some ⟨b, off, none⟩) len cap) := by rw [hW2]; simpa using c0
          have e1 : W2.cell? ⟨w.heap.size + 1, 1, none⟩ = some (.slice (some ⟨b', off', none⟩) len cap2) := by rw [hW2]; simpa using c1
          have r0 : W2.cell? ⟨b, off + k, none⟩ = some (.int .i64 A) := by rw [hW2]; simpa using p1
          have r1 : W2.cell? ⟨b', off' + k, none⟩ = some (.int .i64 B) := by rw [hW2]; simpa using q1
          have hB2 : Below w.heap.size w W2 := by rw [hW2]; repeat (first | exact hB1 | apply below_drewN)
          clear hW2 c0 c1 p1 q1
          go_quiet ((go_at_call 114; exact qs (HKK.out _)))
          go_wp2
          go_ret
          exact gives (vint E.out.symm) (by repeat (first | exact hB2 | apply below_drewN))
  · have E := Lib.hid (cmpI_gt (val_len ry rx (by omega)))
    have hk := fun w => HK.out (len : Int) (len2 : Int) w
    rw [cmpI_gt (show (len2 : Int) < len by omega)] at hk
    have HKK := Lib.hid hk
    clear hx hy h3 k3 hk h1 k1
    go_enter Try.func86, Try.ntmps86
    go_wp2_with (first | (go_at_call 114; refine (HKK.out _).mono ?_; rintro e w1 ⟨rfl, rfl⟩))
    go_ret
    exact gives (vint E.out.symm) (by repeat' (first | (with_reducible exact Below.refl _ _) | (with_reducible assumption) | (with_reducible refine Below.alloc ?_ ?_ _) | (with_reducible refine Below.setCell ?_ ?_ _) | (with_reducible refine Below.drew ?_) | (with_reducible refine below_drewN ?_ _) | (apply bthen2; (with_reducible assumption)) | go_size))

end Go.Proofs.Ytelkmldmebdcgaa
