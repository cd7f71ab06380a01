import Derived.Test.YtfcfjlfobflmaaaDoorRatio
set_option linter.unusedSimpArgs false
set_option linter.unusedVariables false
namespace Go.Proofs.YtfcfjlfobflmaaaDoor
open Go.RowKit
/-! ### wholes are compared -/

def cmpI (x y : Int) : Int := if x < y then -1 else if y < x then 1 else 0
theorem cmpI_lt {x y : Int} (h : x < y) : cmpI x y = -1 := by unfold cmpI; rw [if_pos h]
theorem cmpI_gt {x y : Int} (h : y < x) : cmpI x y = 1 := by unfold cmpI; rw [if_neg (by omega), if_pos h]
theorem cmpI_eq {x y : Int} (h : x = y) : cmpI x y = 0 := by unfold cmpI; rw [if_neg (by omega), if_neg (by omega)]
theorem val_ht (xs : List Int) : val xs = xs.getD 0 0 + 10000 * val xs.tail := by cases xs <;> simp [val]
theorem getD_tl (xs : List Int) (j : Nat) : xs.getD (j + 1) 0 = xs.tail.getD j 0 := by cases xs <;> simp
theorem InR.tl {xs : List Int} (h : InR xs) : InR xs.tail := fun x hx => h x (List.mem_of_mem_tail hx)
theorem InR.at {xs : List Int} (h : InR xs) (i : Nat) : 0 ≤ xs.getD i 0 ∧ xs.getD i 0 ≤ 9999 := by
  by_cases hi : i < xs.length
  · simp only [List.getD, List.getElem?_eq_getElem hi, Option.getD_some]; exact h _ (List.getElem_mem hi)
  · simp only [List.getD, List.getElem?_eq_none (show xs.length ≤ i by omega), Option.getD_none]; omega
theorem val_same (n : Nat) : ∀ (xs ys : List Int), xs.length + ys.length ≤ n → (∀ j, xs.getD j 0 = ys.getD j 0) → val xs = val ys := by
  induction n with
  | zero =>
    intro xs ys h _
    have e1 : xs = [] := List.length_eq_zero_iff.1 (by omega)
    have e2 : ys = [] := List.length_eq_zero_iff.1 (by omega)
    rw [e1, e2]
  | succ n ih =>
    intro xs ys h he
    by_cases h0 : xs.length + ys.length = 0
    · have e1 : xs = [] := List.length_eq_zero_iff.1 (by omega)
      have e2 : ys = [] := List.length_eq_zero_iff.1 (by omega)
      rw [e1, e2]
    · rw [val_ht xs, val_ht ys, he 0, ih xs.tail ys.tail (by simp; omega) (fun j => by rw [← getD_tl, ← getD_tl]; exact he (j + 1))]
theorem val_less (i : Nat) : ∀ (xs ys : List Int), InR xs → InR ys → (∀ j, i < j → xs.getD j 0 = ys.getD j 0) → xs.getD i 0 < ys.getD i 0 → val xs < val ys := by
  induction i with
  | zero =>
    intro xs ys hx hy he hl
    have := val_same _ xs.tail ys.tail (Nat.le_refl _) (fun j => by rw [← getD_tl, ← getD_tl]; exact he (j + 1) (by omega))
    rw [val_ht xs, val_ht ys, this]; omega
  | succ i ih =>
    intro xs ys hx hy he hl
    have := ih xs.tail ys.tail hx.tl hy.tl (fun j hj => by rw [← getD_tl, ← getD_tl]; exact he (j + 1) (by omega)) (by rw [← getD_tl, ← getD_tl]; exact hl)
    have a := hx.at 0
    have b := hy.at 0
    rw [val_ht xs, val_ht ys]; omega
theorem val_ge {xs : List Int} (h : Can xs) (h0 : xs ≠ []) : 10000 ^ (xs.length - 1) ≤ val xs := by
  have e := dg_val h
  have hn := val_nonneg h.1
  have h1 : ¬ (dg (val xs).toNat).length ≤ xs.length - 1 := by
    rw [e]; have : xs.length ≠ 0 := fun g => h0 (List.length_eq_zero_iff.1 g); omega
  rw [dg_len_iff] at h1
  have h2 : ((10000 ^ (xs.length - 1) : Nat) : Int) ≤ ((val xs).toNat : Int) := by omega
  rw [Int.natCast_pow] at h2
  simp at h2
  omega
theorem val_len {xs ys : List Int} (hx : Can xs) (hy : Can ys) (h : xs.length < ys.length) : val xs < val ys := by
  have h1 := val_lt hx.1
  have h2 := val_ge hy (fun g => by rw [g] at h; simp at h)
  have h3 : (10000 : Int) ^ xs.length ≤ 10000 ^ (ys.length - 1) := by
    have : xs.length ≤ ys.length - 1 := by omega
    generalize ys.length - 1 = n at this
    induction this with
    | refl => exact Int.le_refl _
    | @step m _ ih =>
      refine Int.le_trans ih ?_
      rw [Int.pow_succ]
      have h0 : (0 : Int) ≤ 10000 ^ m := Int.pow_nonneg (by omega)
      omega
  omega

theorem whB_can {neg : Bool} {xs : List Int} (h : whB neg xs = true) : Can xs ∧ xs.length ≤ 400 ∧ (neg = true → xs ≠ []) := by
  unfold whB at h
  simp only [Bool.and_eq_true, decide_eq_true_eq, Bool.or_eq_true, Bool.not_eq_true', List.all_eq_true, inB_iff, beq_iff_eq, Bool.and_eq_false_iff] at h
  obtain ⟨⟨⟨h1, h2⟩, h3⟩, h4⟩ := h
  refine ⟨⟨fun x hx => h4 x hx, ?_⟩, h1, ?_⟩
  · intro hl
    rcases h3 with h3 | h3
    · have : xs = [] := List.length_eq_zero_iff.1 h3
      rw [this] at hl; simp at hl
    · have hne : xs ≠ [] := fun g => by rw [g] at hl; simp at hl
      have : xs.getD (xs.length - 1) 0 = 0 := by
        rw [List.getLast?_eq_getElem?] at hl
        simp [List.getD, hl]
      rw [this] at h3; simp at h3
  · intro hn hxs
    rcases h2 with h2 | h2
    · rw [hxs] at h2; simp at h2
    · rw [hn] at h2; cases h2

theorem bgLimb_any (s : Value) (xs : List Int) (k : Nat) (hk : k ≤ 4000000000000000000) (w : World) (hx : Ints w s xs) : Calls Tryd.prog 64 #[s, .int .i64 k] w (Same (.int .i64 (xs.getD k 0)) w) := by
  obtain ⟨a, len, cap, rfl⟩ : ∃ a len cap, s = .slice a len cap := by
    rcases hx with ⟨a, cap, rfl, _⟩ | ⟨b, off, len, cap, rfl, _⟩ <;> exact ⟨_, _, _, rfl⟩
  obtain ⟨h1, h2, h3⟩ := hx.cell
  clear hx
  by_cases h : k < len
  · obtain ⟨b, off, ha, hbl, c0⟩ := h3 k h
    subst ha
    generalize xs.getD k 0 = X at *
    clear h3 h1
    go_enter Tryd.func64, Tryd.ntmps64
    go_wp2
    go_ret; exact same rfl
  · have e : xs.getD k 0 = 0 := by simp [List.getD, List.getElem?_eq_none (show xs.length ≤ k by omega)]
    rw [e]
    clear h3 h1 e
    go_enter Tryd.func64, Tryd.ntmps64
    go_wp2
    go_ret; exact same rfl

theorem max_nat (a b : Nat) : max (a : Int) (b : Int) = ((max a b : Nat) : Int) := by omega
set_option maxHeartbeats 1000000 in
theorem bgOrder_any (s t : Value) (xs ys : List Int) (w : World) (hx : Ints w s xs) (hy : Ints w t ys) (rx : InR xs) (ry : InR ys) (lx : xs.length ≤ 1000000) (ly : ys.length ≤ 1000000) : Calls Tryd.prog 65 #[s, t] w (Same (.int .i64 (cmpI (val xs) (val ys))) w) := by
  obtain ⟨a, len, cap, rfl⟩ : ∃ a len cap, s = .slice a len cap := by
    rcases hx with ⟨a, cap, rfl, _⟩ | ⟨b, off, len, cap, rfl, _⟩ <;> exact ⟨_, _, _, rfl⟩
  obtain ⟨a2, len2, cap2, rfl⟩ : ∃ a len cap, t = .slice a len cap := by
    rcases hy with ⟨a, cap, rfl, _⟩ | ⟨b, off, len, cap, rfl, _⟩ <;> exact ⟨_, _, _, rfl⟩
  obtain ⟨h1, h2, -⟩ := hx.cell
  obtain ⟨k1, k2, -⟩ := hy.cell
  have HM := Lib.hid (fun w => l1Most_any (len : Int) (len2 : Int) w)
  rw [max_nat] at HM
  have HL := Lib.hid (fun (k : Nat) hk w => bgLimb_any (.slice a len cap) xs k hk w)
  have HL2 := Lib.hid (fun (k : Nat) hk w => bgLimb_any (.slice a2 len2 cap2) ys k hk w)
  have HX := Lib.hid hx; have HY := Lib.hid hy
  have HLT := Lib.hid (fun i he hl => val_less i xs ys rx ry he hl)
  have HGT := Lib.hid (fun i he hl => val_less i ys xs ry rx he hl)
  have HEQ := Lib.hid (val_same _ xs ys (Nat.le_refl _))
  have HS := Lib.hid (show ∀ j, max len len2 ≤ j → xs.getD j 0 = ys.getD j 0 from fun j hj => by
    simp [List.getD, List.getElem?_eq_none (show xs.length ≤ j by omega), List.getElem?_eq_none (show ys.length ≤ j by omega)])
  have RX := Lib.hid rx; have RY := Lib.hid ry
  have hmb : max len len2 ≤ 1000000 := by omega
  generalize val xs = X at *
  generalize val ys = Y at *
  clear hx hy rx ry h1 k1
  generalize max len len2 = M at *
  go_enter Tryd.func65, Tryd.ntmps65
  go_wp2_with (first | (go_at_call 47; refine (HM.out _).mono ?_; rintro e w1 ⟨rfl, rfl⟩))
  go_loop [5] (fun v5 => ∃ k : Nat, k ≤ M ∧ v5 = .int .i64 ((k : Int) - 1) ∧ Hid (∀ j, k ≤ j → xs.getD j 0 = ys.getD j 0)) (fun v5 => (intOf v5 + 1).toNat)
  case atStart => exact ⟨M, Nat.le_refl _, rfl, HS⟩
  case round =>
    obtain ⟨k, hk, rfl, HJ⟩ := hrel
    cases k with
    | zero =>
      have E := Lib.hid (cmpI_eq (HEQ.out (fun j => HJ.out j (by omega))))
      go_wp2
      go_ret
      exact same (vint E.out.symm)
    | succ k =>
      have hl := fun w => HL.out k (by omega) w
      have hl2 := fun w => HL2.out k (by omega) w
      have e0 : ((k + 1 : Nat) : Int) - 1 = (k : Int) := by omega
      rw [e0]
      rcases Int.lt_trichotomy (xs.getD k 0) (ys.getD k 0) with h | h | h
      · have E := Lib.hid (cmpI_lt (HLT.out k (fun j hj => HJ.out j (by omega)) h))
        generalize xs.getD k 0 = A at *
        generalize ys.getD k 0 = B at *
        have HA := Lib.hid hl; have HB := Lib.hid hl2
        clear hl hl2
        go_wp2_with (first | (go_at_call_of 64 (Value.slice a len cap); refine (HA.out _ HX.out).mono ?_; rintro e w1 ⟨rfl, rfl⟩) | (go_at_call_of 64 (Value.slice a2 len2 cap2); refine (HB.out _ HY.out).mono ?_; rintro e w1 ⟨rfl, rfl⟩))
        go_ret
        exact same (vint E.out.symm)
      · have HJ2 := Lib.hid (show ∀ j, k ≤ j → xs.getD j 0 = ys.getD j 0 from fun j hj => by
          by_cases e : j = k
          · subst e; exact h
          · exact HJ.out j (by omega))
        rw [← h] at hl2
        generalize xs.getD k 0 = A at *
        have hAA : ¬ A < A := by omega
        have HA := Lib.hid hl; have HB := Lib.hid hl2
        clear hl hl2 h
        go_wp2_with (first | (go_at_call_of 64 (Value.slice a len cap); refine (HA.out _ HX.out).mono ?_; rintro e w1 ⟨rfl, rfl⟩) | (go_at_call_of 64 (Value.slice a2 len2 cap2); refine (HB.out _ HY.out).mono ?_; rintro e w1 ⟨rfl, rfl⟩))
        go_round
        case rel => exact ⟨k, by omega, rfl, HJ2⟩
        case measure => first | (simp [intOf]; done) | (simp [intOf]; omega)
      · have E := Lib.hid (cmpI_gt (HGT.out k (fun j hj => (HJ.out j (by omega)).symm) h))
        generalize xs.getD k 0 = A at *
        generalize ys.getD k 0 = B at *
        have HA := Lib.hid hl; have HB := Lib.hid hl2
        clear hl hl2
        go_wp2_with (first | (go_at_call_of 64 (Value.slice a len cap); refine (HA.out _ HX.out).mono ?_; rintro e w1 ⟨rfl, rfl⟩) | (go_at_call_of 64 (Value.slice a2 len2 cap2); refine (HB.out _ HY.out).mono ?_; rintro e w1 ⟨rfl, rfl⟩))
        go_ret
        exact same (vint E.out.symm)

end Go.Proofs.YtfcfjlfobflmaaaDoor
