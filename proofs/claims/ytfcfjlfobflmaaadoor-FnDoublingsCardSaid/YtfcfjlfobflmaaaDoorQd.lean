import Derived.Test.YtfcfjlfobflmaaaDoorMk2
import Derived.Lib.BitFns
set_option linter.unusedSimpArgs false
set_option linter.unusedVariables false
namespace Go.Proofs.YtfcfjlfobflmaaaDoor
/-! ### bits of a number; long division: no program in sight -/
theorem blA_eq : ∀ f g n, n < 2 ^ f → n < 2 ^ g → Lib.bitLenAux f n = Lib.bitLenAux g n := by
  intro f
  induction f with
  | zero => intro g n h1 h2
            obtain rfl : n = 0 := by simpa using h1
            cases g <;> simp [Lib.bitLenAux]
  | succ f ih =>
    intro g n h1 h2
    cases g with
    | zero => obtain rfl : n = 0 := by simpa using h2
              simp [Lib.bitLenAux]
    | succ g =>
      simp only [Lib.bitLenAux]
      rw [Nat.pow_succ] at h1 h2
      rw [ih g (n / 2) (by omega) (by omega)]
def bl (n : Nat) : Nat := Lib.bitLenAux n n
theorem bl_zero : bl 0 = 0 := rfl
theorem bl_half {n : Nat} (h : n ≠ 0) : bl n = 1 + bl (n / 2) := by
  have h1 : n < 2 ^ n := Nat.lt_two_pow_self
  have h2 : n / 2 < 2 ^ (n / 2) := Nat.lt_two_pow_self
  have e : bl n = Lib.bitLenAux (n + 1) n := blA_eq _ _ _ h1 (by rw [Nat.pow_succ]; omega)
  rw [e]
  simp only [Lib.bitLenAux]
  rw [if_neg h]
  have : Lib.bitLenAux n (n / 2) = bl (n / 2) := blA_eq _ _ _ (by omega) h2
  rw [this]
theorem bl_lib {n : Nat} (h : n < 18446744073709551616) : Lib.bitLen n = bl n := blA_eq 64 n n (by omega) Nat.lt_two_pow_self
theorem bl_shift : ∀ (k n : Nat), 2 ^ k ≤ n → bl n = k + bl (n / 2 ^ k) := by
  intro k
  induction k with
  | zero => intro n h; simp
  | succ k ih =>
    intro n h
    rw [Nat.pow_succ] at h
    have h2 : 2 ≤ n / 2 ^ k := by rw [Nat.le_div_iff_mul_le (Nat.pow_pos (by decide))]; omega
    rw [ih n (by omega), bl_half (n := n / 2 ^ k) (by omega), Nat.div_div_eq_div_mul]
    have e : 2 ^ (k + 1) = 2 ^ k * 2 := Nat.pow_succ ..
    rw [e]
    omega
theorem blA_le : ∀ f n, Lib.bitLenAux f n ≤ f := by
  intro f
  induction f with
  | zero => intro n; exact Nat.le_refl _
  | succ f ih => intro n; simp only [Lib.bitLenAux]; split
                 · omega
                 · have := ih (n / 2); omega
theorem bl_le {n k : Nat} (h : n < 2 ^ k) : bl n ≤ k := by
  have : bl n = Lib.bitLenAux k n := blA_eq _ _ _ Nat.lt_two_pow_self h
  rw [this]; exact blA_le _ _
theorem bl_dg (n : Nat) : bl n ≤ 14 * (dg n).length := by
  refine bl_le ?_
  have h : n < 10000 ^ (dg n).length := (dg_len_iff n _).mp (Nat.le_refl _)
  refine Nat.lt_of_lt_of_le h ?_
  rw [Nat.pow_mul]
  exact Nat.pow_le_pow_left (by decide) _
theorem val_trim (xs : List Int) : ∀ n, n ≤ xs.length → val (xs.take (tz xs n)) = val (xs.take n)
  | 0, _ => rfl
  | n + 1, h => by
    by_cases h0 : xs.getD n 0 = 0
    · rw [tz_zero h0, val_trim xs n (by omega)]
      have hk : n < xs.length := by omega
      rw [List.take_succ_eq_append_getElem hk]
      have : xs[n] = 0 := by simpa [List.getD, List.getElem?_eq_getElem hk] using h0
      rw [this, val_zero_end]
    · rw [tz_stop h0]
theorem tz_last (xs : List Int) : ∀ n m, tz xs n = m + 1 → xs.getD m 0 ≠ 0
  | 0, m, h => by simp [tz] at h
  | n + 1, m, h => by
    by_cases h0 : xs.getD n 0 = 0
    · rw [tz_zero h0] at h; exact tz_last xs n m h
    · rw [tz_stop h0] at h
      obtain rfl : n = m := by omega
      exact h0
theorem trim_dg {xs : List Int} (h : InR xs) : trim xs = dg (val xs).toNat := by
  have hv : val (trim xs) = val xs := by
    unfold trim
    rw [val_trim xs _ (Nat.le_refl _), List.take_length]
  have hc : Can (trim xs) := by
    refine ⟨fun x hx => h x (List.mem_of_mem_take hx), ?_⟩
    unfold trim
    cases hm : tz xs xs.length with
    | zero => simp
    | succ m =>
      have hl := tz_last xs _ m hm
      have hle := tz_le xs xs.length
      rw [List.getLast?_eq_getElem?, List.length_take, Nat.min_eq_left (by omega), List.getElem?_take]
      have hk : m < xs.length := by omega
      simp only [Nat.add_sub_cancel, Nat.lt_succ_self, if_true]
      simp only [List.getD, List.getElem?_eq_getElem hk, Option.getD_some] at hl
      rw [List.getElem?_eq_getElem hk]
      simp
      exact hl
  rw [← hv, dg_val hc]
/-- Long division, the last digit first. -/
def qd (n : Int) : List Int → List Int × Int
  | [] => ([], 0)
  | x :: xs => (((qd n xs).2 * 10000 + x) / n :: (qd n xs).1, ((qd n xs).2 * 10000 + x) % n)
theorem qd_len (n : Int) : ∀ xs, (qd n xs).1.length = xs.length
  | [] => rfl
  | x :: xs => by simp [qd, qd_len n xs]
theorem qd_rest {n : Int} (hn : 0 < n) : ∀ xs, 0 ≤ (qd n xs).2 ∧ (qd n xs).2 < n
  | [] => ⟨Int.le_refl _, hn⟩
  | x :: xs => ⟨Int.emod_nonneg _ (by omega), Int.emod_lt_of_pos _ hn⟩
theorem qd_val {n : Int} : ∀ xs, val (qd n xs).1 * n + (qd n xs).2 = val xs
  | [] => by simp [qd, val]
  | x :: xs => by
    have ih := qd_val (n := n) xs
    have h := Int.mul_ediv_add_emod ((qd n xs).2 * 10000 + x) n
    simp only [qd, val]
    rw [← ih, Int.add_mul, Int.mul_assoc]
    rw [Int.mul_comm n] at h
    omega
theorem qd_inR {n : Int} (hn : 0 < n) : ∀ {xs}, InR xs → InR (qd n xs).1
  | [], _ => fun x hx => by simp [qd] at hx
  | x :: xs, h => by
    intro y hy
    simp only [qd] at hy
    rcases List.mem_cons.1 hy with rfl | hy
    · obtain ⟨r1, r2⟩ := qd_rest hn xs
      have hx := h.head
      refine ⟨Int.ediv_nonneg (by omega) (by omega), ?_⟩
      have : ((qd n xs).2 * 10000 + x) / n < 10000 := Int.ediv_lt_of_lt_mul hn (by omega)
      omega
    · exact qd_inR hn h.tail y hy
theorem qd_spec {n : Int} (hn : 0 < n) {xs : List Int} (h : InR xs) : trim (qd n xs).1 = dg ((val xs).toNat / n.toNat) ∧ (qd n xs).2 = val xs % n := by
  have hv := qd_val (n := n) xs
  obtain ⟨r1, r2⟩ := qd_rest hn xs
  have h0 := val_nonneg h
  have hq0 := val_nonneg (qd_inR hn h)
  have e1 : val xs / n = val (qd n xs).1 := by
    rw [← hv, Int.add_comm, Int.add_mul_ediv_right _ _ (by omega), Int.ediv_eq_zero_of_lt r1 r2]; omega
  have e2 : val xs % n = (qd n xs).2 := by
    rw [← hv, Int.add_comm, Int.add_mul_emod_self_right, Int.emod_eq_of_lt r1 r2]
  refine ⟨?_, e2.symm⟩
  rw [trim_dg (qd_inR hn h), ← e1]
  congr 1
  obtain ⟨V, hV⟩ : ∃ V : Nat, val xs = V := ⟨(val xs).toNat, by omega⟩
  obtain ⟨m, hm⟩ : ∃ m : Nat, n = m := ⟨n.toNat, by omega⟩
  rw [hV, hm, ← Int.natCast_ediv]
  rfl
/-- The row of digits when those from place k on are divided. -/
def rowQ (n : Int) (xs : List Int) (k : Nat) : List Value := List.replicate k (.int .i64 0) ++ (qd n (xs.drop k)).1.map (Value.int .i64)
theorem rowQ_all (n : Int) (xs : List Int) : rowQ n xs xs.length = List.replicate xs.length (.int .i64 0) := by simp [rowQ, qd]
theorem rowQ_len (n : Int) (xs : List Int) (k : Nat) (h : k ≤ xs.length) : (rowQ n xs k).length = xs.length := by simp [rowQ, qd_len]; omega
theorem qd_drop (n : Int) (xs : List Int) (k : Nat) (h : k < xs.length) : qd n (xs.drop k) = (((qd n (xs.drop (k + 1))).2 * 10000 + xs.getD k 0) / n :: (qd n (xs.drop (k + 1))).1, ((qd n (xs.drop (k + 1))).2 * 10000 + xs.getD k 0) % n) := by
  rw [List.drop_eq_getElem_cons h]
  simp [qd, List.getD, List.getElem?_eq_getElem h]
theorem rowQ_set (n : Int) (xs : List Int) (k : Nat) (h : k < xs.length) : (rowQ n xs (k + 1)).set k (.int .i64 (((qd n (xs.drop (k + 1))).2 * 10000 + xs.getD k 0) / n)) = rowQ n xs k := by
  unfold rowQ
  rw [qd_drop n xs k h, List.set_append_left _ _ (by simp)]
  rw [List.replicate_succ', List.set_append_right _ _ (by simp), List.length_replicate, Nat.sub_self]
  simp
end Go.Proofs.YtfcfjlfobflmaaaDoor
