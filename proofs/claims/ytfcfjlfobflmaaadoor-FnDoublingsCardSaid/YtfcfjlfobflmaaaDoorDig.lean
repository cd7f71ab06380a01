import Derived.Test.YtfcfjlfobflmaaaDoorBase
set_option linter.unusedSimpArgs false
set_option linter.unusedVariables false
namespace Go.Proofs.YtfcfjlfobflmaaaDoor
/-! ### numbers in base 10000: no program in sight -/
def dgF : Nat → Nat → List Int
  | 0, _ => []
  | f + 1, n => if n = 0 then [] else ((n % 10000 : Nat) : Int) :: dgF f (n / 10000)
/-- The canonical digits of a number, the last one first. -/
def dg (n : Nat) : List Int := dgF n n
theorem dgF_fuel : ∀ (f g n : Nat), n ≤ f → n ≤ g → dgF f n = dgF g n := by
  intro f
  induction f with
  | zero => intro g n h1 h2; obtain rfl : n = 0 := by omega
            cases g <;> simp [dgF]
  | succ f ih =>
    intro g n h1 h2
    cases g with
    | zero => obtain rfl : n = 0 := by omega
              simp [dgF]
    | succ g =>
      simp only [dgF]
      by_cases h : n = 0
      · simp [h]
      · rw [if_neg h, if_neg h, ih g (n / 10000) (by omega) (by omega)]
theorem dg_zero : dg 0 = [] := rfl
theorem dg_pos {n : Nat} (h : n ≠ 0) : dg n = ((n % 10000 : Nat) : Int) :: dg (n / 10000) := by
  unfold dg
  cases n with
  | zero => exact absurd rfl h
  | succ m =>
    simp only [dgF]
    rw [if_neg h, dgF_fuel m ((m + 1) / 10000) ((m + 1) / 10000) (by omega) (by omega)]
def val : List Int → Int
  | [] => 0
  | x :: xs => x + 10000 * val xs
theorem val_append (xs ys : List Int) : val (xs ++ ys) = val xs + 10000 ^ xs.length * val ys := by
  induction xs with
  | nil => simp [val]
  | cons x xs ih => simp only [List.cons_append, val, ih, List.length_cons, Int.pow_succ]; grind
def InR (xs : List Int) : Prop := ∀ x ∈ xs, 0 ≤ x ∧ x ≤ 9999
theorem InR.tail {x : Int} {xs : List Int} (h : InR (x :: xs)) : InR xs := fun y hy => h y (List.mem_cons_of_mem _ hy)
theorem InR.head {x : Int} {xs : List Int} (h : InR (x :: xs)) : 0 ≤ x ∧ x ≤ 9999 := h x (List.mem_cons_self)
theorem val_nonneg {xs : List Int} (h : InR xs) : 0 ≤ val xs := by
  induction xs with
  | nil => exact Int.le_refl _
  | cons x xs ih => have := ih h.tail; have := h.head; simp only [val]; omega
theorem val_lt {xs : List Int} (h : InR xs) : val xs < 10000 ^ xs.length := by
  induction xs with
  | nil => simp [val]
  | cons x xs ih => have := ih h.tail; have := h.head; simp only [val, List.length_cons, Int.pow_succ]; omega
theorem inR_dgF : ∀ (f n : Nat), InR (dgF f n) := by
  intro f
  induction f with
  | zero => intro n x hx; simp [dgF] at hx
  | succ f ih =>
    intro n x hx
    simp only [dgF] at hx
    split at hx
    · simp at hx
    · rcases List.mem_cons.1 hx with rfl | hx
      · omega
      · exact ih _ x hx
theorem inR_dg (n : Nat) : InR (dg n) := inR_dgF n n
theorem val_dg (n : Nat) : val (dg n) = n := by
  induction n using Nat.strongRecOn with
  | ind n ih =>
    by_cases h : n = 0
    · subst h; rfl
    · rw [dg_pos h, val, ih (n / 10000) (by omega)]; omega
/-- No leading zero. -/
def Can (xs : List Int) : Prop := InR xs ∧ xs.getLast? ≠ some 0
theorem dg_val {xs : List Int} (h : Can xs) : dg (val xs).toNat = xs := by
  induction xs with
  | nil => rfl
  | cons x xs ih =>
    obtain ⟨hr, hl⟩ := h
    have h0 := val_nonneg hr.tail
    have hx := hr.head
    have hc : Can xs := ⟨hr.tail, by
      cases xs with
      | nil => simp
      | cons y ys => rwa [List.getLast?_cons_cons] at hl⟩
    have ih := ih hc
    have hne : (val (x :: xs)).toNat ≠ 0 := by
      simp only [val]
      intro h
      have h1 : x = 0 := by omega
      have h2 : val xs = 0 := by omega
      rw [h2] at ih
      have h3 : xs = [] := by rw [← ih]; rfl
      subst h3; subst h1
      simp at hl
    rw [dg_pos hne]
    have e1 : (((val (x :: xs)).toNat % 10000 : Nat) : Int) = x := by simp only [val]; omega
    have e2 : (val (x :: xs)).toNat / 10000 = (val xs).toNat := by simp only [val]; omega
    rw [e1, e2, ih]
theorem can_dg (n : Nat) : Can (dg n) := by
  refine ⟨inR_dg n, ?_⟩
  induction n using Nat.strongRecOn with
  | ind n ih =>
    by_cases h : n = 0
    · subst h; simp [dg_zero]
    · rw [dg_pos h]
      by_cases h2 : n / 10000 = 0
      · rw [h2, dg_zero]; simp; omega
      · have := ih (n / 10000) (by omega)
        rw [dg_pos h2] at this ⊢
        rwa [List.getLast?_cons_cons]
theorem dg_len_le {n k : Nat} (h : n < 10000 ^ k) : (dg n).length ≤ k := by
  induction k generalizing n with
  | zero => simp at h; subst h; simp [dg_zero]
  | succ k ih =>
    by_cases h0 : n = 0
    · subst h0; simp [dg_zero]
    · rw [dg_pos h0, List.length_cons]
      have := ih (n := n / 10000) (by rw [Nat.div_lt_iff_lt_mul (by decide)]; rwa [Nat.pow_succ] at h)
      omega
theorem dg_len_ge {n k : Nat} (h : 10000 ^ k ≤ n) : k < (dg n).length := by
  induction k generalizing n with
  | zero => have h0 : n ≠ 0 := by simp at h; omega
            rw [dg_pos h0]; simp
  | succ k ih =>
    have h0 : n ≠ 0 := by have := Nat.pow_pos (n := k + 1) (show 0 < 10000 by decide); omega
    rw [dg_pos h0, List.length_cons]
    have := ih (n := n / 10000) (by rw [Nat.le_div_iff_mul_le (by decide)]; rwa [Nat.pow_succ] at h)
    omega
theorem dg_len_iff (n k : Nat) : (dg n).length ≤ k ↔ n < 10000 ^ k := by
  constructor
  · intro h
    rcases Nat.lt_or_ge n (10000 ^ k) with g | g
    · exact g
    · have := dg_len_ge g; omega
  · exact dg_len_le
theorem dg_nil (n : Nat) : dg n = [] ↔ n = 0 := by
  constructor
  · intro h; have := val_dg n; rw [h] at this; simp [val] at this; omega
  · rintro rfl; rfl
/-- Zeros at the end count nothing. -/
theorem val_zero_end (xs : List Int) : val (xs ++ [0]) = val xs := by rw [val_append]; simp [val]
theorem val_split (xs : List Int) (k : Nat) : val xs = val (xs.take k) + 10000 ^ (xs.take k).length * val (xs.drop k) := by
  conv => lhs; rw [← List.take_append_drop k xs, val_append]

end Go.Proofs.YtfcfjlfobflmaaaDoor
