import Derived.Test.YtjgdajeoeagggaaGreatYGoS
set_option linter.unusedSimpArgs false
set_option linter.unusedVariables false
namespace Go.Proofs.YtjgdajeoeagggaaGreat
open Go.RowKit
/-! ### the number of told points divides the number of points modulo each good prime up to 41: looked through -/
namespace BT
/-- n, evaluated, given to k -/
noncomputable def fc (n : Nat) (k : Nat → Bool) : Bool := Nat.rec (k 0) (fun m _ => k (Nat.succ m)) n
theorem fc_eq (n : Nat) (k : Nat → Bool) : fc n k = k n := by cases n <;> rfl
noncomputable def alB (n : Nat) (f : Nat → Bool) : Bool := Nat.rec true (fun i r => Bool.rec false r (f i)) n
theorem alB_use {f : Nat → Bool} : ∀ {n : Nat}, alB n f = true → ∀ i, i < n → f i = true
  | 0, _, i, hi => by omega
  | n + 1, h, i, hi => by
    have e : alB (n + 1) f = Bool.rec false (alB n f) (f n) := rfl
    rw [e] at h
    cases g : f n with
    | false => rw [g] at h; exact absurd h (by simp)
    | true =>
      rw [g] at h
      by_cases q : i = n
      · rw [q]; exact g
      · exact alB_use (n := n) h i (by omega)
noncomputable def fN (p a b x : Nat) : Nat := Nat.mod (Nat.add (Nat.mul (Nat.add (Nat.mul x x) a) x) b) p
noncomputable def nC (p a b : Nat) (n : Nat) : Nat := Nat.rec 1 (fun x r =>
  Nat.add r (Bool.rec (Bool.rec 0 2 (Nat.beq (Nat.mod (Nat.pow (Nat.mod (Nat.add (Nat.mul (Nat.add (Nat.mul x x) a) x) b) p) (Nat.div p 2)) p) 1)) 1 (Nat.beq (Nat.mod (Nat.add (Nat.mul (Nat.add (Nat.mul x x) a) x) b) p) 0))) n
noncomputable def two (p a b : Nat) (n : Nat) : Nat := Nat.rec 0 (fun x r => Nat.add r (Bool.rec 0 1 (Nat.beq (Nat.mod (Nat.add (Nat.mul (Nat.add (Nat.mul x x) a) x) b) p) 0))) n
def dv (k N : Nat) : Bool := Nat.beq (Nat.mod N k) 0
theorem dv_iff {k N : Nat} (h : dv k N = true) : k ∣ N := Nat.dvd_of_mod_eq_zero (Nat.eq_of_beq_eq_true h)
/-- the double of (x, y), given to k -/
noncomputable def dbN (p a x y : Nat) (k : Nat → Nat → Bool) : Bool :=
  fc (Nat.mod (Nat.mul (Nat.add (Nat.mul 3 (Nat.mul x x)) a) (Nat.mod (Nat.pow (Nat.add y y) (Nat.sub p 2)) p)) p) fun m =>
  fc (Nat.mod (Nat.add (Nat.mul m m) (Nat.mul 2 (Nat.sub p x))) p) fun u =>
  fc (Nat.mod (Nat.add (Nat.mul m (Nat.sub (Nat.add x p) u)) (Nat.sub p y)) p) fun v => k u v
def dm (p a x y : Nat) : Nat := ((3 * (x * x) + a) * ((y + y) ^ (p - 2) % p)) % p
def dx (p a x y : Nat) : Nat := (dm p a x y * dm p a x y + 2 * (p - x)) % p
def dy (p a x y : Nat) : Nat := (dm p a x y * (x + p - dx p a x y) + (p - y)) % p
theorem dbN_eq (p a x y : Nat) (k : Nat → Nat → Bool) : dbN p a x y k = k (dx p a x y) (dy p a x y) := by
  unfold dbN; rw [fc_eq, fc_eq, fc_eq]; rfl
noncomputable def ck (p a b x y : Nat) : Bool :=
  dbN p a x y fun u v =>
  Bool.and (Bool.rec true (dv 3 (nC p a b p)) (Nat.beq u x))
  (Bool.rec
    (dbN p a u v fun u4 v4 =>
      Bool.and (Bool.rec true (Bool.rec (dv 5 (nC p a b p)) true (Nat.beq u x)) (Nat.beq u4 x))
      (Bool.rec
        (dbN p a u4 v4 fun u8 v8 => Bool.rec true (Bool.rec (Bool.rec (dv 9 (nC p a b p)) (dv 7 (nC p a b p)) (Nat.beq v8 y)) true (Nat.beq u x)) (Nat.beq u8 x))
        (dv 8 (nC p a b p)) (Nat.beq v4 0)))
    (Bool.and (dv 4 (nC p a b p)) (Bool.rec true (dv 8 (nC p a b p)) (Nat.ble 2 (two p a b p)))) (Nat.beq v 0))
noncomputable def cz (p a b : Nat) : Bool := fc (nC p a b p) fun N => Bool.and (dv 2 N) (Bool.rec true (dv 4 N) (Nat.ble 2 (two p a b p)))
def ns (p a b : Nat) : Bool := Nat.beq (Nat.mod (Nat.add (Nat.mul 4 (Nat.mul a (Nat.mul a a))) (Nat.mul 27 (Nat.mul b b))) p) 0
noncomputable def cA (p : Nat) : Bool := alB p fun a => alB p fun x =>
  fc (Nat.sub p (Nat.mod (Nat.mul (Nat.add (Nat.mul x x) a) x) p)) fun c =>
  alB (Nat.div (Nat.add p 1) 2) fun y =>
    fc (Nat.mod (Nat.add (Nat.mul y y) c) p) fun b =>
    Bool.rec (Bool.rec (ck p a b x y) (cz p a b) (Nat.beq y 0)) true (ns p a b)
theorem rec_t {c x : Bool} (h : (Bool.rec x true c : Bool) = true) (hc : c = false) : x = true := by subst hc; exact h
theorem rec_c {c x y : Bool} (h : (Bool.rec x y c : Bool) = true) : (c = true → y = true) ∧ (c = false → x = true) := by cases c <;> simp_all
theorem cA_use {p : Nat} (h : cA p = true) {a x y b : Nat} (ha : a < p) (hx : x < p) (hy : y < (p + 1) / 2) (hb : b = (y * y + (p - (x * x + a) * x % p)) % p) (hn : ns p a b = false) :
    (y = 0 → cz p a b = true) ∧ (y ≠ 0 → ck p a b x y = true) := by
  have h1 := alB_use (alB_use h a ha) x hx
  rw [fc_eq] at h1
  have h2 := alB_use h1 y hy
  rw [fc_eq] at h2
  have e : Nat.mod (Nat.add (Nat.mul y y) (Nat.sub p (Nat.mod (Nat.mul (Nat.add (Nat.mul x x) a) x) p))) p = b := by rw [hb]; rfl
  rw [e] at h2
  obtain ⟨i1, i2⟩ := rec_c (rec_t h2 hn)
  constructor
  · intro k; exact i1 (by subst k; rfl)
  · intro k
    refine i2 ?_
    cases g : Nat.beq y 0 with
    | false => rfl
    | true => exact absurd (Nat.eq_of_beq_eq_true g) k
theorem beq_t {a b : Nat} (h : a = b) : Nat.beq a b = true := by subst h; exact Nat.beq_refl _
theorem beq_f {a b : Nat} (h : a ≠ b) : Nat.beq a b = false := by
  cases g : Nat.beq a b with
  | false => rfl
  | true => exact absurd (Nat.eq_of_beq_eq_true g) h
theorem and_t {a b : Bool} (h : Bool.and a b = true) : a = true ∧ b = true := by cases a <;> cases b <;> simp_all
theorem cz_use {p a b : Nat} (h : cz p a b = true) : 2 ∣ nC p a b p ∧ (2 ≤ two p a b p → 4 ∣ nC p a b p) := by
  unfold cz at h
  rw [fc_eq] at h
  obtain ⟨h1, h2⟩ := and_t h
  exact ⟨dv_iff h1, fun k => dv_iff ((rec_c h2).1 (Nat.ble_eq_true_of_le k))⟩
theorem ck_use {p a b x y : Nat} (h : ck p a b x y = true) {u v : Nat} (hu : u = dx p a x y) (hv : v = dy p a x y) :
    (u = x → 3 ∣ nC p a b p) ∧ (v = 0 → 4 ∣ nC p a b p ∧ (2 ≤ two p a b p → 8 ∣ nC p a b p)) ∧
    (v ≠ 0 → ∀ u4 v4, u4 = dx p a u v → v4 = dy p a u v → (u4 = x → u ≠ x → 5 ∣ nC p a b p) ∧ (v4 = 0 → 8 ∣ nC p a b p) ∧
      (v4 ≠ 0 → ∀ u8 v8, u8 = dx p a u4 v4 → v8 = dy p a u4 v4 → u8 = x → u ≠ x → (v8 = y → 7 ∣ nC p a b p) ∧ (v8 ≠ y → 9 ∣ nC p a b p))) := by
  unfold ck at h
  rw [dbN_eq, ← hu, ← hv] at h
  obtain ⟨h1, h2⟩ := and_t h
  obtain ⟨i1, i2⟩ := rec_c h2
  refine ⟨fun k => dv_iff ((rec_c h1).1 (beq_t k)), fun k => ?_, fun k u4 v4 e1 e2 => ?_⟩
  · obtain ⟨j1, j2⟩ := and_t (i1 (beq_t k))
    exact ⟨dv_iff j1, fun m => dv_iff ((rec_c j2).1 (Nat.ble_eq_true_of_le m))⟩
  · have h3 := i2 (beq_f k)
    rw [dbN_eq, ← e1, ← e2] at h3
    obtain ⟨j1, j2⟩ := and_t h3
    obtain ⟨k1, k2⟩ := rec_c j2
    refine ⟨fun m n => dv_iff ((rec_c ((rec_c j1).1 (beq_t m))).2 (beq_f n)), fun m => dv_iff (k1 (beq_t m)), fun m u8 v8 e3 e4 m1 m2 => ?_⟩
    have h4 := k2 (beq_f m)
    rw [dbN_eq, ← e3, ← e4] at h4
    have h5 := (rec_c ((rec_c h4).1 (beq_t m1))).2 (beq_f m2)
    exact ⟨fun q => dv_iff ((rec_c h5).1 (beq_t q)), fun q => dv_iff ((rec_c h5).2 (beq_f q))⟩
theorem c5 : cA 5 = true := by decide +kernel
theorem c7 : cA 7 = true := by decide +kernel
theorem c11 : cA 11 = true := by decide +kernel
theorem c13 : cA 13 = true := by decide +kernel
theorem c17 : cA 17 = true := by decide +kernel
theorem c19 : cA 19 = true := by decide +kernel
theorem c23 : cA 23 = true := by decide +kernel
theorem c29 : cA 29 = true := by decide +kernel
theorem c31 : cA 31 = true := by decide +kernel
theorem c37 : cA 37 = true := by decide +kernel
theorem c41 : cA 41 = true := by decide +kernel
theorem small41 : ∀ n : Fin 42, 5 ≤ n.val → n.val % 2 ≠ 0 → (n.val < 9 ∨ n.val % 3 ≠ 0) → (n.val < 25 ∨ n.val % 5 ≠ 0) → n.val = 5 ∨ n.val = 7 ∨ n.val = 11 ∨ n.val = 13 ∨ n.val = 17 ∨ n.val = 19 ∨ n.val = 23 ∨ n.val = 29 ∨ n.val = 31 ∨ n.val = 37 ∨ n.val = 41 := by decide +kernel
theorem cA_all {q : Int} (hq : Pr q) (h5 : 5 ≤ q) (h41 : q ≤ 41) : cA q.toNat = true := by
  have d2 := hq.2 2 (by omega) (by omega)
  have d3 : q < 9 ∨ q % 3 ≠ 0 := by
    by_cases g : q < 9
    · exact .inl g
    · exact .inr (hq.2 3 (by omega) (by omega))
  have d5 : q < 25 ∨ q % 5 ≠ 0 := by
    by_cases g : q < 25
    · exact .inl g
    · exact .inr (hq.2 5 (by omega) (by omega))
  have : q = 5 ∨ q = 7 ∨ q = 11 ∨ q = 13 ∨ q = 17 ∨ q = 19 ∨ q = 23 ∨ q = 29 ∨ q = 31 ∨ q = 37 ∨ q = 41 := by
    obtain ⟨n, rfl⟩ := Int.eq_ofNat_of_zero_le (show 0 ≤ q by omega)
    have key := small41 ⟨n, by omega⟩ (by simp; omega) (by simp; omega) (by simp; omega) (by simp; omega)
    simp at key
    omega
  rcases this with rfl | rfl | rfl | rfl | rfl | rfl | rfl | rfl | rfl | rfl | rfl
  · exact c5
  · exact c7
  · exact c11
  · exact c13
  · exact c17
  · exact c19
  · exact c23
  · exact c29
  · exact c31
  · exact c37
  · exact c41
/-! the count -/
theorem nC_succ (p a b n : Nat) : nC p a b (n + 1) = nC p a b n + (if fN p a b n = 0 then 1 else if fN p a b n ^ (p / 2) % p = 1 then 2 else 0) := by
  have e : nC p a b (n + 1) = nC p a b n + Bool.rec (Bool.rec 0 2 (Nat.beq (fN p a b n ^ (p / 2) % p) 1)) 1 (Nat.beq (fN p a b n) 0) := rfl
  rw [e]
  congr 1
  by_cases h : fN p a b n = 0
  · rw [if_pos h, beq_t h]
  · rw [if_neg h, beq_f h]
    by_cases g : fN p a b n ^ (p / 2) % p = 1
    · rw [if_pos g, beq_t g]
    · rw [if_neg g, beq_f g]
theorem two_succ (p a b n : Nat) : two p a b (n + 1) = two p a b n + (if fN p a b n = 0 then 1 else 0) := by
  have e : two p a b (n + 1) = two p a b n + Bool.rec 0 1 (Nat.beq (fN p a b n) 0) := rfl
  rw [e]
  congr 1
  by_cases h : fN p a b n = 0
  · rw [if_pos h, beq_t h]
  · rw [if_neg h, beq_f h]
theorem two_one {p a b r : Nat} (hr : fN p a b r = 0) : ∀ n, r < n → 1 ≤ two p a b n
  | 0, h => by omega
  | n + 1, h => by
    rw [two_succ]
    by_cases g : r = n
    · subst g; rw [if_pos hr]; omega
    · have := two_one hr n (by omega); omega
theorem two_two {p a b r s : Nat} (hr : fN p a b r = 0) (hs : fN p a b s = 0) (hrs : r < s) : ∀ n, s < n → 2 ≤ two p a b n
  | 0, h => by omega
  | n + 1, h => by
    rw [two_succ]
    by_cases g : s = n
    · subst g; rw [if_pos hs]; have := two_one hr s hrs; omega
    · have := two_two hr hs hrs n (by omega); omega
end BT
end Go.Proofs.YtjgdajeoeagggaaGreat
