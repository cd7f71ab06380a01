import Derived.Test.YtjgdajeoeagggaaGreatYPtV
set_option linter.unusedSimpArgs false
set_option linter.unusedVariables false
namespace Go.Proofs.YtjgdajeoeagggaaGreat
open Go.RowKit
/-! ### a finite group of integral points on a curve of the program's size has at most thirteen elements -/
namespace TB
theorem dvd3_sq {l : Int} (h : 3 ∣ l * l) : 3 ∣ l := by
  have h := Int.emod_eq_zero_of_dvd h
  rw [Int.mul_emod] at h
  have hl : l % 3 = 0 ∨ l % 3 = 1 ∨ l % 3 = 2 := by omega
  rcases hl with e | e | e <;> simp [e] at h <;> omega
theorem sq9 {l n : Int} (h : l * l = n) (h3 : 3 ∣ n) : 3 ∣ l ∧ 9 ∣ n := by
  have h1 : 3 ∣ l := dvd3_sq (h ▸ h3)
  refine ⟨h1, ?_⟩
  obtain ⟨k, rfl⟩ := h1
  exact ⟨k * k, by rw [← h]; grind⟩
/-- Two points P, Q, singular modulo 3 with P + Q, P - Q, 2P, 2Q: 3 divides x(P), 27 divides y(P), 3 the tangent's slope. -/
theorem step3 {A xP yP xQ yQ xU xV xD xE l1 l2 l3 l4 l5 l6 : Int} (_hA : 3 ∣ A)
    (hQ : 3 ∣ xP - xQ) (hU : 3 ∣ xP - xU) (hV : 3 ∣ xP - xV) (hD : 3 ∣ xP - xD) (hE : 3 ∣ xP - xE)
    (e1 : yP - yQ = l1 * (xP - xQ)) (s1 : l1 * l1 = xP + xQ + xU) (e2 : yP + yQ = l2 * (xP - xQ)) (s2 : l2 * l2 = xP + xQ + xV)
    (s3 : l3 * l3 = 2 * xP + xD) (s4 : l4 * l4 = 2 * xQ + xE) (s5 : l5 * l5 = xU + xV + xD) (s6 : l6 * l6 = xU + xV + xE) :
    3 ∣ xP ∧ 27 ∣ yP ∧ 3 ∣ l3 := by
  obtain ⟨d1, n1⟩ := sq9 s1 (by omega)
  obtain ⟨d2, n2⟩ := sq9 s2 (by omega)
  obtain ⟨d3, n3⟩ := sq9 s3 (by omega)
  obtain ⟨d4, n4⟩ := sq9 s4 (by omega)
  obtain ⟨d5, n5⟩ := sq9 s5 (by omega)
  obtain ⟨d6, n6⟩ := sq9 s6 (by omega)
  have h9 : 9 ∣ xP - xQ := by omega
  refine ⟨by omega, ?_, d3⟩
  obtain ⟨k, hk⟩ := h9
  obtain ⟨m1, rfl⟩ := d1; obtain ⟨m2, rfl⟩ := d2
  rw [hk] at e1 e2
  have g1 : yP - yQ = 27 * (m1 * k) := by rw [e1]; grind
  have g2 : yP + yQ = 27 * (m2 * k) := by rw [e2]; grind
  generalize m1 * k = p at *
  generalize m2 * k = q at *
  omega
/-- The curve's two numbers then. -/
theorem step4 {A B xP yP l3 : Int} (hx : 3 ∣ xP) (hy : 27 ∣ yP) (hl : 3 ∣ l3) (ht : 2 * yP * l3 = 3 * xP * xP + A) (on : yP * yP = xP * xP * xP + A * xP + B) :
    ∃ b2 b4 b6 : Int, A = 27 * (3 * b4 - b2 * b2) ∧ B = 27 * (27 * b6 + 2 * (b2 * b2 * b2) - 9 * (b2 * b4)) := by
  obtain ⟨b, rfl⟩ := hx; obtain ⟨w, rfl⟩ := hy; obtain ⟨m, rfl⟩ := hl
  refine ⟨b, 2 * (w * m), w * w, by grind, by grind⟩
theorem cubes {a b : Int} (b2 b4 b6 : Int) (ha : a = 3 * b4 - b2 * b2) (hb : b = 27 * b6 + 2 * (b2 * b2 * b2) - 9 * (b2 * b4)) : 27 ∣ 4 * (a * a * a) + b * b ∧ (¬ 3 ∣ a ∨ 27 ∣ b) := by
  refine ⟨⟨4 * (b4 * b4 * b4) - b4 * b4 * (b2 * b2) + 27 * (b6 * b6) + 4 * (b6 * (b2 * b2 * b2)) - 18 * (b6 * (b2 * b4)), by subst ha hb; grind⟩, ?_⟩
  by_cases h : 3 ∣ a
  · right
    have h3 : 3 ∣ b2 := dvd3_sq (by obtain ⟨k, hk⟩ := h; exact ⟨b4 - k, by omega⟩)
    obtain ⟨k, rfl⟩ := h3
    exact ⟨b6 + 2 * (k * k * k) - k * b4, by subst hb; grind⟩
  · exact .inl h
def okC (i j : Nat) : Bool :=
  let a : Int := (i : Int) - 37
  let b : Int := (j : Int) - 370
  let d := 4 * (a * a * a) + b * b
  !(d % 33075 == 0) || d == 0 || ((a % 3 == 0) && !(b % 27 == 0)) || (a == 35 && (b == 245 || b == -245))
def allC : Bool := (List.range 75).all fun i => (List.range 741).all fun j => okC i j
theorem allC_ok : allC = true := by decide +kernel
theorem few {a b : Int} (a0 : -37 ≤ a) (a1 : a ≤ 37) (b0 : -370 ≤ b) (b1 : b ≤ 370) (h1 : 33075 ∣ 4 * (a * a * a) + b * b) (h2 : 4 * (a * a * a) + b * b ≠ 0) (h3 : ¬ 3 ∣ a ∨ 27 ∣ b) : a = 35 ∧ (b = 245 ∨ b = -245) := by
  have h := allC_ok
  unfold allC at h
  rw [List.all_eq_true] at h
  have h := h (a + 37).toNat (List.mem_range.2 (by omega))
  rw [List.all_eq_true] at h
  have h := h (b + 370).toNat (List.mem_range.2 (by omega))
  unfold okC at h
  have ea : (((a + 37).toNat : Nat) : Int) - 37 = a := by omega
  have eb : (((b + 370).toNat : Nat) : Int) - 370 = b := by omega
  simp only [ea, eb] at h
  have m1 := Int.emod_eq_zero_of_dvd h1
  simp only [m1, Bool.or_eq_true, Bool.and_eq_true, Bool.not_eq_true', beq_iff_eq, beq_eq_false_iff_ne] at h
  rcases h with ((h | h) | h) | h
  · simp at h
  · exact absurd h h2
  · rcases h3 with h3 | h3
    · exact absurd (Int.dvd_of_emod_eq_zero h.1) h3
    · exact absurd (Int.emod_eq_zero_of_dvd h3) h.2
  · exact ⟨h.1, h.2⟩
/-- A finite group (a list) of integral points of y^2 = x^3 + A x + B. -/
structure TG {G : Type} (A B : Int) (z : G) (ad : G → G → G) (ne : G → G) (X Y : G → Int) (H : List G) : Prop where
  nodup : H.Nodup
  z_mem : z ∈ H
  ad_mem : ∀ a, a ∈ H → ∀ b, b ∈ H → ad a b ∈ H
  ne_mem : ∀ a, a ∈ H → ne a ∈ H
  zadd : ∀ a, a ∈ H → ad z a = a
  comm : ∀ a, a ∈ H → ∀ b, b ∈ H → ad a b = ad b a
  assoc : ∀ a, a ∈ H → ∀ b, b ∈ H → ∀ c, c ∈ H → ad (ad a b) c = ad a (ad b c)
  back : ∀ a, a ∈ H → ad a (ne a) = z
  on : ∀ a, a ∈ H → a ≠ z → Y a * Y a = X a * X a * X a + A * X a + B
  nx : ∀ a, a ∈ H → a ≠ z → X (ne a) = X a
  ny : ∀ a, a ∈ H → a ≠ z → Y (ne a) = - Y a
  same : ∀ a, a ∈ H → ∀ b, b ∈ H → a ≠ z → b ≠ z → X a = X b → Y a = Y b → a = b
  chord : ∀ a, a ∈ H → ∀ b, b ∈ H → a ≠ z → b ≠ z → X a ≠ X b → ∃ l, Y a - Y b = l * (X a - X b) ∧ l * l = X a + X b + X (ad a b)
  tang : ∀ a, a ∈ H → a ≠ z → Y a ≠ 0 → ∃ l, 2 * Y a * l = 3 * X a * X a + A ∧ l * l = 2 * X a + X (ad a a)
structure Prm (p : Int) : Prop where
  mul : ∀ a b : Int, p ∣ a * b → p ∣ a ∨ p ∣ b
  two : ¬ p ∣ 2
  ne : p ≠ 0
theorem Prm.sq {p a : Int} (h : Prm p) (ha : p ∣ a * a) : p ∣ a := (h.mul _ _ ha).elim id id
theorem Prm.dbl {p a : Int} (h : Prm p) (ha : p ∣ 2 * a) : p ∣ a := (h.mul _ _ ha).resolve_left h.two
theorem Prm.both {p a b : Int} (h : Prm p) (h1 : p ∣ a - b) (h2 : p ∣ a + b) : p ∣ a := h.dbl (by
  obtain ⟨j, hj⟩ := h1; obtain ⟨k, hk⟩ := h2; exact ⟨j + k, by grind⟩)
section
variable {G : Type} {A B : Int} {z : G} {ad : G → G → G} {ne : G → G} {X Y : G → Int} {H : List G}
theorem TG.add_zero (h : TG A B z ad ne X Y H) {a : G} (ha : a ∈ H) : ad a z = a := by rw [h.comm a ha z h.z_mem, h.zadd a ha]
theorem TG.cancel (h : TG A B z ad ne X Y H) {a b c : G} (ha : a ∈ H) (hb : b ∈ H) (hc : c ∈ H) (e : ad a b = ad a c) : b = c := by
  have h1 : ad (ne a) (ad a b) = b := by rw [← h.assoc _ (h.ne_mem a ha) a ha b hb, h.comm _ (h.ne_mem a ha) a ha, h.back a ha, h.zadd b hb]
  have h2 : ad (ne a) (ad a c) = c := by rw [← h.assoc _ (h.ne_mem a ha) a ha c hc, h.comm _ (h.ne_mem a ha) a ha, h.back a ha, h.zadd c hc]
  rw [← h1, ← h2, e]
theorem TG.ne_ne (h : TG A B z ad ne X Y H) {a : G} (ha : a ∈ H) : ne (ne a) = a :=
  h.cancel (h.ne_mem a ha) (h.ne_mem _ (h.ne_mem a ha)) ha (by rw [h.back _ (h.ne_mem a ha), h.comm _ (h.ne_mem a ha) a ha, h.back a ha])
theorem TG.ne_z (h : TG A B z ad ne X Y H) {a : G} (ha : a ∈ H) (hz : a ≠ z) : ne a ≠ z := by
  intro e
  have := h.back a ha
  rw [e, h.add_zero ha] at this
  exact hz this
theorem TG.neg_of (h : TG A B z ad ne X Y H) {a b : G} (ha : a ∈ H) (hb : b ∈ H) (e : ad a b = z) : b = ne a :=
  h.cancel ha hb (h.ne_mem a ha) (by rw [e, h.back a ha])
/-- Equal first coordinates: the same point or its opposite. -/
theorem TG.x_same (h : TG A B z ad ne X Y H) {a b : G} (ha : a ∈ H) (hb : b ∈ H) (za : a ≠ z) (zb : b ≠ z) (e : X a = X b) : a = b ∨ a = ne b := by
  have h1 := h.on a ha za; have h2 := h.on b hb zb
  have h3 : (Y a - Y b) * (Y a + Y b) = 0 := by rw [e] at h1; grind
  rcases Int.mul_eq_zero.1 h3 with g | g
  · exact .inl (h.same a ha b hb za zb e (by omega))
  · exact .inr (h.same a ha _ (h.ne_mem b hb) za (h.ne_z hb zb) (by rw [h.nx b hb zb, e]) (by rw [h.ny b hb zb]; omega))
theorem TG.x_ne (h : TG A B z ad ne X Y H) {a b : G} (ha : a ∈ H) (hb : b ∈ H) (za : a ≠ z) (zb : b ≠ z) (h1 : a ≠ b) (h2 : ad a b ≠ z) : X a ≠ X b := by
  intro e
  rcases h.x_same ha hb za zb e with g | g
  · exact h1 g
  · exact h2 (by rw [g, h.comm _ (h.ne_mem b hb) b hb, h.back b hb])
theorem TG.y_ne (h : TG A B z ad ne X Y H) {a : G} (ha : a ∈ H) (za : a ≠ z) (h2 : ad a a ≠ z) : Y a ≠ 0 := by
  intro e
  have h1 : a = ne a := h.same a ha _ (h.ne_mem a ha) za (h.ne_z ha za) (h.nx a ha za).symm (by rw [h.ny a ha za, e]; rfl)
  have := h.back a ha
  rw [← h1] at this
  exact h2 this
theorem TG.y_zero (h : TG A B z ad ne X Y H) {a : G} (ha : a ∈ H) (za : a ≠ z) (h2 : ad a a = z) : Y a = 0 := by
  have e := h.neg_of ha ha h2
  have := h.ny a ha za
  rw [← e] at this
  omega
variable {p : Int}
theorem TG.dvd_y (hp : Prm p) (h : TG A B z ad ne X Y H) {a b : G} (ha : a ∈ H) (hb : b ∈ H) (za : a ≠ z) (zb : b ≠ z) (hx : X a ≠ X b) (hd : p ∣ X a - X b) : p ∣ Y a := by
  obtain ⟨l, e1, -⟩ := h.chord a ha b hb za zb hx
  obtain ⟨m, e2, -⟩ := h.chord a ha _ (h.ne_mem b hb) za (h.ne_z hb zb) (by rw [h.nx b hb zb]; exact hx)
  rw [h.nx b hb zb, h.ny b hb zb] at e2
  obtain ⟨k, hk⟩ := hd
  rw [hk] at e1 e2
  exact hp.both (b := Y b) ⟨l * k, by rw [e1]; grind⟩ ⟨m * k, by grind⟩
theorem disc_sing {x y l j A B p : Int} (on : y * y = x * x * x + A * x + B) (ht : 2 * y * l = 3 * x * x + A) (hy : y = p * j) : p * p ∣ 4 * A * A * A + 27 * B * B := by
  have hA : A = p * (2 * j * l) - 3 * x * x := by rw [hy] at ht; grind
  have hB : B = p * p * (j * j) - x * x * x - A * x := by rw [hy] at on; grind
  obtain ⟨c, hc⟩ : ∃ c, c = 2 * j * l := ⟨_, rfl⟩
  rw [← hc] at hA
  refine ⟨4 * p * c * c * c - 9 * c * c * x * x + 54 * x * (j * j) * (2 * x * x - p * c) + 27 * p * p * (j * j) * (j * j), ?_⟩
  rw [hB, hA]; grind
theorem disc_roots {x y A B p : Int} (hx : 0 = x * x * x + A * x + B) (hy : 0 = y * y * y + A * y + B) (hne : x ≠ y) (hd : p ∣ x - y) : p * p ∣ 4 * A * A * A + 27 * B * B := by
  have h : (x - y) * (x * x + x * y + y * y + A) = 0 := by grind
  have hA : A = -(x * x + x * y + y * y) := by
    rcases Int.mul_eq_zero.1 h with g | g
    · omega
    · omega
  have hB : B = x * y * (x + y) := by rw [hA] at hx; grind
  obtain ⟨k, hk⟩ := hd
  refine ⟨-(k * k * ((2 * x + y) * (2 * x + y)) * ((x + 2 * y) * (x + 2 * y))), ?_⟩
  rw [hB, hA]
  have e : 4 * -(x * x + x * y + y * y) * -(x * x + x * y + y * y) * -(x * x + x * y + y * y) + 27 * (x * y * (x + y)) * (x * y * (x + y)) = -((x - y) * (x - y) * ((2 * x + y) * (2 * x + y)) * ((x + 2 * y) * (x + 2 * y))) := by grind
  rw [e, hk]; grind
/-- p^2 does not divide the discriminant: second coordinates that are not 0 are no multiples of p, and first ones stay apart. -/
theorem TG.y_apart (_hp : Prm p) (h : TG A B z ad ne X Y H) (hD : ¬ p * p ∣ 4 * A * A * A + 27 * B * B) {a : G} (ha : a ∈ H) (za : a ≠ z) (hy : p ∣ Y a) : Y a = 0 := by
  apply Classical.byContradiction
  intro g
  obtain ⟨l, e, -⟩ := h.tang a ha za g
  obtain ⟨j, hj⟩ := hy
  exact hD (disc_sing (h.on a ha za) e hj)
theorem TG.x_apart (hp : Prm p) (h : TG A B z ad ne X Y H) (hD : ¬ p * p ∣ 4 * A * A * A + 27 * B * B) {a b : G} (ha : a ∈ H) (hb : b ∈ H) (za : a ≠ z) (zb : b ≠ z) (hd : p ∣ X a - X b) : X a = X b := by
  apply Classical.byContradiction
  intro g
  have h1 := h.y_apart hp hD ha za (h.dvd_y hp ha hb za zb g hd)
  have h2 := h.y_apart hp hD hb zb (h.dvd_y hp hb ha zb za (fun e => g e.symm) (by obtain ⟨k, hk⟩ := hd; exact ⟨-k, by rw [Int.mul_neg, ← hk]; omega⟩))
  have o1 := h.on a ha za; have o2 := h.on b hb zb
  rw [h1] at o1; rw [h2] at o2
  exact hD (disc_roots (x := X a) (y := X b) (by simpa using o1) (by simpa using o2) g hd)
theorem inj_len {α β : Type} {f : α → β} {l : List α} {m : List β} (hn : l.Nodup) (hf : ∀ a, a ∈ l → ∀ b, b ∈ l → f a = f b → a = b) (hm : ∀ a, a ∈ l → f a ∈ m) : l.length ≤ m.length := by
  have h1 : (l.map f).Nodup := by
    unfold List.Nodup
    rw [List.pairwise_map]
    exact List.Pairwise.imp_of_mem (fun {a b} ha hb hab e => hab (hf a ha b hb e)) hn
  have h2 := h1.length_le_of_subset (l₂ := m) (by
    intro x hx
    obtain ⟨a, ha, rfl⟩ := List.mem_map.1 hx
    exact hm a ha)
  simpa using h2
/-- The affine points modulo p. -/
def aff (p : Nat) (A B : Nat) : List (Nat × Nat) := (List.range p).flatMap fun x => ((List.range p).filter fun y => y * y % p == (x * x * x + A * x + B) % p).map fun y => (x, y)
theorem mem_aff {p A B x y : Nat} (hx : x < p) (hy : y < p) (h : y * y % p = (x * x * x + A * x + B) % p) : (x, y) ∈ aff p A B := by
  unfold aff
  refine List.mem_flatMap.2 ⟨x, List.mem_range.2 hx, List.mem_map.2 ⟨y, List.mem_filter.2 ⟨List.mem_range.2 hy, by simpa using h⟩, rfl⟩⟩
def res (p : Nat) (x : Int) : Nat := (x % (p : Int)).toNat
theorem res_cast {p : Nat} (hp : 0 < p) (x : Int) : ((res p x : Nat) : Int) = x % (p : Int) := by
  unfold res
  have := Int.emod_nonneg x (b := (p : Int)) (by omega)
  omega
theorem res_lt {p : Nat} (hp : 0 < p) (x : Int) : res p x < p := by
  have h1 := res_cast hp x
  have h2 := Int.emod_lt_of_pos x (b := (p : Int)) (by omega)
  omega
theorem res_eq {p : Nat} (hp : 0 < p) {x y : Int} (h : res p x = res p y) : (p : Int) ∣ x - y := by
  have h1 := res_cast hp x; have h2 := res_cast hp y
  rw [h, h2] at h1
  exact Int.dvd_of_emod_eq_zero (by rw [Int.sub_emod, h1]; simp)
theorem TG.count [DecidableEq G] {q : Nat} (q0 : 0 < q) (hp : Prm (q : Int)) (h : TG A B z ad ne X Y H) (hD : ¬ (q : Int) * q ∣ 4 * A * A * A + 27 * B * B) : H.length ≤ (aff q (res q A) (res q B)).length + 1 := by
  have key := inj_len (f := fun a => if a = z then (none : Option (Nat × Nat)) else some (res q (X a), res q (Y a))) (m := none :: (aff q (res q A) (res q B)).map some) h.nodup ?_ ?_
  · simpa using key
  · intro a ha b hb e
    by_cases za : a = z
    · by_cases zb : b = z
      · rw [za, zb]
      · simp [za, zb] at e
    · by_cases zb : b = z
      · simp [za, zb] at e
      · simp only [za, zb, if_false, Option.some.injEq, Prod.mk.injEq] at e
        have hx := h.x_apart hp hD ha hb za zb (res_eq q0 e.1)
        rcases h.x_same ha hb za zb hx with g | g
        · exact g
        · have hy := res_eq q0 e.2
          rw [g, h.ny b hb zb] at hy
          have h2 : (q : Int) ∣ Y b := hp.dbl (by obtain ⟨k, hk⟩ := hy; exact ⟨-k, by rw [Int.mul_neg, ← hk]; omega⟩)
          have h3 := h.y_apart hp hD hb zb h2
          rw [g]
          exact h.same _ (h.ne_mem b hb) b hb (h.ne_z hb zb) zb (h.nx b hb zb) (by rw [h.ny b hb zb, h3]; rfl)
  · intro a ha
    by_cases za : a = z
    · simp [za]
    · simp only [za, if_false, List.mem_cons, reduceCtorEq, false_or, List.mem_map]
      refine ⟨_, mem_aff (res_lt q0 _) (res_lt q0 _) ?_, rfl⟩
      have ho := h.on a ha za
      have e : ((res q (Y a) * res q (Y a) % q : Nat) : Int) = (((res q (X a) * res q (X a) * res q (X a) + res q A * res q (X a) + res q B) % q : Nat) : Int) := by
        push_cast
        simp only [res_cast q0]
        have h1 : (Y a % (q : Int)) * (Y a % (q : Int)) % (q : Int) = (Y a * Y a) % (q : Int) := by rw [← Int.mul_emod]
        have h2 : ((X a % (q : Int)) * (X a % (q : Int)) * (X a % (q : Int)) + (A % (q : Int)) * (X a % (q : Int)) + B % (q : Int)) % (q : Int) = (X a * X a * X a + A * X a + B) % (q : Int) := by
          simp [Int.add_emod, Int.mul_emod]
        rw [h1, h2, ho]
      exact_mod_cast e
end
theorem prm5 : Prm 5 := ⟨fun a b h => by
  have h := Int.emod_eq_zero_of_dvd h
  rw [Int.mul_emod] at h
  have ha : a % 5 = 0 ∨ a % 5 = 1 ∨ a % 5 = 2 ∨ a % 5 = 3 ∨ a % 5 = 4 := by omega
  have hb : b % 5 = 0 ∨ b % 5 = 1 ∨ b % 5 = 2 ∨ b % 5 = 3 ∨ b % 5 = 4 := by omega
  rcases ha with e | e | e | e | e <;> rcases hb with f | f | f | f | f <;> simp [e, f] at h <;> omega, by decide, by decide⟩
theorem aff5 : ((List.range 5).all fun a => (List.range 5).all fun b => (aff 5 a b).length ≤ 10) = true := by decide +kernel
theorem aff7 : ((List.range 7).all fun a => (List.range 7).all fun b => (aff 7 a b).length ≤ 12) = true := by decide +kernel
theorem prm_of {q : Nat} (h2 : 3 ≤ q) (h : ∀ a b : Fin q, a.val * b.val % q = 0 → a.val = 0 ∨ b.val = 0) : Prm (q : Int) := by
  refine ⟨fun a b hd => ?_, fun hd => ?_, by omega⟩
  · have e := h ⟨res q a, res_lt (by omega) a⟩ ⟨res q b, res_lt (by omega) b⟩ (by
      have e1 : ((res q a * res q b % q : Nat) : Int) = 0 := by
        push_cast
        rw [res_cast (by omega), res_cast (by omega), ← Int.mul_emod]
        exact Int.emod_eq_zero_of_dvd hd
      exact_mod_cast e1)
    rcases e with e | e
    · left
      have e : res q a = 0 := e
      have := res_cast (p := q) (by omega) a
      rw [e] at this
      exact Int.dvd_of_emod_eq_zero this.symm
    · right
      have e : res q b = 0 := e
      have := res_cast (p := q) (by omega) b
      rw [e] at this
      exact Int.dvd_of_emod_eq_zero this.symm
  · obtain ⟨k, hk⟩ := hd
    have h1 := Int.le_of_dvd (a := (q : Int)) (b := 2) (by omega) ⟨k, hk⟩
    omega
theorem prm3 : Prm ((3 : Nat) : Int) := prm_of (by omega) (by decide +kernel)
theorem prm5n : Prm ((5 : Nat) : Int) := prm_of (by omega) (by decide +kernel)
theorem prm7 : Prm ((7 : Nat) : Int) := prm_of (by omega) (by decide +kernel)
theorem prm13 : Prm ((13 : Nat) : Int) := prm_of (by omega) (by decide +kernel)
theorem aff3 : ((List.range 3).all fun a => (List.range 3).all fun b => (aff 3 a b).length ≤ 6) = true := by decide +kernel
theorem aff_le {q m : Nat} (q0 : 0 < q) (h : ((List.range q).all fun a => (List.range q).all fun b => (aff q a b).length ≤ m) = true) (A B : Int) : (aff q (res q A) (res q B)).length ≤ m := by
  rw [List.all_eq_true] at h
  have h := h (res q A) (List.mem_range.2 (res_lt q0 A))
  rw [List.all_eq_true] at h
  simpa using h (res q B) (List.mem_range.2 (res_lt q0 B))
theorem four_roots {A B a b c d : Int} (ha : a*a*a + A*a + B = 0) (hb : b*b*b + A*b + B = 0) (hc : c*c*c + A*c + B = 0) (hd : d*d*d + A*d + B = 0) (ab : a ≠ b) (ac : a ≠ c) (ad : a ≠ d) (bc : b ≠ c) (bd : b ≠ d) (cd : c ≠ d) : False := by
  have q : ∀ {u v : Int}, u*u*u + A*u + B = 0 → v*v*v + A*v + B = 0 → u ≠ v → u*u + u*v + v*v + A = 0 := by
    intro u v hu hv huv
    have h : (u - v) * (u*u + u*v + v*v + A) = 0 := by grind
    rcases Int.mul_eq_zero.1 h with g | g
    · omega
    · exact g
  have s : ∀ {u v : Int}, u ≠ v → a*a + a*u + u*u + A = 0 → a*a + a*v + v*v + A = 0 → a + u + v = 0 := by
    intro u v huv h1 h2
    have h : (u - v) * (a + u + v) = 0 := by grind
    rcases Int.mul_eq_zero.1 h with g | g
    · omega
    · exact g
  have h1 := s bc (q ha hb ab) (q ha hc ac)
  have h2 := s bd (q ha hb ab) (q ha hd ad)
  omega
section
variable {G : Type} {A B : Int} {z : G} {ad : G → G → G} {ne : G → G} {X Y : G → Int} {H : List G}
theorem pick {H L : List G} (hn : H.Nodup) (hl : L.length < H.length) : ∃ a, a ∈ H ∧ a ∉ L := by
  apply Classical.byContradiction
  intro g
  have : H.length ≤ L.length := hn.length_le_of_subset (fun a ha => Classical.byContradiction fun h => g ⟨a, ha, h⟩)
  omega
/-- The points of order two, with zero. -/
def tw [DecidableEq G] (z : G) (ad : G → G → G) (H : List G) : List G := H.filter fun a => ad a a = z
theorem two_x (h : TG A B z ad ne X Y H) {a b : G} (ha : a ∈ H) (hb : b ∈ H) (za : a ≠ z) (zb : b ≠ z) (h2 : ad b b = z) (hab : a ≠ b) : X a ≠ X b := by
  intro e
  have e2 := h.neg_of hb hb h2
  rcases h.x_same ha hb za zb e with g | g
  · exact hab g
  · exact hab (by rw [g, ← e2])
theorem two_root (h : TG A B z ad ne X Y H) {a : G} (ha : a ∈ H) (za : a ≠ z) (h2 : ad a a = z) : X a * X a * X a + A * X a + B = 0 := by
  have := h.on a ha za
  rw [h.y_zero ha za h2] at this
  simpa using this.symm
theorem tw_le [DecidableEq G] (h : TG A B z ad ne X Y H) : (tw z ad H).length ≤ 4 := by
  have hn : (tw z ad H).Nodup := h.nodup.sublist List.filter_sublist
  have hz : z ∈ tw z ad H := List.mem_filter.2 ⟨h.z_mem, by simp [h.zadd z h.z_mem]⟩
  have hl := List.length_erase_of_mem hz
  have hne : ((tw z ad H).erase z).Nodup := hn.erase z
  have hm : ∀ a, a ∈ (tw z ad H).erase z → a ∈ H ∧ a ≠ z ∧ ad a a = z := by
    intro a ha
    have h1 := (hn.mem_erase_iff).1 ha
    have h2 := List.mem_filter.1 h1.2
    exact ⟨h2.1, h1.1, by simpa using h2.2⟩
  rcases Nat.lt_or_ge 4 (tw z ad H).length with g | g
  · exfalso
    match he : (tw z ad H).erase z with
    | [] | [_] | [_, _] | [_, _, _] => rw [he] at hl; simp at hl; omega
    | a :: b :: c :: d :: l =>
      rw [he] at hne hm
      obtain ⟨a1, a2, a3⟩ := hm a (by simp); obtain ⟨b1, b2, b3⟩ := hm b (by simp); obtain ⟨c1, c2, c3⟩ := hm c (by simp); obtain ⟨d1, d2, d3⟩ := hm d (by simp)
      simp only [List.nodup_cons, List.mem_cons, not_or] at hne
      obtain ⟨⟨ab, ac, ad', -⟩, ⟨bc, bd, -⟩, ⟨cd, -⟩, -⟩ := hne
      exact four_roots (two_root h a1 a2 a3) (two_root h b1 b2 b3) (two_root h c1 c2 c3) (two_root h d1 d2 d3) (two_x h a1 b1 a2 b2 b3 ab) (two_x h a1 c1 a2 c2 c3 ac) (two_x h a1 d1 a2 d2 d3 ad') (two_x h b1 c1 b2 c2 c3 bc) (two_x h b1 d1 b2 d2 d3 bd) (two_x h c1 d1 c2 d2 d3 cd)
  · exact g
/-- Two points of order two, if there are three elements. -/
theorem tw_two [DecidableEq G] (h : TG A B z ad ne X Y H) (hl : 3 ≤ (tw z ad H).length) : ∃ s t, s ∈ H ∧ t ∈ H ∧ s ≠ z ∧ t ≠ z ∧ s ≠ t ∧ ad s s = z ∧ ad t t = z := by
  have hn : (tw z ad H).Nodup := h.nodup.sublist List.filter_sublist
  have hz : z ∈ tw z ad H := List.mem_filter.2 ⟨h.z_mem, by simp [h.zadd z h.z_mem]⟩
  have hl2 := List.length_erase_of_mem hz
  have hne : ((tw z ad H).erase z).Nodup := hn.erase z
  have hm : ∀ a, a ∈ (tw z ad H).erase z → a ∈ H ∧ a ≠ z ∧ ad a a = z := by
    intro a ha
    have h1 := (hn.mem_erase_iff).1 ha
    have h2 := List.mem_filter.1 h1.2
    exact ⟨h2.1, h1.1, by simpa using h2.2⟩
  match he : (tw z ad H).erase z with
  | [] | [_] => rw [he] at hl2; simp at hl2; omega
  | a :: b :: l =>
    rw [he] at hne hm
    obtain ⟨a1, a2, a3⟩ := hm a (by simp); obtain ⟨b1, b2, b3⟩ := hm b (by simp)
    simp only [List.nodup_cons, List.mem_cons, not_or] at hne
    exact ⟨a, b, a1, b1, a2, b2, hne.1.1, a3, b3⟩
/-- A subgroup of one or three elements, whose elements threefold are zero. -/
structure Sub0 (z : G) (ad : G → G → G) (ne : G → G) (H L : List G) : Prop where
  sub : ∀ a, a ∈ L → a ∈ H
  z_mem : z ∈ L
  ad_mem : ∀ a, a ∈ L → ∀ b, b ∈ L → ad a b ∈ L
  ne_mem : ∀ a, a ∈ L → ne a ∈ L
  three : ∀ a, a ∈ L → ad (ad a a) a = z
theorem TG.swap (h : TG A B z ad ne X Y H) {a b c d : G} (ha : a ∈ H) (hb : b ∈ H) (hc : c ∈ H) (hd : d ∈ H) : ad (ad a b) (ad c d) = ad (ad a c) (ad b d) := by
  rw [h.assoc a ha b hb _ (h.ad_mem c hc d hd), ← h.assoc b hb c hc d hd, h.comm b hb c hc, h.assoc c hc b hb d hd, ← h.assoc a ha c hc _ (h.ad_mem b hb d hd)]
/-- The elements whose doubles lie in the subgroup are few. -/
def badL [DecidableEq G] (z : G) (ad : G → G → G) (ne : G → G) (H L : List G) : List G := (tw z ad H).flatMap fun t => L.map fun m => ad t (ne m)
theorem badL_len [DecidableEq G] (z : G) (ad : G → G → G) (ne : G → G) (H L : List G) : (badL z ad ne H L).length = (tw z ad H).length * L.length := by
  unfold badL
  generalize tw z ad H = T
  induction T with
  | nil => simp
  | cons t T ih => rw [List.flatMap_cons, List.length_append, ih, List.length_map, List.length_cons, Nat.succ_mul, Nat.add_comm]
theorem mem_badL [DecidableEq G] (h : TG A B z ad ne X Y H) {L : List G} (s : Sub0 z ad ne H L) {g : G} (hg : g ∈ H) (h2 : ad g g ∈ L) : g ∈ badL z ad ne H L := by
  have hm := s.sub _ h2
  have ht : ad g (ad g g) ∈ H := h.ad_mem g hg _ hm
  refine List.mem_flatMap.2 ⟨ad g (ad g g), List.mem_filter.2 ⟨ht, ?_⟩, List.mem_map.2 ⟨ad g g, h2, ?_⟩⟩
  · have e : ad (ad g (ad g g)) (ad g (ad g g)) = z := by
      rw [h.swap hg hm hg hm]
      have := s.three _ h2
      rw [← this, h.comm _ (h.ad_mem _ hm _ hm) _ hm]
    simpa using e
  · rw [h.assoc g hg _ hm _ (h.ne_mem _ hm), h.back _ hm, h.add_zero hg]
end
section
variable {G : Type} {A B : Int} {z : G} {ad : G → G → G} {ne : G → G} {X Y : G → Int} {H : List G}
theorem odd_two (h : TG A B z ad ne X Y H) {L : List G} (s : Sub0 z ad ne H L) {a : G} (ha : a ∈ L) (h2 : ad a a = z) : a = z := by
  have := s.three a ha
  rw [h2, h.zadd a (s.sub a ha)] at this
  exact this
theorem choose_two [DecidableEq G] (h : TG A B z ad ne X Y H) {L : List G} (s : Sub0 z ad ne H L) (hL : L.length = 1 ∨ L.length = 3) (h14 : 14 ≤ H.length) :
    ∃ p q, p ∈ H ∧ q ∈ H ∧ ad p p ∉ L ∧ ad q q ∉ L ∧ ad p q ∉ L ∧ ad p (ne q) ∉ L := by
  have ht := tw_le h
  have hb := badL_len z ad ne H L
  obtain ⟨p, hp, hp2⟩ := pick (L := badL z ad ne H L) h.nodup (by
    rw [hb]
    have : (tw z ad H).length * L.length ≤ 4 * 3 := Nat.mul_le_mul ht (by omega)
    omega)
  have hpp : ad p p ∉ L := fun e => hp2 (mem_badL h s hp e)
  by_cases hs : (tw z ad H).length * L.length + L.length + L.length < H.length
  · obtain ⟨q, hq, hq2⟩ := pick (L := badL z ad ne H L ++ L.map (ad p) ++ L.map (ad (ne p))) h.nodup (by simp only [List.length_append, List.length_map, hb]; omega)
    simp only [List.mem_append, List.mem_map, not_or, not_exists, not_and] at hq2
    refine ⟨p, q, hp, hq, hpp, fun e => hq2.1.1 (mem_badL h s hq e), fun e => hq2.2 _ e ?_, fun e => hq2.1.2 _ (s.ne_mem _ e) ?_⟩
    · rw [← h.assoc _ (h.ne_mem p hp) p hp q hq, h.comm _ (h.ne_mem p hp) p hp, h.back p hp, h.zadd q hq]
    · refine (h.neg_of (a := ne q) (h.ne_mem q hq) (h.ad_mem p hp _ (h.ne_mem _ (h.ad_mem p hp _ (h.ne_mem q hq)))) ?_).trans (h.ne_ne hq)
      rw [← h.assoc _ (h.ne_mem q hq) p hp _ (h.ne_mem _ (h.ad_mem p hp _ (h.ne_mem q hq))), h.comm _ (h.ne_mem q hq) p hp, h.back _ (h.ad_mem p hp _ (h.ne_mem q hq))]
  · have h3 : L.length = 3 := by
      rcases hL with g | g
      · rw [g] at hs; omega
      · exact g
    have ht3 : 3 ≤ (tw z ad H).length := by
      rw [h3] at hs
      omega
    obtain ⟨a, b, ha, hb', za, zb, hab, a2, b2⟩ := tw_two h ht3
    have one : ∀ t, t ∈ H → t ≠ z → ad t t = z → ad p (ad p t) ∉ L → ∃ p q, p ∈ H ∧ q ∈ H ∧ ad p p ∉ L ∧ ad q q ∉ L ∧ ad p q ∉ L ∧ ad p (ne q) ∉ L := by
      intro t mt zt t2 hn
      have mq := h.ad_mem p hp t mt
      refine ⟨p, ad p t, hp, mq, hpp, ?_, hn, ?_⟩
      · rw [h.swap hp mt hp mt, t2, h.add_zero (h.ad_mem p hp p hp)]; exact hpp
      · intro e
        have e2 : ad (ad p (ne (ad p t))) t = z := by
          have e3 : ad t (ad p (ne (ad p t))) = z := by
            rw [← h.assoc t mt p hp _ (h.ne_mem _ mq), h.comm t mt p hp, h.back _ mq]
          rw [h.comm _ (h.ad_mem p hp _ (h.ne_mem _ mq)) t mt, e3]
        have e4 := h.neg_of (h.ad_mem p hp _ (h.ne_mem _ mq)) mt e2
        have : t ∈ L := by rw [e4]; exact s.ne_mem _ e
        exact zt (odd_two h s this t2)
    by_cases ga : ad p (ad p a) ∈ L
    · refine one b hb' zb b2 fun gb => ?_
      -- the difference of the two
      have hpa := h.ad_mem p hp a ha; have hpb := h.ad_mem p hp b hb'
      have m1 := s.ad_mem _ ga _ (s.ne_mem _ gb)
      have e : ad (ad p (ad p a)) (ne (ad p (ad p b))) = ad a (ne b) := by
        have mm := h.ad_mem p hp p hp
        have i1 : ad p (ad p a) = ad a (ad p p) := by rw [← h.assoc p hp p hp a ha, h.comm _ mm a ha]
        have i2 : ad p (ad p b) = ad b (ad p p) := by rw [← h.assoc p hp p hp b hb', h.comm _ mm b hb']
        have i3 : ne (ad b (ad p p)) = ad (ne b) (ne (ad p p)) := by
          refine (h.neg_of (h.ad_mem b hb' _ mm) (h.ad_mem _ (h.ne_mem b hb') _ (h.ne_mem _ mm)) ?_).symm
          rw [h.swap hb' mm (h.ne_mem b hb') (h.ne_mem _ mm), h.back b hb', h.back _ mm, h.zadd z h.z_mem]
        rw [i1, i2, i3, h.swap ha mm (h.ne_mem b hb') (h.ne_mem _ mm), h.back _ mm, h.add_zero (h.ad_mem a ha _ (h.ne_mem b hb'))]
      rw [e] at m1
      have nb : ne b = b := (h.neg_of hb' hb' b2).symm
      rw [nb] at m1
      have h2 : ad (ad a b) (ad a b) = z := by rw [h.swap ha hb' ha hb', a2, b2, h.zadd z h.z_mem]
      have h5 := odd_two h s m1 h2
      have h6 := h.neg_of ha hb' h5
      have h7 := h.neg_of ha ha a2
      exact hab (by rw [h6, ← h7])
    · exact one a ha za a2 ga
/-- The subgroup of what is not singular modulo 3. -/
theorem at_three [DecidableEq G] (h : TG A B z ad ne X Y H) (hA : 3 ∣ A) : ∃ L : List G, Sub0 z ad ne H L ∧ (L.length = 1 ∨ L.length = 3) ∧ ∀ g, g ∈ H → g ∉ L → g ≠ z ∧ 3 ∣ Y g ∧ 3 ∣ X g + B := by
  have key : ∀ g, g ∈ H → g ≠ z → (3 ∣ Y g ∧ 3 ∣ X g + B) ∨ (¬ 3 ∣ Y g ∧ (X g + B) % 3 = 1) := by
    intro g hg zg
    have ho := h.on g hg zg
    obtain ⟨k, hk⟩ := hA
    have hx : 3 ∣ X g * X g * X g - X g := by
      have e : X g % 3 = 0 ∨ X g % 3 = 1 ∨ X g % 3 = 2 := by omega
      apply Int.dvd_of_emod_eq_zero
      rcases e with e | e | e <;> simp [Int.sub_emod, Int.mul_emod, e]
    obtain ⟨j, hj⟩ := hx
    have e1 : Y g * Y g = 3 * (j + k * X g) + (X g + B) := by rw [ho, hk]; grind
    by_cases hy : 3 ∣ Y g
    · left
      obtain ⟨m, hm⟩ := hy
      refine ⟨⟨m, hm⟩, ?_⟩
      have e2 : Y g * Y g = 3 * (m * (3 * m)) := by rw [hm]; grind
      rw [e2] at e1
      omega
    · right
      refine ⟨hy, ?_⟩
      have e3 : (Y g * Y g) % 3 = 1 := by
        have e : Y g % 3 = 1 ∨ Y g % 3 = 2 := by omega
        rcases e with e | e <;> simp [Int.mul_emod, e]
      rw [e1] at e3
      omega
  by_cases hN : ∃ n, n ∈ H ∧ n ≠ z ∧ ¬ 3 ∣ Y n
  · obtain ⟨n, mn, zn, yn⟩ := hN
    have same : ∀ g, g ∈ H → g ≠ z → ¬ 3 ∣ Y g → g = n ∨ g = ne n := by
      intro g mg zg yg
      have k1 := (key n mn zn).resolve_left (fun e => yn e.1); have k2 := (key g mg zg).resolve_left (fun e => yg e.1)
      refine h.x_same mg mn zg zn ?_
      apply Classical.byContradiction
      intro hx
      exact yg (by simpa using h.dvd_y prm3 mg mn zg zn hx (by show (3 : Int) ∣ _; omega))
    have yn0 : Y n ≠ 0 := fun e => yn (by rw [e]; exact ⟨0, rfl⟩)
    have nn : ad n n ≠ z := fun e => yn0 (h.y_zero mn zn e)
    have dbl : ad n n = ne n := by
      obtain ⟨l, e1, e2⟩ := h.tang n mn zn yn0
      have mm := h.ad_mem n mn n mn
      have k1 := (key n mn zn).resolve_left (fun e => yn e.1)
      have hl : 3 ∣ l := by
        obtain ⟨k, hk⟩ := hA
        have h1 : (3 : Int) ∣ 2 * (Y n * l) := ⟨X n * X n + k, by rw [hk] at e1; grind⟩
        have h2 := (show Prm 3 from prm3).dbl h1
        exact ((show Prm 3 from prm3).mul _ _ h2).resolve_left yn
      obtain ⟨m, hm⟩ := hl
      have e3 : l * l = 3 * (m * l) := by rw [hm]; grind
      rw [e3] at e2
      have hy2 : ¬ 3 ∣ Y (ad n n) := by
        intro hd
        rcases key _ mm nn with g | g
        · omega
        · exact g.1 hd
      rcases same _ mm nn hy2 with g | g
      · exact absurd (h.cancel mn mn h.z_mem (by rw [g, h.add_zero mn])) zn
      · exact g
    have mn' := h.ne_mem n mn
    have zn' := h.ne_z mn zn
    have nne : n ≠ ne n := fun e => nn (by have := h.back n mn; rwa [← e] at this)
    have dbl' : ad (ne n) (ne n) = n := by
      have m2 := h.ad_mem n mn n mn
      have e1 : ad (ad n n) n = z := by rw [dbl, h.comm _ mn' n mn, h.back n mn]
      have e2 : ad (ad n n) (ad n n) = ad (ad (ad n n) n) n := (h.assoc _ m2 n mn n mn).symm
      rw [e1, h.zadd n mn, dbl] at e2
      exact e2
    refine ⟨[z, n, ne n], ⟨?_, by simp, ?_, ?_, ?_⟩, .inr rfl, ?_⟩
    · intro a ha
      simp only [List.mem_cons, List.not_mem_nil, or_false] at ha
      rcases ha with rfl | rfl | rfl
      · exact h.z_mem
      · exact mn
      · exact mn'
    · intro a ha b hb
      simp only [List.mem_cons, List.not_mem_nil, or_false] at ha hb ⊢
      rcases ha with rfl | rfl | rfl
      · rcases hb with rfl | rfl | rfl
        · exact .inl (h.zadd _ h.z_mem)
        · exact .inr (.inl (h.zadd _ mn))
        · exact .inr (.inr (h.zadd _ mn'))
      · rcases hb with rfl | rfl | rfl
        · exact .inr (.inl (h.add_zero mn))
        · exact .inr (.inr dbl)
        · exact .inl (h.back _ mn)
      · rcases hb with rfl | rfl | rfl
        · exact .inr (.inr (h.add_zero mn'))
        · exact .inl (by rw [h.comm _ mn' _ mn]; exact h.back _ mn)
        · exact .inr (.inl dbl')
    · intro a ha
      simp only [List.mem_cons, List.not_mem_nil, or_false] at ha ⊢
      rcases ha with rfl | rfl | rfl
      · left
        have := h.neg_of h.z_mem h.z_mem (h.zadd _ h.z_mem)
        exact this.symm
      · exact .inr (.inr rfl)
      · exact .inr (.inl (h.ne_ne mn))
    · intro a ha
      simp only [List.mem_cons, List.not_mem_nil, or_false] at ha
      rcases ha with rfl | rfl | rfl
      · rw [h.zadd _ h.z_mem, h.zadd _ h.z_mem]
      · rw [dbl, h.comm _ mn' _ mn]; exact h.back _ mn
      · rw [dbl']; exact h.back _ mn
    · intro g mg hg
      simp only [List.mem_cons, List.not_mem_nil, or_false, not_or] at hg
      rcases key g mg hg.1 with k | k
      · exact ⟨hg.1, k.1, k.2⟩
      · rcases same g mg hg.1 k.1 with e | e
        · exact absurd e hg.2.1
        · exact absurd e hg.2.2
  · refine ⟨[z], ⟨?_, by simp, ?_, ?_, ?_⟩, .inl rfl, ?_⟩
    · intro a ha; simp only [List.mem_singleton] at ha; subst ha; exact h.z_mem
    · intro a ha b hb; simp only [List.mem_singleton] at ha hb ⊢; subst ha hb; exact h.zadd _ h.z_mem
    · intro a ha; simp only [List.mem_singleton] at ha ⊢; subst ha; exact (h.neg_of h.z_mem h.z_mem (h.zadd _ h.z_mem)).symm
    · intro a ha; simp only [List.mem_singleton] at ha; subst ha; rw [h.zadd _ h.z_mem, h.zadd _ h.z_mem]
    · intro g mg hg
      simp only [List.mem_singleton] at hg
      rcases key g mg hg with k | k
      · exact ⟨hg, k.1, k.2⟩
      · exact absurd ⟨g, mg, hg, k.1⟩ hN
theorem d13 : ¬ ((13 : Nat) : Int) * ((13 : Nat) : Int) ∣ 4 * 945 * 945 * 945 + 27 * 6615 * 6615 := by decide +kernel
theorem d13m : ¬ ((13 : Nat) : Int) * ((13 : Nat) : Int) ∣ 4 * 945 * 945 * 945 + 27 * (-6615) * (-6615) := by decide +kernel
theorem a13 : (aff 13 (res 13 945) (res 13 6615)).length ≤ 12 := by decide +kernel
theorem a13m : (aff 13 (res 13 945) (res 13 (-6615))).length ≤ 12 := by decide +kernel
theorem no945 [DecidableEq G] (h : TG 945 B z ad ne X Y H) (hB : B = 6615) (h14 : 14 ≤ H.length) : False := by
  subst hB
  have h1 := h.count (q := 13) (by omega) prm13 d13
  have h2 := a13
  omega
theorem no945m [DecidableEq G] (h : TG 945 B z ad ne X Y H) (hB : B = -6615) (h14 : 14 ≤ H.length) : False := by
  subst hB
  have h1 := h.count (q := 13) (by omega) prm13 d13m
  have h2 := a13m
  omega
theorem mul33 {M : Int} (h5 : 25 ∣ 19683 * M) (h7 : 49 ∣ 19683 * M) (h27 : 27 ∣ M) : 33075 ∣ M := by
  obtain ⟨a, rfl⟩ := h27
  obtain ⟨k, hk⟩ := h5; obtain ⟨l, hl⟩ := h7
  obtain ⟨b, hb⟩ : ∃ b, a = 25 * b := ⟨22 * 13 * k - 13 * 27 * 17321 * a - 14 * a, by omega⟩
  subst hb
  obtain ⟨c, hc⟩ : ∃ c, b = 49 * c := ⟨13 * 40 * l - 40 * 675 * 5222 * b - 551 * b, by omega⟩
  subst hc
  exact ⟨c, by omega⟩
set_option maxHeartbeats 1000000 in
/-- Theorem B: at most thirteen elements. -/
theorem small [DecidableEq G] (h : TG A B z ad ne X Y H) (a0 : -1000 ≤ A) (a1 : A ≤ 1000) (b0 : -10000 ≤ B) (b1 : B ≤ 10000) (hd : 4 * A * A * A + 27 * B * B ≠ 0) : H.length ≤ 13 := by
  apply Classical.byContradiction
  intro hh
  have h14 : 14 ≤ H.length := by omega
  have c5 : (25 : Int) ∣ 4 * A * A * A + 27 * B * B := Classical.byContradiction fun g => by
    have h1 := h.count (q := 5) (by omega) prm5n g
    have h2 := aff_le (q := 5) (by omega) aff5 A B
    omega
  have c7 : (49 : Int) ∣ 4 * A * A * A + 27 * B * B := Classical.byContradiction fun g => by
    have h1 := h.count (q := 7) (by omega) prm7 g
    have h2 := aff_le (q := 7) (by omega) aff7 A B
    omega
  have c3 : (9 : Int) ∣ 4 * A * A * A + 27 * B * B := Classical.byContradiction fun g => by
    have h1 := h.count (q := 3) (by omega) prm3 g
    have h2 := aff_le (q := 3) (by omega) aff3 A B
    omega
  have hA : (3 : Int) ∣ A := by
    obtain ⟨k, hk⟩ := c3
    have h1 : (3 : Int) ∣ 2 * (2 * (A * A * A)) := ⟨3 * k - 9 * (B * B), by grind⟩
    have p3 : Prm 3 := prm3
    have h2 := p3.dbl (p3.dbl h1)
    rcases p3.mul _ _ h2 with g | g
    · exact p3.sq g
    · exact g
  obtain ⟨L, s, hL, hS⟩ := at_three h hA
  obtain ⟨p, q, mp, mq, n1, n2, n3, n4⟩ := choose_two h s hL h14
  have zL := s.z_mem
  have mnq := h.ne_mem q mq
  have mpp := h.ad_mem p mp p mp; have mqq := h.ad_mem q mq q mq; have mu := h.ad_mem p mp q mq; have mv := h.ad_mem p mp _ mnq
  have kp : p ∉ L := fun e => n1 (s.ad_mem p e p e)
  have kq : q ∉ L := fun e => n2 (s.ad_mem q e q e)
  obtain ⟨zp, yp, xp⟩ := hS p mp kp; obtain ⟨zq, yq, xq⟩ := hS q mq kq
  obtain ⟨zpp, -, xpp⟩ := hS _ mpp n1; obtain ⟨zqq, -, xqq⟩ := hS _ mqq n2; obtain ⟨zu, -, xu⟩ := hS _ mu n3; obtain ⟨zv, -, xv⟩ := hS _ mv n4
  have hpq : p ≠ q := fun e => zv (by rw [e]; exact h.back q mq)
  have hx := h.x_ne mp mq zp zq hpq zu
  have yp0 := h.y_ne mp zp zpp; have yq0 := h.y_ne mq zq zqq
  obtain ⟨l1, e1, s1⟩ := h.chord p mp q mq zp zq hx
  obtain ⟨l2, e2, s2⟩ := h.chord p mp _ mnq zp (h.ne_z mq zq) (by rw [h.nx q mq zq]; exact hx)
  rw [h.nx q mq zq, h.ny q mq zq] at e2
  rw [h.nx q mq zq] at s2
  obtain ⟨l3, e3, s3⟩ := h.tang p mp zp yp0
  obtain ⟨l4, -, s4⟩ := h.tang q mq zq yq0
  -- (p+q) + (p-q) = 2p
  have i5 : ad (ad p q) (ad p (ne q)) = ad p p := by rw [h.swap mp mq mp mnq, h.back q mq, h.add_zero mpp]
  have huv : ad p q ≠ ad p (ne q) := fun e => zqq (by
    have g := h.cancel mp mq mnq e
    have := h.back q mq
    rwa [← g] at this)
  obtain ⟨l5, -, s5⟩ := h.chord _ mu _ mv zu zv (h.x_ne mu mv zu zv huv (by rw [i5]; exact zpp))
  rw [i5] at s5
  -- (p+q) - (p-q) = 2q
  have mw := h.ne_mem _ mv
  have iw : ne (ad p (ne q)) = ad (ne p) q := by
    refine (h.neg_of mv (h.ad_mem _ (h.ne_mem p mp) q mq) ?_).symm
    rw [h.swap mp mnq (h.ne_mem p mp) mq, h.back p mp, h.comm _ mnq q mq, h.back q mq, h.zadd z h.z_mem]
  have i6 : ad (ad p q) (ne (ad p (ne q))) = ad q q := by rw [iw, h.swap mp mq (h.ne_mem p mp) mq, h.back p mp, h.zadd _ mqq]
  obtain ⟨l6, -, s6⟩ := h.chord _ mu _ mw zu (h.ne_z mv zv) (by
    rw [h.nx _ mv zv]
    exact h.x_ne mu mv zu zv huv (by rw [i5]; exact zpp))
  rw [i6, h.nx _ mv zv] at s6
  obtain ⟨r1, r2, r3⟩ := step3 (yP := Y p) (yQ := Y q) hA (show 3 ∣ X p - X q by omega) (show 3 ∣ X p - X (ad p q) by omega) (show 3 ∣ X p - X (ad p (ne q)) by omega) (show 3 ∣ X p - X (ad p p) by omega) (show 3 ∣ X p - X (ad q q) by omega) e1 s1 (by rw [← e2]; omega) s2 s3 s4 s5 s6
  obtain ⟨b2, b4, b6, hA2, hB2⟩ := step4 r1 r2 r3 e3 (h.on p mp zp)
  obtain ⟨a, ha⟩ : ∃ a, a = 3 * b4 - b2 * b2 := ⟨_, rfl⟩
  obtain ⟨b, hb⟩ : ∃ b, b = 27 * b6 + 2 * (b2 * b2 * b2) - 9 * (b2 * b4) := ⟨_, rfl⟩
  rw [← ha] at hA2; rw [← hb] at hB2
  obtain ⟨c27, c⟩ := cubes b2 b4 b6 ha hb
  have eD : 4 * A * A * A + 27 * B * B = 19683 * (4 * (a * a * a) + b * b) := by rw [hA2, hB2]; grind
  have hd2 : 4 * (a * a * a) + b * b ≠ 0 := by
    intro e
    rw [e] at eD
    exact hd (by rw [eD]; rfl)
  rw [eD] at c5 c7
  have c33 := mul33 c5 c7 c27
  obtain ⟨rfl, hb9⟩ := few (a := a) (b := b) (by omega) (by omega) (by omega) (by omega) c33 hd2 c
  have hA3 : A = 945 := by omega
  subst hA3
  rcases hb9 with rfl | rfl
  · exact no945 h (by omega) h14
  · exact no945m h (by omega) h14
end
end TB
end Go.Proofs.YtjgdajeoeagggaaGreat
