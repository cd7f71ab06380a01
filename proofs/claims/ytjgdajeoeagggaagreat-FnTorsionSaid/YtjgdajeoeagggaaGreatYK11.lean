import Derived.Test.YtjgdajeoeagggaaGreatYTb
set_option linter.unusedSimpArgs false
set_option linter.unusedVariables false
namespace Go.Proofs.YtjgdajeoeagggaaGreat
open Go.RowKit
/-! ### what two torsion points generate is a small group of integral points -/
namespace EC
theorem ker_of {A B X Y E : Int} {u : Rat} (hE2 : 1 < E) (g : Int.gcd X E = 1) (h : OnC A B X Y E) (hu : (E : Rat) * u = 1) : Ker E (some ((X : Rat) * (u * u), (Y : Rat) * (u * u * u))) := by
  have gY := gcd_y h g
  have hY : Y ≠ 0 := by
    rintro rfl
    rw [Int.gcd_zero_left] at gY
    omega
  have hYr : (Y : Rat) ≠ 0 := fun h0 => hY (Rat.intCast_eq_zero_iff.1 h0)
  have z1 : ((X : Rat) * E / Y) * ((Y : Rat) * (u * u * u)) = (X : Rat) * (u * u) := by
    generalize (X : Rat) = x at *; generalize (Y : Rat) = y at *; generalize (E : Rat) = e at *; grind
  have w1 : ((E : Rat) * E * E / Y) * ((Y : Rat) * (u * u * u)) = 1 := by
    generalize (Y : Rat) = y at *; generalize (E : Rat) = e at *; grind
  refine ⟨_, _, z1, w1, ⟨X, Y, gY, ?_⟩, ⟨1, Y, gY, ?_⟩⟩
  · rw [Int.pow_one, Rat.intCast_mul]; generalize (X : Rat) = x at *; generalize (Y : Rat) = y at *; generalize (E : Rat) = e at *; grind
  · rw [show E ^ 3 * 1 = E * E * E by simp [Int.pow_succ], Rat.intCast_mul, Rat.intCast_mul]; generalize (Y : Rat) = y at *; generalize (E : Rat) = e at *; grind
theorem ker_int {E X Y : Int} (hE : 1 < E) (hk : Ker E (some ((X : Rat), (Y : Rat)))) : False := by
  obtain ⟨z, w, -, h2, -, n, d, gd, hd⟩ := hk
  have h3 : ((d : Int) : Rat) = ((E ^ 3 * n * Y : Int) : Rat) := by
    rw [Rat.intCast_mul (E ^ 3 * n), ← hd]
    generalize (d : Rat) = dd at *; generalize (Y : Rat) = y at *
    grind
  have h4 := Rat.intCast_inj.1 h3
  have h5 : E ∣ d := ⟨E * E * n * Y, by rw [h4]; simp [Int.pow_succ, Int.mul_assoc]⟩
  have h6 : (E.natAbs) ∣ Int.gcd d E := Int.dvd_gcd (by simpa using Int.natAbs_dvd.2 h5) (by simpa using Int.natAbs_dvd.2 (Int.dvd_refl E)) |> fun h => by exact_mod_cast h
  rw [gd] at h6
  have := Nat.le_of_dvd (by omega) h6
  omega
end EC
/-- Integral, if a product of two small numbers brings it to zero. -/
theorem whole2 {A B : Int} (hC : isC A B = true) {q : Option (Rat × Rat)} (hq : EC.OnO (A : Rat) B q) {m n : Nat} (m1 : 1 ≤ m) (m2 : m ≤ 12) (n1 : 1 ≤ n) (n2 : n ≤ 12) (h : EC.nmul (A : Rat) (m * n) q = none) : q = none ∨ ∃ X Y : Int, q = some ((X : Rat), (Y : Rat)) := by
  have ns := EC.disc_ne (disc_ne0 hC)
  have small : ∀ (s : Option (Rat × Rat)), EC.OnO (A : Rat) B s → ∀ k : Nat, 1 ≤ k → k ≤ 12 → EC.nmul (A : Rat) k s = none → s = none ∨ ∃ X Y : Int, s = some ((X : Rat), (Y : Rat)) := by
    intro s hs k k1 k2 hk
    rcases s with _ | ⟨x, y⟩
    · exact .inl rfl
    · right
      have hon : EC.On (A : Rat) B x y := hs
      obtain ⟨e, he, hd⟩ := rat_den_sq hon
      obtain ⟨u1, u2⟩ := EC.under_of hd
      obtain ⟨Y, g1, g2⟩ := EC.whole_y hon hd
      have hT := EC.toQ_fin (X := x.num) (Y := Y) (E := e) (by omega) u1 g1
      have hE : e = 1 := by
        refine EC.torsion_whole (A := A) (B := B) (by omega) u2 (EC.cvI_on g2) (EC.inv_ok (show e ≠ 0 by omega)) k1 k2 ?_
        rw [← hT] at hk
        unfold EC.toQ at hk
        rw [if_neg (show ¬ e = 0 by omega)] at hk
        exact hk
      subst hE
      have e1 : x = (x.num : Rat) := by have := u1; simp at this; exact this
      have e2 : y = (Y : Rat) := by have := g1; simp at this; exact this
      exact ⟨x.num, Y, by rw [← e1, ← e2]⟩
  rcases q with _ | ⟨x, y⟩
  · exact .inl rfl
  · have hon : EC.On (A : Rat) B x y := hq
    rw [EC.nmul_mul EC.two_rat ns hq] at h
    rcases small _ (EC.nmul_on EC.two_rat hq n) m m1 m2 h with g | ⟨X', Y', g⟩
    · exact small _ hq n n1 n2 g
    · right
      obtain ⟨e, he, hd⟩ := rat_den_sq hon
      obtain ⟨u1, u2⟩ := EC.under_of hd
      obtain ⟨Y, g1, g2⟩ := EC.whole_y hon hd
      have hT := EC.toQ_fin (X := x.num) (Y := Y) (E := e) (by omega) u1 g1
      by_cases hE1 : e = 1
      · subst hE1
        have e1 : x = (x.num : Rat) := by have := u1; simp at this; exact this
        have e2 : y = (Y : Rat) := by have := g1; simp at this; exact this
        exact ⟨x.num, Y, by rw [← e1, ← e2]⟩
      · exfalso
        have hk := EC.ker_of (A := A) (B := B) (show 1 < e by omega) u2 (EC.cvI_on g2) (EC.inv_ok (show e ≠ 0 by omega))
        have hT2 : some ((x.num : Rat) * ((e : Rat)⁻¹ * (e : Rat)⁻¹), (Y : Rat) * ((e : Rat)⁻¹ * (e : Rat)⁻¹ * (e : Rat)⁻¹)) = some (x, y) := by
          have := hT
          unfold EC.toQ at this
          rw [if_neg (show ¬ e = 0 by omega)] at this
          exact this
        rw [hT2] at hk
        have hk2 := (EC.ker_mul (show 1 < e by omega) hon hk n).1
        rw [g] at hk2
        exact EC.ker_int (by omega) hk2
/-! ### two torsion points generate at most thirteen -/
abbrev Q2 := Option (Rat × Rat)
def xQ : Q2 → Int
  | none => 0
  | some (x, _) => x.num
def yQ : Q2 → Int
  | none => 0
  | some (_, y) => y.num
/-- i times p and j times q. -/
def lc (A : Int) (p q : Q2) (i j : Nat) : Q2 := EC.add (A : Rat) (EC.nmul (A : Rat) i p) (EC.nmul (A : Rat) j q)
def genL (A : Int) (p q : Q2) (m n : Nat) : List Q2 := (List.range m).flatMap fun i => (List.range n).map fun j => lc A p q i j
/-- A list without repetitions. -/
def dd : List Q2 → List Q2
  | [] => []
  | a :: l => if a ∈ dd l then dd l else a :: dd l
theorem dd_mem : ∀ (l : List Q2) (x : Q2), x ∈ dd l ↔ x ∈ l
  | [], x => Iff.rfl
  | a :: l, x => by
    have ih := dd_mem l
    unfold dd
    split
    · rename_i h
      rw [ih, List.mem_cons]
      constructor
      · exact .inr
      · rintro (rfl | h2)
        · exact (ih _).1 h
        · exact h2
    · rw [List.mem_cons, List.mem_cons, ih]
theorem dd_nodup : ∀ l : List Q2, (dd l).Nodup
  | [] => List.nodup_nil
  | a :: l => by
    unfold dd
    split
    · exact dd_nodup l
    · rename_i h
      exact List.nodup_cons.2 ⟨h, dd_nodup l⟩
section
variable {A B : Int} {p q : Q2} {m n : Nat}
theorem on_lc (hp : EC.OnO (A : Rat) B p) (hq : EC.OnO (A : Rat) B q) (i j : Nat) : EC.OnO (A : Rat) B (lc A p q i j) := EC.add_on EC.two_rat (EC.nmul_on EC.two_rat hp i) (EC.nmul_on EC.two_rat hq j)
theorem swapQ (hC : isC A B = true) {a b c d : Q2} (ha : EC.OnO (A : Rat) B a) (hb : EC.OnO (A : Rat) B b) (hc : EC.OnO (A : Rat) B c) (hd : EC.OnO (A : Rat) B d) : EC.add (A : Rat) (EC.add (A : Rat) a b) (EC.add (A : Rat) c d) = EC.add (A : Rat) (EC.add (A : Rat) a c) (EC.add (A : Rat) b d) := by
  have ns := EC.disc_ne (disc_ne0 hC)
  have on := fun {x y : Q2} (hx : EC.OnO (A : Rat) B x) (hy : EC.OnO (A : Rat) B y) => EC.add_on EC.two_rat hx hy
  rw [EC.assoc EC.two_rat ns ha hb (on hc hd), ← EC.assoc EC.two_rat ns hb hc hd, EC.add_comm EC.two_rat hb hc, EC.assoc EC.two_rat ns hc hb hd, ← EC.assoc EC.two_rat ns ha hc (on hb hd)]
theorem lc_add (hC : isC A B = true) (hp : EC.OnO (A : Rat) B p) (hq : EC.OnO (A : Rat) B q) (i j k l : Nat) : EC.add (A : Rat) (lc A p q i j) (lc A p q k l) = lc A p q (i + k) (j + l) := by
  have ns := EC.disc_ne (disc_ne0 hC)
  unfold lc
  rw [swapQ hC (EC.nmul_on EC.two_rat hp i) (EC.nmul_on EC.two_rat hq j) (EC.nmul_on EC.two_rat hp k) (EC.nmul_on EC.two_rat hq l), ← EC.nmul_add EC.two_rat ns hp, ← EC.nmul_add EC.two_rat ns hq]
theorem nmul_mod (hC : isC A B = true) (hp : EC.OnO (A : Rat) B p) (hm : EC.nmul (A : Rat) m p = none) (i : Nat) : EC.nmul (A : Rat) i p = EC.nmul (A : Rat) (i % m) p := by
  have ns := EC.disc_ne (disc_ne0 hC)
  have e : i = (i / m) * m + i % m := by rw [Nat.mul_comm]; exact (Nat.div_add_mod i m).symm
  have h1 : EC.nmul (A : Rat) ((i / m) * m + i % m) p = EC.add (A : Rat) (EC.nmul (A : Rat) ((i / m) * m) p) (EC.nmul (A : Rat) (i % m) p) := EC.nmul_add EC.two_rat ns hp _ _
  rw [← e, EC.nmul_mul EC.two_rat ns hp, hm, EC.nmul_none] at h1
  exact h1
theorem lc_mod (hC : isC A B = true) (hp : EC.OnO (A : Rat) B p) (hq : EC.OnO (A : Rat) B q) (hm : EC.nmul (A : Rat) m p = none) (hn : EC.nmul (A : Rat) n q = none) (i j : Nat) : lc A p q i j = lc A p q (i % m) (j % n) := by
  unfold lc
  rw [nmul_mod hC hp hm i, nmul_mod hC hq hn j]
theorem mem_gen (hC : isC A B = true) (hp : EC.OnO (A : Rat) B p) (hq : EC.OnO (A : Rat) B q) (m1 : 1 ≤ m) (n1 : 1 ≤ n) (hm : EC.nmul (A : Rat) m p = none) (hn : EC.nmul (A : Rat) n q = none) (r : Q2) : r ∈ dd (genL A p q m n) ↔ ∃ i j, r = lc A p q i j := by
  rw [dd_mem]
  unfold genL
  constructor
  · intro h
    obtain ⟨i, -, h⟩ := List.mem_flatMap.1 h
    obtain ⟨j, -, rfl⟩ := List.mem_map.1 h
    exact ⟨i, j, rfl⟩
  · rintro ⟨i, j, rfl⟩
    refine List.mem_flatMap.2 ⟨i % m, List.mem_range.2 (Nat.mod_lt _ (by omega)), List.mem_map.2 ⟨j % n, List.mem_range.2 (Nat.mod_lt _ (by omega)), ?_⟩⟩
    exact (lc_mod hC hp hq hm hn i j).symm
theorem nmul_lc (hC : isC A B = true) (hp : EC.OnO (A : Rat) B p) (hq : EC.OnO (A : Rat) B q) (i j : Nat) : ∀ k, EC.nmul (A : Rat) k (lc A p q i j) = lc A p q (k * i) (k * j)
  | 0 => by simp [lc, EC.nmul, EC.add]
  | k + 1 => by
    show EC.add (A : Rat) (EC.nmul (A : Rat) k (lc A p q i j)) (lc A p q i j) = _
    rw [nmul_lc hC hp hq i j k, lc_add hC hp hq, Nat.succ_mul, Nat.succ_mul]
theorem lc_fin (hC : isC A B = true) (hp : EC.OnO (A : Rat) B p) (hq : EC.OnO (A : Rat) B q) (m1 : 1 ≤ m) (n1 : 1 ≤ n) (hm : EC.nmul (A : Rat) m p = none) (hn : EC.nmul (A : Rat) n q = none) (i j : Nat) : EC.nmul (A : Rat) (m * n) (lc A p q i j) = none := by
  rw [nmul_lc hC hp hq, lc_mod hC hp hq hm hn]
  have e1 : m * n * i % m = 0 := by rw [Nat.mul_assoc]; exact Nat.mul_mod_right _ _
  have e2 : m * n * j % n = 0 := by rw [Nat.mul_comm m n, Nat.mul_assoc]; exact Nat.mul_mod_right _ _
  rw [e1, e2]; rfl
theorem neg_uniq (hC : isC A B = true) {a r : Q2} (ha : EC.OnO (A : Rat) B a) (hr : EC.OnO (A : Rat) B r) (h : EC.add (A : Rat) a r = none) : a = EC.neg r := by
  have ns := EC.disc_ne (disc_ne0 hC)
  have := EC.add_back EC.two_rat ns ha hr
  rw [h] at this
  exact this.symm
theorem num_int (x : Int) : ((x : Rat)).num = x := Rat.num_intCast x
theorem gen_TG (hC : isC A B = true) (hp : EC.OnO (A : Rat) B p) (hq : EC.OnO (A : Rat) B q) (m1 : 1 ≤ m) (m2 : m ≤ 12) (n1 : 1 ≤ n) (n2 : n ≤ 12) (hm : EC.nmul (A : Rat) m p = none) (hn : EC.nmul (A : Rat) n q = none) :
    TB.TG A B none (EC.add (A : Rat)) EC.neg xQ yQ (dd (genL A p q m n)) := by
  have ns := EC.disc_ne (disc_ne0 hC)
  have mem := mem_gen hC hp hq m1 n1 hm hn
  have on : ∀ a, a ∈ dd (genL A p q m n) → EC.OnO (A : Rat) B a := by
    intro a ha
    obtain ⟨i, j, rfl⟩ := (mem a).1 ha
    exact on_lc hp hq i j
  have int : ∀ a, a ∈ dd (genL A p q m n) → a ≠ none → ∃ X Y : Int, a = some ((X : Rat), (Y : Rat)) := by
    intro a ha h0
    obtain ⟨i, j, rfl⟩ := (mem a).1 ha
    exact (whole2 hC (on_lc hp hq i j) m1 m2 n1 n2 (lc_fin hC hp hq m1 n1 hm hn i j)).resolve_left h0
  have admem : ∀ a, a ∈ dd (genL A p q m n) → ∀ b, b ∈ dd (genL A p q m n) → EC.add (A : Rat) a b ∈ dd (genL A p q m n) := by
    intro a ha b hb
    obtain ⟨i, j, rfl⟩ := (mem a).1 ha; obtain ⟨k, l, rfl⟩ := (mem b).1 hb
    exact (mem _).2 ⟨i + k, j + l, lc_add hC hp hq i j k l⟩
  have iz : ∀ {x y : Int}, (x : Rat) = (y : Rat) → x = y := fun h => Rat.intCast_inj.1 h
  refine ⟨dd_nodup _, (mem _).2 ⟨0, 0, rfl⟩, admem, ?_, fun a _ => rfl, fun a ha b hb => EC.add_comm EC.two_rat (on a ha) (on b hb), fun a ha b hb c hc => EC.assoc EC.two_rat ns (on a ha) (on b hb) (on c hc), ?_, ?_, ?_, ?_, ?_, ?_, ?_⟩
  · intro a ha
    obtain ⟨i, j, rfl⟩ := (mem a).1 ha
    refine (mem _).2 ⟨(m * n - 1) * i, (m * n - 1) * j, ?_⟩
    have h1 := lc_fin hC hp hq m1 n1 hm hn i j
    have hpos : 1 ≤ m * n := Nat.mul_le_mul m1 n1
    obtain ⟨N, hN⟩ : ∃ N, m * n = N + 1 := ⟨m * n - 1, by omega⟩
    rw [hN] at h1 ⊢
    have h2 := neg_uniq hC (EC.nmul_on EC.two_rat (on_lc hp hq i j) N) (on_lc hp hq i j) h1
    rw [Nat.add_sub_cancel, ← nmul_lc hC hp hq, h2]
  · intro a ha
    have := EC.add_back EC.two_rat ns (p := none) (q := a) trivial (on a ha)
    exact this
  · intro a ha h0
    obtain ⟨X, Y, rfl⟩ := int a ha h0
    have h : EC.On (A : Rat) B (X : Rat) (Y : Rat) := on _ ha
    unfold EC.On at h
    simp only [xQ, yQ, num_int]
    refine iz ?_
    simp only [Rat.intCast_mul, Rat.intCast_add]
    exact h
  · intro a ha h0
    obtain ⟨X, Y, rfl⟩ := int a ha h0
    rfl
  · intro a ha h0
    obtain ⟨X, Y, rfl⟩ := int a ha h0
    simp only [yQ, EC.neg]
    rw [← Rat.intCast_neg, num_int, num_int]
  · intro a ha b hb h0 h1 ex ey
    obtain ⟨X, Y, rfl⟩ := int a ha h0; obtain ⟨X', Y', rfl⟩ := int b hb h1
    simp only [xQ, yQ, num_int] at ex ey
    rw [ex, ey]
  · intro a ha b hb h0 h1 hx
    obtain ⟨X, Y, rfl⟩ := int a ha h0; obtain ⟨X', Y', rfl⟩ := int b hb h1
    simp only [xQ, yQ, num_int] at hx ⊢
    have hne : ¬ ((X' : Rat) = (X : Rat)) := fun e => hx (iz e).symm
    have hs : EC.add (A : Rat) (some ((X : Rat), (Y : Rat))) (some ((X' : Rat), (Y' : Rat))) = EC.third (((Y' : Rat) - Y) / ((X' : Rat) - X)) X Y X' := by simp only [EC.add, hne, if_false]
    have hmem := admem _ ha _ hb
    rw [hs] at hmem ⊢
    obtain ⟨l, hl⟩ : ∃ l, ((Y' : Rat) - Y) / ((X' : Rat) - X) = l := ⟨_, rfl⟩
    have hl2 : l * ((X' : Rat) - X) = (Y' : Rat) - Y := by
      rw [← hl]
      exact EC.ndiv (by intro e; exact hne (by grind))
    rw [hl] at hmem ⊢
    obtain ⟨X3, Y3, h3⟩ := int _ hmem (by simp [EC.third])
    rw [h3]
    simp only [xQ, num_int]
    unfold EC.third at h3
    have e3 : l * l - X - X' = (X3 : Rat) := by have := Option.some.inj h3; exact congrArg Prod.fst this
    obtain ⟨k, rfl, hk⟩ := EC.rat_sq_int (q := l) (N := X + X' + X3) (by simp only [Rat.intCast_add]; grind)
    refine ⟨k, iz ?_, hk⟩
    simp only [Rat.intCast_mul, Rat.intCast_sub]
    grind
  · intro a ha h0 hy
    obtain ⟨X, Y, rfl⟩ := int a ha h0
    simp only [xQ, yQ, num_int] at hy ⊢
    have hyr : (Y : Rat) ≠ 0 := fun e => hy (Rat.intCast_eq_zero_iff.1 e)
    have hne : ¬ ((Y : Rat) = -(Y : Rat)) := fun e => hyr (by grind)
    have hs : EC.add (A : Rat) (some ((X : Rat), (Y : Rat))) (some ((X : Rat), (Y : Rat))) = EC.third ((3 * (X : Rat) * X + A) / (2 * Y)) X Y X := by simp only [EC.add, hne, if_false, if_true]
    have hmem := admem _ ha _ ha
    rw [hs] at hmem ⊢
    obtain ⟨l, hl⟩ : ∃ l, (3 * (X : Rat) * X + A) / (2 * Y) = l := ⟨_, rfl⟩
    have hl2 : l * (2 * (Y : Rat)) = 3 * (X : Rat) * X + A := by
      rw [← hl]
      exact EC.ndiv (by intro e; exact hyr (by grind))
    rw [hl] at hmem ⊢
    obtain ⟨X3, Y3, h3⟩ := int _ hmem (by simp [EC.third])
    rw [h3]
    simp only [xQ, num_int]
    unfold EC.third at h3
    have e3 : l * l - X - X = (X3 : Rat) := by have := Option.some.inj h3; exact congrArg Prod.fst this
    obtain ⟨k, rfl, hk⟩ := EC.rat_sq_int (q := l) (N := 2 * X + X3) (by simp only [Rat.intCast_add, Rat.intCast_mul, Rat.intCast_ofNat]; grind)
    refine ⟨k, iz ?_, hk⟩
    simp only [Rat.intCast_mul, Rat.intCast_add, Rat.intCast_ofNat]
    grind
/-- What two torsion points generate. -/
theorem gen_le (hC : isC A B = true) (hp : EC.OnO (A : Rat) B p) (hq : EC.OnO (A : Rat) B q) (m1 : 1 ≤ m) (m2 : m ≤ 12) (n1 : 1 ≤ n) (n2 : n ≤ 12) (hm : EC.nmul (A : Rat) m p = none) (hn : EC.nmul (A : Rat) n q = none) : (dd (genL A p q m n)).length ≤ 13 := by
  obtain ⟨hA, hB⟩ := isC_rng hC
  exact TB.small (gen_TG hC hp hq m1 m2 n1 n2 hm hn) (by omega) (by omega) (by omega) (by omega) (disc_ne0 hC)
end
/-! ### sums of torsion points of small orders have small orders -/
def Tors (A B : Int) (q : Q2) : Prop := EC.OnO (A : Rat) B q ∧ ∃ n : Nat, 1 ≤ n ∧ n ≤ 12 ∧ EC.nmul (A : Rat) n q = none
theorem mul13 : ∀ m i : Fin 13, m.val ≠ 0 → i.val ≠ 0 → m.val * i.val % 13 ≠ 0 := by decide +kernel
section
variable {A B : Int} {p q r : Q2}
theorem nmul_one (A : Int) (r : Q2) : EC.nmul (A : Rat) 1 r = r := rfl
theorem nmul_canc (hC : isC A B = true) (hr : EC.OnO (A : Rat) B r) {i j : Nat} (hij : i < j) (h : EC.nmul (A : Rat) i r = EC.nmul (A : Rat) j r) : EC.nmul (A : Rat) (j - i) r = none := by
  have ns := EC.disc_ne (disc_ne0 hC)
  obtain ⟨d, rfl⟩ : ∃ d, j = d + i := ⟨j - i, by omega⟩
  rw [Nat.add_sub_cancel]
  rw [EC.nmul_add EC.two_rat ns hr] at h
  have h1 := EC.add_back EC.two_rat ns (EC.nmul_on EC.two_rat hr d) (EC.nmul_on EC.two_rat hr i)
  rw [← h] at h1
  have h2 := EC.add_back EC.two_rat ns (p := none) (q := EC.nmul (A : Rat) i r) trivial (EC.nmul_on EC.two_rat hr i)
  rw [← h1]; exact h2
/-- A point of a set of thirteen closed under sums. -/
theorem small_ord (hC : isC A B = true) (hr : EC.OnO (A : Rat) B r) {H : List Q2} (hH : H.Nodup) (h13 : H.length ≤ 13) (hm : ∀ k, EC.nmul (A : Rat) k r ∈ H) : ∃ k : Nat, 1 ≤ k ∧ k ≤ 13 ∧ EC.nmul (A : Rat) k r = none := by
  apply Classical.byContradiction
  intro hno
  have : (List.range 14).length ≤ H.length := TB.inj_len (f := fun k => EC.nmul (A : Rat) k r) List.nodup_range (fun i hi j hj e => by
    have hi := List.mem_range.1 hi; have hj := List.mem_range.1 hj
    rcases Nat.lt_trichotomy i j with g | g | g
    · exact absurd ⟨j - i, by omega, by omega, nmul_canc hC hr g e⟩ hno
    · exact g
    · exact absurd ⟨i - j, by omega, by omega, nmul_canc hC hr g e.symm⟩ hno) (fun k _ => hm k)
  rw [List.length_range] at this
  omega
/-- Thirteen apart, and no more in all: everything is a multiple. -/
theorem is_mult (hC : isC A B = true) (hr : EC.OnO (A : Rat) B r) {H : List Q2} (hH : H.Nodup) (h13 : H.length ≤ 13) (hm : ∀ k, EC.nmul (A : Rat) k r ∈ H) (hno : ∀ k : Nat, 1 ≤ k → k ≤ 12 → EC.nmul (A : Rat) k r ≠ none) (hp : p ∈ H) : ∃ i, i ≤ 12 ∧ p = EC.nmul (A : Rat) i r := by
  apply Classical.byContradiction
  intro hn
  have : (List.range 14).length ≤ H.length := TB.inj_len (f := fun k => if k = 13 then p else EC.nmul (A : Rat) k r) List.nodup_range (fun i hi j hj e => by
    have hi := List.mem_range.1 hi; have hj := List.mem_range.1 hj
    (try simp only at e)
    by_cases g1 : i = 13
    · by_cases g2 : j = 13
      · omega
      · rw [if_pos g1, if_neg g2] at e
        exact absurd ⟨j, by omega, e⟩ hn
    · by_cases g2 : j = 13
      · rw [if_neg g1, if_pos g2] at e
        exact absurd ⟨i, by omega, e.symm⟩ hn
      · rw [if_neg g1, if_neg g2] at e
        rcases Nat.lt_trichotomy i j with g | g | g
        · exact absurd (nmul_canc hC hr g e) (hno _ (by omega) (by omega))
        · exact g
        · exact absurd (nmul_canc hC hr g e.symm) (hno _ (by omega) (by omega))) (fun k _ => by
    (try simp only)
    split
    · exact hp
    · exact hm k)
  rw [List.length_range] at this
  omega
theorem tors_add (hC : isC A B = true) (hp : Tors A B p) (hq : Tors A B q) : Tors A B (EC.add (A : Rat) p q) := by
  obtain ⟨op, m, m1, m2, hm⟩ := hp; obtain ⟨oq, n, n1, n2, hn⟩ := hq
  have or := EC.add_on EC.two_rat op oq
  refine ⟨or, ?_⟩
  have h13 := gen_le hC op oq m1 m2 n1 n2 hm hn
  have mem := mem_gen hC op oq m1 n1 hm hn
  have er : EC.add (A : Rat) p q = lc A p q 1 1 := rfl
  have hmul : ∀ k, EC.nmul (A : Rat) k (EC.add (A : Rat) p q) ∈ dd (genL A p q m n) := fun k => (mem _).2 ⟨k * 1, k * 1, by rw [er, nmul_lc hC op oq]⟩
  apply Classical.byContradiction
  intro hno
  have hno2 : ∀ k : Nat, 1 ≤ k → k ≤ 12 → EC.nmul (A : Rat) k (EC.add (A : Rat) p q) ≠ none := fun k k1 k2 e => hno ⟨k, k1, k2, e⟩
  obtain ⟨k, k1, k2, k3⟩ := small_ord hC or (dd_nodup _) h13 hmul
  have hk : k = 13 := by
    rcases Nat.lt_or_ge k 13 with g | g
    · exact absurd k3 (hno2 k k1 (by omega))
    · omega
  subst hk
  have ns := EC.disc_ne (disc_ne0 hC)
  have zero : ∀ s : Q2, EC.OnO (A : Rat) B s → s ∈ dd (genL A p q m n) → ∀ a : Nat, 1 ≤ a → a ≤ 12 → EC.nmul (A : Rat) a s = none → s = none := by
    intro s hs ms a a1 a2 ha
    obtain ⟨i, i2, rfl⟩ := is_mult hC or (dd_nodup _) h13 hmul hno2 ms
    by_cases h0 : i = 0
    · subst h0; rfl
    · exfalso
      rw [← EC.nmul_mul EC.two_rat ns or, nmul_mod hC or k3] at ha
      have h1 := mul13 ⟨a, by omega⟩ ⟨i, by omega⟩ (by simp; omega) (by simp; omega)
      simp only at h1
      exact hno2 _ (by omega) (by omega) ha
  have zp := zero p op ((mem _).2 ⟨1, 0, by
    show p = EC.add (A : Rat) p none
    rcases p with _ | ⟨x, y⟩ <;> rfl⟩) m m1 m2 hm
  have zq := zero q oq ((mem _).2 ⟨0, 1, rfl⟩) n n1 n2 hn
  refine hno2 1 (by omega) (by omega) ?_
  rw [nmul_one, zp, zq]
  rfl
end
/-! ### not two independent points of order three -/
namespace TB
def psi (A B x : Int) : Int := 3 * (x * x * x * x) + 6 * A * (x * x) + 12 * B * x - A * A
theorem four_flex {A B a b c d : Int} (ha : psi A B a = 0) (hb : psi A B b = 0) (hc : psi A B c = 0) (hd : psi A B d = 0) (a0 : 0 ≤ a) (b0 : 0 ≤ b) (c0 : 0 ≤ c) (d0 : 0 ≤ d)
    (ab : a ≠ b) (ac : a ≠ c) (ad : a ≠ d) (bc : b ≠ c) (bd : b ≠ d) (cd : c ≠ d) : False := by
  unfold psi at *
  have q : ∀ {u v : Int}, 3*(u*u*u*u) + 6*A*(u*u) + 12*B*u - A*A = 0 → 3*(v*v*v*v) + 6*A*(v*v) + 12*B*v - A*A = 0 → u ≠ v → 3*(u*u*u + u*u*v + u*v*v + v*v*v) + 6*A*(u+v) + 12*B = 0 := by
    intro u v hu hv huv
    have h : (u - v) * (3*(u*u*u + u*u*v + u*v*v + v*v*v) + 6*A*(u+v) + 12*B) = 0 := by grind
    rcases Int.mul_eq_zero.1 h with g | g
    · omega
    · exact g
  have s : ∀ {u v : Int}, u ≠ v → 3*(a*a*a + a*a*u + a*u*u + u*u*u) + 6*A*(a+u) + 12*B = 0 → 3*(a*a*a + a*a*v + a*v*v + v*v*v) + 6*A*(a+v) + 12*B = 0 → 3*(a*a + a*u + a*v + u*u + u*v + v*v) + 6*A = 0 := by
    intro u v huv h1 h2
    have h : (u - v) * (3*(a*a + a*u + a*v + u*u + u*v + v*v) + 6*A) = 0 := by grind
    rcases Int.mul_eq_zero.1 h with g | g
    · omega
    · exact g
  have h1 := s bc (q ha hb ab) (q ha hc ac)
  have h2 := s bd (q ha hb ab) (q ha hd ad)
  have h : (c - d) * (a + b + c + d) = 0 := by grind
  rcases Int.mul_eq_zero.1 h with g | g
  · omega
  · omega
section
variable {G : Type} {A B : Int} {z : G} {ad : G → G → G} {ne : G → G} {X Y : G → Int} {H : List G}
theorem TG.flex (h : TG A B z ad ne X Y H) {p : G} (hp : p ∈ H) (zp : p ≠ z) (h3 : ad p p = ne p) : psi A B (X p) = 0 ∧ 0 ≤ X p := by
  have h2 : ad p p ≠ z := by rw [h3]; exact h.ne_z hp zp
  obtain ⟨l, e1, e2⟩ := h.tang p hp zp (h.y_ne hp zp h2)
  rw [h3, h.nx p hp zp] at e2
  have ho := h.on p hp zp
  constructor
  · unfold psi
    have e3 : (2 * Y p * l) * (2 * Y p * l) = 4 * (Y p * Y p) * (l * l) := by grind
    rw [e1, e2, ho] at e3
    grind
  · have : 0 ≤ l * l := by rw [← Int.natAbs_mul_self' l]; exact Int.mul_nonneg (by omega) (by omega)
    omega
/-- Two points of order three: one is the other or its opposite. -/
theorem TG.no33 (h : TG A B z ad ne X Y H) {p q : G} (hp : p ∈ H) (hq : q ∈ H) (zp : p ≠ z) (zq : q ≠ z) (p3 : ad p p = ne p) (q3 : ad q q = ne q) (h1 : p ≠ q) (h2 : p ≠ ne q) : False := by
  have mp := h.ne_mem p hp; have mq := h.ne_mem q hq
  have mu := h.ad_mem p hp q hq; have mv := h.ad_mem p hp _ mq
  have addneg : ∀ a, a ∈ H → ∀ b, b ∈ H → ne (ad a b) = ad (ne a) (ne b) := by
    intro a ha b hb
    refine (h.neg_of (h.ad_mem a ha b hb) (h.ad_mem _ (h.ne_mem a ha) _ (h.ne_mem b hb)) ?_).symm
    rw [h.assoc a ha b hb _ (h.ad_mem _ (h.ne_mem a ha) _ (h.ne_mem b hb)), h.comm _ (h.ne_mem a ha) _ (h.ne_mem b hb), ← h.assoc b hb _ (h.ne_mem b hb) _ (h.ne_mem a ha), h.back b hb, h.zadd _ (h.ne_mem a ha), h.back a ha]
  have sw : ∀ a, a ∈ H → ∀ b, b ∈ H → ad (ad a b) (ad a b) = ad (ad a a) (ad b b) := by
    intro a ha b hb
    have mb := h.ad_mem a ha b hb
    rw [h.assoc a ha b hb _ mb, ← h.assoc b hb a ha b hb, h.comm b hb a ha, h.assoc a ha b hb b hb, ← h.assoc a ha a ha _ (h.ad_mem b hb b hb)]
  have zu : ad p q ≠ z := fun e => h2 (by have := h.neg_of hp hq e; rw [this, h.ne_ne hp])
  have zv : ad p (ne q) ≠ z := fun e => h1 (by have := h.neg_of hp mq e; rw [← h.ne_ne hp, ← this, h.ne_ne hq])
  have nq3 : ad (ne q) (ne q) = ne (ne q) := by rw [← addneg q hq q hq, q3]
  have u3 : ad (ad p q) (ad p q) = ne (ad p q) := by rw [sw p hp q hq, p3, q3, addneg p hp q hq]
  have v3 : ad (ad p (ne q)) (ad p (ne q)) = ne (ad p (ne q)) := by rw [sw p hp _ mq, p3, nq3, addneg p hp _ mq]
  have fp := h.flex hp zp p3; have fq := h.flex hq zq q3; have fu := h.flex mu zu u3; have fv := h.flex mv zv v3
  have xne : ∀ a, a ∈ H → ∀ b, b ∈ H → a ≠ z → b ≠ z → a ≠ b → a ≠ ne b → X a ≠ X b := fun a ha b hb za zb g1 g2 e => (h.x_same ha hb za zb e).elim g1 g2
  -- what would make them alike
  have c1 : p ≠ ad p q := fun e => zq (h.cancel hp hq h.z_mem (by rw [← e, h.add_zero hp]))
  have c2 : p ≠ ne (ad p q) := by
    intro e
    have e2 : ad p q = ne p := by
      have := congrArg ne e
      rw [h.ne_ne mu] at this
      exact this.symm
    exact h1 (h.cancel hp hq hp (by rw [e2, p3])).symm
  have c3 : p ≠ ad p (ne q) := fun e => h.ne_z hq zq (h.cancel hp mq h.z_mem (by rw [← e, h.add_zero hp]))
  have c4 : p ≠ ne (ad p (ne q)) := by
    intro e
    have e2 : ad p (ne q) = ne p := by
      have := congrArg ne e
      rw [h.ne_ne mv] at this
      exact this.symm
    have e3 := h.cancel hp mq hp (by rw [e2, p3])
    exact h2 e3.symm
  have c5 : q ≠ ad p q := fun e => zp (h.cancel hq hp h.z_mem (by rw [h.comm q hq p hp, ← e, h.add_zero hq]))
  have c6 : q ≠ ne (ad p q) := by
    intro e
    have e2 : ad p q = ne q := by
      have := congrArg ne e
      rw [h.ne_ne mu] at this
      exact this.symm
    exact h1 (h.cancel hq hp hq (by rw [h.comm q hq p hp, e2, q3]))
  have c7 : q ≠ ad p (ne q) := by
    intro e
    have e2 : ad (ne q) p = q := by rw [h.comm _ mq p hp, ← e]
    have e3 : ad (ne q) (ne q) = q := by rw [nq3, h.ne_ne hq]
    exact h2 (h.cancel mq hp mq (by rw [e2, e3]))
  have c8 : q ≠ ne (ad p (ne q)) := by
    intro e
    have e2 : ad p (ne q) = ne q := by
      have := congrArg ne e
      rw [h.ne_ne mv] at this
      exact this.symm
    exact zp (h.cancel mq hp h.z_mem (by rw [h.comm _ mq p hp, e2, h.add_zero mq]))
  have c9 : ad p q ≠ ad p (ne q) := by
    intro e
    have e2 := h.cancel hp hq mq e
    exact h.ne_z hq zq (by rw [← q3]; have := h.back q hq; rwa [← e2] at this)
  have c10 : ad p q ≠ ne (ad p (ne q)) := by
    intro e
    rw [addneg p hp _ mq, h.ne_ne hq] at e
    have e2 := h.cancel hq hp mp (by rw [h.comm q hq p hp, e, h.comm _ mp q hq])
    exact h.ne_z hp zp (by rw [← p3]; have := h.back p hp; rwa [← e2] at this)
  exact four_flex fp.1 fq.1 fu.1 fv.1 fp.2 fq.2 fu.2 fv.2 (xne p hp q hq zp zq h1 h2) (xne p hp _ mu zp zu c1 c2) (xne p hp _ mv zp zv c3 c4) (xne q hq _ mu zq zu c5 c6) (xne q hq _ mv zq zv c7 c8) (xne _ mu _ mv zu zv c9 c10)
end
end TB
/-! ### multiples in a small group; cosets -/
namespace TB
section
variable {G : Type} {A B : Int} {z : G} {ad : G → G → G} {ne : G → G} {X Y : G → Int} {H : List G}
/-- k times g. -/
def nm (z : G) (ad : G → G → G) : Nat → G → G
  | 0, _ => z
  | k + 1, g => ad (nm z ad k g) g
theorem TG.nm_mem (h : TG A B z ad ne X Y H) {g : G} (hg : g ∈ H) : ∀ k, nm z ad k g ∈ H
  | 0 => h.z_mem
  | k + 1 => h.ad_mem _ (h.nm_mem hg k) g hg
theorem TG.nm_add (h : TG A B z ad ne X Y H) {g : G} (hg : g ∈ H) (j : Nat) : ∀ k, nm z ad (j + k) g = ad (nm z ad j g) (nm z ad k g)
  | 0 => (h.add_zero (h.nm_mem hg j)).symm
  | k + 1 => by
    show ad (nm z ad (j + k) g) g = ad (nm z ad j g) (ad (nm z ad k g) g)
    rw [h.nm_add hg j k, h.assoc _ (h.nm_mem hg j) _ (h.nm_mem hg k) g hg]
theorem TG.nm_z (h : TG A B z ad ne X Y H) : ∀ k, nm z ad k z = z
  | 0 => rfl
  | k + 1 => by
    show ad (nm z ad k z) z = z
    rw [h.nm_z k, h.zadd z h.z_mem]
theorem TG.nm_mul (h : TG A B z ad ne X Y H) {g : G} (hg : g ∈ H) (k : Nat) : ∀ j, nm z ad (j * k) g = nm z ad j (nm z ad k g)
  | 0 => by rw [Nat.zero_mul]; rfl
  | j + 1 => by
    rw [Nat.succ_mul, h.nm_add hg, h.nm_mul hg k j]; rfl
theorem TG.swap4 (h : TG A B z ad ne X Y H) {a b c d : G} (ha : a ∈ H) (hb : b ∈ H) (hc : c ∈ H) (hd : d ∈ H) : ad (ad a b) (ad c d) = ad (ad a c) (ad b d) := by
  rw [h.assoc a ha b hb _ (h.ad_mem c hc d hd), ← h.assoc b hb c hc d hd, h.comm b hb c hc, h.assoc c hc b hb d hd, ← h.assoc a ha c hc _ (h.ad_mem b hb d hd)]
theorem TG.nm_dist (h : TG A B z ad ne X Y H) {a b : G} (ha : a ∈ H) (hb : b ∈ H) : ∀ k, nm z ad k (ad a b) = ad (nm z ad k a) (nm z ad k b)
  | 0 => (h.zadd z h.z_mem).symm
  | k + 1 => by
    show ad (nm z ad k (ad a b)) (ad a b) = ad (ad (nm z ad k a) a) (ad (nm z ad k b) b)
    rw [h.nm_dist ha hb k, h.swap4 (h.nm_mem ha k) (h.nm_mem hb k) ha hb]
theorem TG.nm_ne (h : TG A B z ad ne X Y H) {a : G} (ha : a ∈ H) (k : Nat) : nm z ad k (ne a) = ne (nm z ad k a) := by
  refine h.neg_of (h.nm_mem ha k) (h.nm_mem (h.ne_mem a ha) k) ?_
  rw [← h.nm_dist ha (h.ne_mem a ha), h.back a ha, h.nm_z]
theorem TG.nm_sub (h : TG A B z ad ne X Y H) {g : G} (hg : g ∈ H) {i j : Nat} (hij : i ≤ j) (e : nm z ad i g = nm z ad j g) : nm z ad (j - i) g = z := by
  obtain ⟨d, rfl⟩ : ∃ d, j = i + d := ⟨j - i, by omega⟩
  rw [Nat.add_sub_cancel_left]
  rw [h.nm_add hg] at e
  exact h.cancel (h.nm_mem hg i) (h.nm_mem hg d) h.z_mem (by rw [← e, h.add_zero (h.nm_mem hg i)])
/-- A finite order, no greater than the group. -/
theorem TG.ord_le (h : TG A B z ad ne X Y H) {g : G} (hg : g ∈ H) : ∃ k, 1 ≤ k ∧ k ≤ H.length ∧ nm z ad k g = z := by
  apply Classical.byContradiction
  intro hno
  have : (List.range (H.length + 1)).length ≤ H.length := inj_len (f := fun k => nm z ad k g) List.nodup_range (fun i hi j hj e => by
    have hi := List.mem_range.1 hi; have hj := List.mem_range.1 hj
    rcases Nat.lt_trichotomy i j with q | q | q
    · exact absurd ⟨j - i, by omega, by omega, h.nm_sub hg (by omega) e⟩ hno
    · exact q
    · exact absurd ⟨i - j, by omega, by omega, h.nm_sub hg (by omega) e.symm⟩ hno) (fun k _ => h.nm_mem hg k)
  rw [List.length_range] at this
  omega
/-- The order of g is n. -/
structure Ord (z : G) (ad : G → G → G) (g : G) (n : Nat) : Prop where
  pos : 1 ≤ n
  fin : nm z ad n g = z
  least : ∀ k, 1 ≤ k → k < n → nm z ad k g ≠ z
theorem least_of {P : Nat → Prop} : ∀ (n : Nat), 1 ≤ n → P n → ∃ k, 1 ≤ k ∧ k ≤ n ∧ P k ∧ ∀ j, 1 ≤ j → j < k → ¬ P j := by
  intro n
  induction n using Nat.strongRecOn with
  | ind n ih =>
    intro h1 h2
    by_cases h : ∃ j, 1 ≤ j ∧ j < n ∧ P j
    · obtain ⟨j, j1, j2, j3⟩ := h
      obtain ⟨k, k1, k2, k3, k4⟩ := ih j j2 j1 j3
      exact ⟨k, k1, by omega, k3, k4⟩
    · exact ⟨n, h1, Nat.le_refl _, h2, fun j j1 j2 j3 => h ⟨j, j1, j2, j3⟩⟩
theorem TG.ord_ex (h : TG A B z ad ne X Y H) {g : G} (hg : g ∈ H) : ∃ n, n ≤ H.length ∧ Ord z ad g n := by
  obtain ⟨k, k1, k2, k3⟩ := h.ord_le hg
  obtain ⟨n, n1, n2, n3, n4⟩ := least_of (P := fun k => nm z ad k g = z) k k1 k3
  exact ⟨n, by omega, n1, n3, n4⟩
theorem Ord.dvd (h : TG A B z ad ne X Y H) {g : G} (hg : g ∈ H) {n : Nat} (o : Ord z ad g n) {k : Nat} (e : nm z ad k g = z) : n ∣ k := by
  have e1 : nm z ad ((k / n) * n + k % n) g = z := by rw [Nat.mul_comm, Nat.div_add_mod]; exact e
  rw [h.nm_add hg, h.nm_mul hg, o.fin, h.nm_z, h.zadd _ (h.nm_mem hg _)] at e1
  apply Nat.dvd_of_mod_eq_zero
  apply Classical.byContradiction
  intro g0
  exact o.least _ (by omega) (Nat.mod_lt _ o.pos) e1
theorem Ord.mult (h : TG A B z ad ne X Y H) {g : G} (hg : g ∈ H) {n d : Nat} (o : Ord z ad g (d * n)) (d1 : 1 ≤ d) : Ord z ad (nm z ad d g) n := by
  have hp := o.pos
  have n1 : 1 ≤ n := by
    rcases Nat.eq_zero_or_pos n with rfl | q
    · simp at hp
    · exact q
  refine ⟨n1, by rw [← h.nm_mul hg, Nat.mul_comm]; exact o.fin, fun k k1 k2 e => ?_⟩
  rw [← h.nm_mul hg] at e
  exact o.least (k * d) (Nat.mul_le_mul k1 d1) (by rw [Nat.mul_comm]; exact Nat.mul_lt_mul_of_pos_left k2 d1) e
/-- Coprime orders multiply. -/
theorem Ord.cop (h : TG A B z ad ne X Y H) {a b : G} (ha : a ∈ H) (hb : b ∈ H) {m n : Nat} (oa : Ord z ad a m) (ob : Ord z ad b n) (hc : Nat.Coprime m n) : Ord z ad (ad a b) (m * n) := by
  refine ⟨Nat.mul_le_mul oa.pos ob.pos, ?_, fun k k1 k2 e => ?_⟩
  · rw [h.nm_dist ha hb, h.nm_mul hb, ob.fin, h.nm_z, Nat.mul_comm, h.nm_mul ha, oa.fin, h.nm_z, h.zadd z h.z_mem]
  · rw [h.nm_dist ha hb] at e
    have e1 : nm z ad (n * k) a = z := by
      have : nm z ad n (ad (nm z ad k a) (nm z ad k b)) = z := by rw [e, h.nm_z]
      rw [h.nm_dist (h.nm_mem ha k) (h.nm_mem hb k), ← h.nm_mul ha, ← h.nm_mul hb, Nat.mul_comm n k, h.nm_mul hb, ob.fin, h.nm_z, h.add_zero (h.nm_mem ha _)] at this
      rw [Nat.mul_comm]; exact this
    have e2 : nm z ad (m * k) b = z := by
      have : nm z ad m (ad (nm z ad k a) (nm z ad k b)) = z := by rw [e, h.nm_z]
      rw [h.nm_dist (h.nm_mem ha k) (h.nm_mem hb k), ← h.nm_mul ha, ← h.nm_mul hb, Nat.mul_comm m k, h.nm_mul ha, oa.fin, h.nm_z, h.zadd _ (h.nm_mem hb _)] at this
      rw [Nat.mul_comm]; exact this
    have d1 := hc.dvd_of_dvd_mul_left (oa.dvd h ha e1)
    have d2 := hc.symm.dvd_of_dvd_mul_left (ob.dvd h hb e2)
    have := Nat.le_of_dvd (by omega) (hc.mul_dvd_of_dvd_of_dvd d1 d2)
    omega
end
end TB
/-! ### the structure of a small group -/
namespace TB
def copOk (a b : Nat) : Bool := (List.range 14).any fun d => (List.range 14).any fun f => decide (1 ≤ d) && decide (1 ≤ f) && (a % d == 0) && (b % f == 0) && (Nat.gcd (a / d) (b / f) == 1) && decide (a < (a / d) * (b / f))
theorem cop_all : ((List.range 14).all fun a => (List.range 14).all fun b => !(decide (1 ≤ b) && decide (b ≤ a) && !(a % b == 0)) || copOk a b) = true := by decide +kernel
theorem cop_ex {a b : Nat} (h1 : 1 ≤ b) (h2 : b ≤ a) (h3 : a ≤ 13) (h4 : ¬ b ∣ a) : ∃ d f a' b', 1 ≤ d ∧ 1 ≤ f ∧ a = d * a' ∧ b = f * b' ∧ Nat.Coprime a' b' ∧ a < a' * b' := by
  have h := cop_all
  rw [List.all_eq_true] at h
  have h := h a (List.mem_range.2 (by omega))
  rw [List.all_eq_true] at h
  have h := h b (List.mem_range.2 (by omega))
  have h5 : ¬ a % b = 0 := fun e => h4 (Nat.dvd_of_mod_eq_zero e)
  simp only [h1, h2, h5, decide_true, Bool.and_true, Bool.true_and, beq_iff_eq, Bool.not_eq_true', Bool.or_eq_true, Bool.not_true, Bool.false_eq_true, false_or, beq_eq_false_iff_ne, ne_eq, not_false_eq_true, Bool.not_false, Bool.not_eq_false', beq_false] at h
  have h : copOk a b = true := by first | exact h | simpa [h5] using h
  unfold copOk at h
  rw [List.any_eq_true] at h
  obtain ⟨d, -, h⟩ := h
  rw [List.any_eq_true] at h
  obtain ⟨f, -, h⟩ := h
  simp only [Bool.and_eq_true, decide_eq_true_eq, beq_iff_eq] at h
  obtain ⟨⟨⟨⟨⟨d1, f1⟩, ha⟩, hb⟩, hg⟩, hl⟩ := h
  exact ⟨d, f, a / d, b / f, d1, f1, (Nat.mul_div_cancel' (Nat.dvd_of_mod_eq_zero ha)).symm, (Nat.mul_div_cancel' (Nat.dvd_of_mod_eq_zero hb)).symm, hg, hl⟩
section
variable {G : Type} {A B : Int} {z : G} {ad : G → G → G} {ne : G → G} {X Y : G → Int} {H : List G}
/-- Every order divides the greatest one. -/
theorem max_dvd (h : TG A B z ad ne X Y H) (h13 : H.length ≤ 13) {g0 : G} (m0 : g0 ∈ H) {n0 : Nat} (o0 : Ord z ad g0 n0) (hmax : ∀ g, g ∈ H → ∀ n, Ord z ad g n → n ≤ n0) {g : G} (mg : g ∈ H) {n : Nat} (o : Ord z ad g n) : n ∣ n0 := by
  apply Classical.byContradiction
  intro hn
  have hle := hmax g mg n o
  have h0 : n0 ≤ 13 := by
    obtain ⟨k, k1, k2⟩ := h.ord_ex m0
    have := Nat.le_of_dvd k2.pos (o0.dvd h m0 k2.fin)
    omega
  obtain ⟨d, f, a', b', d1, f1, e1, e2, hc, hl⟩ := cop_ex o.pos hle h0 hn
  have oa := Ord.mult (d := d) (n := a') h m0 (e1 ▸ o0) d1
  have ob := Ord.mult (d := f) (n := b') h mg (e2 ▸ o) f1
  have := hmax _ (h.ad_mem _ (h.nm_mem m0 d) _ (h.nm_mem mg f)) _ (Ord.cop h (h.nm_mem m0 d) (h.nm_mem mg f) oa ob hc)
  omega
def cyc (z : G) (ad : G → G → G) (g : G) (n : Nat) : List G := (List.range n).map fun k => nm z ad k g
theorem cyc_mem (h : TG A B z ad ne X Y H) {g : G} (hg : g ∈ H) {n : Nat} (o : Ord z ad g n) (k : Nat) : nm z ad k g ∈ cyc z ad g n := by
  refine List.mem_map.2 ⟨k % n, List.mem_range.2 (Nat.mod_lt _ o.pos), ?_⟩
  have e1 : nm z ad ((k / n) * n + k % n) g = nm z ad k g := by rw [Nat.mul_comm, Nat.div_add_mod]
  rw [h.nm_add hg, h.nm_mul hg, o.fin, h.nm_z, h.zadd _ (h.nm_mem hg _)] at e1
  exact e1
theorem cyc_iff (h : TG A B z ad ne X Y H) {g : G} (hg : g ∈ H) {n : Nat} (o : Ord z ad g n) (x : G) : x ∈ cyc z ad g n ↔ ∃ k, x = nm z ad k g := by
  constructor
  · intro hx
    obtain ⟨k, -, rfl⟩ := List.mem_map.1 hx
    exact ⟨k, rfl⟩
  · rintro ⟨k, rfl⟩
    exact cyc_mem h hg o k
theorem cyc_nodup (h : TG A B z ad ne X Y H) {g : G} (hg : g ∈ H) {n : Nat} (o : Ord z ad g n) : (cyc z ad g n).Nodup := by
  unfold cyc List.Nodup
  rw [List.pairwise_map]
  refine List.Pairwise.imp_of_mem (fun {i j} hi hj hij e => ?_) (List.nodup_range (n := n))
  have hi := List.mem_range.1 hi; have hj := List.mem_range.1 hj
  rcases Nat.lt_trichotomy i j with q | q | q
  · exact o.least (j - i) (by omega) (by omega) (h.nm_sub hg (by omega) e)
  · exact hij q
  · exact o.least (i - j) (by omega) (by omega) (h.nm_sub hg (by omega) e.symm)
theorem cyc_sub (h : TG A B z ad ne X Y H) {g : G} (hg : g ∈ H) {n : Nat} {x : G} (hx : x ∈ cyc z ad g n) : x ∈ H := by
  obtain ⟨k, -, rfl⟩ := List.mem_map.1 hx
  exact h.nm_mem hg k
theorem cyc_len (g : G) (n : Nat) : (cyc z ad g n).length = n := by unfold cyc; simp
theorem cyc_ad (h : TG A B z ad ne X Y H) {g : G} (hg : g ∈ H) {n : Nat} (o : Ord z ad g n) {x y : G} (hx : x ∈ cyc z ad g n) (hy : y ∈ cyc z ad g n) : ad x y ∈ cyc z ad g n := by
  obtain ⟨i, rfl⟩ := (cyc_iff h hg o _).1 hx; obtain ⟨j, rfl⟩ := (cyc_iff h hg o _).1 hy
  rw [← h.nm_add hg]
  exact cyc_mem h hg o _
theorem cyc_ne (h : TG A B z ad ne X Y H) {g : G} (hg : g ∈ H) {n : Nat} (o : Ord z ad g n) {x : G} (hx : x ∈ cyc z ad g n) : ne x ∈ cyc z ad g n := by
  obtain ⟨i, rfl⟩ := (cyc_iff h hg o _).1 hx
  have e : ne (nm z ad i g) = nm z ad (i * (n - 1)) g := by
    refine (h.neg_of (h.nm_mem hg i) (h.nm_mem hg _) ?_).symm
    rw [← h.nm_add hg]
    have hp := o.pos
    obtain ⟨m, hm⟩ : ∃ m, n = m + 1 := ⟨n - 1, by omega⟩
    have : i + i * (n - 1) = i * n := by rw [hm, Nat.add_sub_cancel, Nat.mul_succ]; omega
    rw [this, h.nm_mul hg, o.fin, h.nm_z]
  rw [e]
  exact cyc_mem h hg o _
/-- Cosets whose representatives are apart: their elements are apart. -/
theorem coset_len (h : TG A B z ad ne X Y H) {g : G} (hg : g ∈ H) {n : Nat} (o : Ord z ad g n) (R : List G) (hR : ∀ r, r ∈ R → r ∈ H) (hap : R.Pairwise fun r s => ad s (ne r) ∉ cyc z ad g n) : R.length * n ≤ H.length := by
  have key : ((R.flatMap fun r => (cyc z ad g n).map fun c => ad r c)).Nodup ∧ ∀ x, x ∈ (R.flatMap fun r => (cyc z ad g n).map fun c => ad r c) → x ∈ H := by
    induction R with
    | nil => exact ⟨by simp, by simp⟩
    | cons r R ih =>
      rw [List.pairwise_cons] at hap
      obtain ⟨ih1, ih2⟩ := ih (fun s hs => hR s (List.mem_cons_of_mem _ hs)) hap.2
      have mr := hR r List.mem_cons_self
      refine ⟨?_, ?_⟩
      · rw [List.flatMap_cons]
        refine List.nodup_append.2 ⟨?_, ih1, ?_⟩
        · unfold List.Nodup
          rw [List.pairwise_map]
          exact List.Pairwise.imp_of_mem (fun {a b} ha hb hab e => hab (h.cancel mr (cyc_sub h hg ha) (cyc_sub h hg hb) e)) (cyc_nodup h hg o)
        · intro a ha b hb e
          subst e
          obtain ⟨c, hc, rfl⟩ := List.mem_map.1 ha
          obtain ⟨s, hs, hb⟩ := List.mem_flatMap.1 hb
          obtain ⟨c', hc', e⟩ := List.mem_map.1 hb
          have ms := hR s (List.mem_cons_of_mem _ hs)
          have mc := cyc_sub h hg hc; have mc' := cyc_sub h hg hc'
          refine hap.1 s hs ?_
          have e2 : ad s (ne r) = ad c (ne c') := by
            have e3 : ad (ad s (ne r)) (ad r c') = ad (ad c (ne c')) (ad r c') := by
              rw [h.swap4 ms (h.ne_mem r mr) mr mc', h.comm _ ms _ mr, h.assoc r mr s ms _ (h.ad_mem _ (h.ne_mem r mr) _ mc'), ← h.assoc s ms _ (h.ne_mem r mr) _ mc', h.comm s ms _ (h.ne_mem r mr), h.assoc _ (h.ne_mem r mr) s ms _ mc', ← h.assoc r mr _ (h.ne_mem r mr) _ (h.ad_mem s ms _ mc'), h.back r mr, h.zadd _ (h.ad_mem s ms _ mc'), e]
              rw [h.swap4 mc (h.ne_mem c' mc') mr mc', h.comm _ (h.ne_mem c' mc') _ mc', h.back c' mc', h.add_zero (h.ad_mem c mc r mr), h.comm c mc r mr]
            have m1 := h.ad_mem s ms _ (h.ne_mem r mr); have m2 := h.ad_mem c mc _ (h.ne_mem c' mc'); have m3 := h.ad_mem r mr c' mc'
            rw [h.comm _ m1 _ m3, h.comm _ m2 _ m3] at e3
            exact h.cancel m3 m1 m2 e3
          rw [e2]
          exact cyc_ad h hg o hc (cyc_ne h hg o hc')
      · intro x hx
        rw [List.flatMap_cons, List.mem_append] at hx
        rcases hx with hx | hx
        · obtain ⟨c, hc, rfl⟩ := List.mem_map.1 hx
          exact h.ad_mem r mr c (cyc_sub h hg hc)
        · exact ih2 x hx
  have h1 := key.1.length_le_of_subset (l₂ := H) (fun x hx => key.2 x hx)
  have h2 : (R.flatMap fun r => (cyc z ad g n).map fun c => ad r c).length = R.length * n := by
    clear hR hap key h1
    induction R with
    | nil => simp
    | cons r R ih => rw [List.flatMap_cons, List.length_append, ih, List.length_map, cyc_len, List.length_cons, Nat.succ_mul, Nat.add_comm]
  omega
end
end TB
end Go.Proofs.YtjgdajeoeagggaaGreat
