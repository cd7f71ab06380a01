import Derived.Test.YtjgdajeoeagggaaGreatYGoT
import Derived.Test.YtjgdajeoeagggaaGreatYK13
import Derived.Test.YtjgdajeoeagggaaGreatYPtD
set_option linter.unusedSimpArgs false
set_option linter.unusedVariables false
namespace Go.Proofs.YtjgdajeoeagggaaGreat
open Go.RowKit
/-! ### the number of told points divides the number of points modulo each good prime up to 41: told points modulo a prime -/
namespace BT
theorem res_dvd {p : Nat} (hp : 0 < p) (X : Int) : (p : Int) ∣ ((TB.res p X : Nat) : Int) - X := by rw [TB.res_cast hp]; exact emq X p
theorem res_of {p n : Nat} {X : Int} (hp : 0 < p) (hn : n < p) (h : (p : Int) ∣ (n : Int) - X) : TB.res p X = n := by
  have h1 := TB.res_lt hp X
  have h2 := res_dvd hp X
  have := eq_of_cong (a := ((TB.res p X : Nat) : Int)) (b := (n : Int)) (q := p) (c1 (l2 1 (-1) h2 h) (by omega)) (by omega) (by omega) (by omega) (by omega)
  omega
theorem md (n p : Nat) : (p : Int) ∣ ((n % p : Nat) : Int) - (n : Int) := by rw [Int.natCast_emod]; exact emq _ _
theorem fN_cast {p : Nat} (hp : 0 < p) (A B : Int) (x : Nat) : ((fN p (TB.res p A) (TB.res p B) x : Nat) : Int) = fv A B p x := by
  have ha := res_dvd hp A; have hb := res_dvd hp B
  have e : fN p (TB.res p A) (TB.res p B) x = ((x * x + TB.res p A) * x + TB.res p B) % p := rfl
  rw [e, Int.natCast_emod]
  unfold fv
  refine emod_cong (c1 (l2 (x : Int) 1 ha hb) ?_)
  simp only [Int.natCast_add, Int.natCast_mul]
  grind
theorem odd_of {p : Nat} (hq : Pr (p : Int)) (h5 : 5 ≤ p) : p % 2 = 1 := by
  have := hq.2 2 (by omega) (by omega)
  omega
theorem symb_nat {p f : Nat} (hq : Pr (p : Int)) (h5 : 5 ≤ p) (hf : f < p) : 1 + symb (f : Int) p = ((if f = 0 then 1 else if f ^ (p / 2) % p = 1 then 2 else 0 : Nat) : Int) := by
  have ho := odd_of hq h5
  have e : pw (f : Int) (((p : Int) - 1) / 2) p = ((f ^ (p / 2) % p : Nat) : Int) := by
    unfold pw
    rw [Int.natCast_emod, Int.natCast_pow]
    congr 2; omega
  unfold symb
  rw [e]
  by_cases h0 : f = 0
  · subst h0
    have : 0 ^ (p / 2) % p = 0 := by rw [Nat.zero_pow (by omega)]; simp
    rw [this]; simp
  · rw [if_neg h0]
    have h1 : f ^ (p / 2) % p ≠ 0 := by
      intro h
      have d := Nat.dvd_of_mod_eq_zero h
      have d2 : (p : Int) ∣ (f : Int) ^ (p / 2) := by rw [← Int.natCast_pow]; exact Int.natCast_dvd_natCast.2 d
      have d3 := pr_pow hq _ d2
      have := Int.le_of_dvd (by omega) d3
      omega
    rw [if_neg (by omega)]
    by_cases h2 : f ^ (p / 2) % p = 1
    · rw [h2]; simp
    · rw [if_neg (by omega), if_neg h2]; rfl
theorem nC_cnt {p : Nat} (hq : Pr (p : Int)) (h5 : 5 ≤ p) (A B : Int) : ∀ n : Nat, ((nC p (TB.res p A) (TB.res p B) n : Nat) : Int) = 1 + n + cntTo A B p n
  | 0 => by show ((1 : Nat) : Int) = _; simp [cntTo]
  | n + 1 => by
    rw [nC_succ, Int.natCast_add, nC_cnt hq h5 A B n, ← symb_nat (f := fN p (TB.res p A) (TB.res p B) n) hq h5 (Nat.mod_lt _ (by omega)), fN_cast (by omega)]
    simp only [cntTo]
    omega
theorem nC_all {p : Nat} (hq : Pr (p : Int)) (h5 : 5 ≤ p) (A B : Int) : ((nC p (TB.res p A) (TB.res p B) p : Nat) : Int) = cnt A B p := by
  rw [nC_cnt hq h5]; unfold cnt; simp; omega
theorem dbl_int {q a A x X y Y i m u v l X2 Y2 : Int} (ha : q ∣ a - A) (hx : q ∣ x - X) (hyy : q ∣ y - Y) (hi : q ∣ (y + y) * i - 1) (hm : q ∣ m - (3 * (x * x) + a) * i) (hu : q ∣ u - (m * m + 2 * (q - x))) (hv : q ∣ v - (m * (x + q - u) + (q - y)))
    (e : 2 * Y * l = 3 * X * X + A) (eX : X2 = l * l - 2 * X) (eY : Y2 = l * (X - X2) - Y) : q ∣ u - X2 ∧ q ∣ v - Y2 := by
  have k1 : q ∣ m - l := by
    refine c1 (l4 1 1 l (-(2 * l * i)) hm (l2 (i * 3 * (x + X)) i hx ha) hi hyy) ?_
    have : i * (2 * Y * l) = i * (3 * X * X + A) := by rw [e]
    grind
  have k2 : q ∣ u - X2 := c1 (l4 1 (m + l) (-2) 2 hu k1 hx (Int.dvd_refl q)) (by rw [eX]; grind)
  refine ⟨k2, c1 (l4 1 1 (-1) (m + 1) hv (l3 (x - u) l (-l) k1 hx k2) hyy (Int.dvd_refl q)) ?_⟩
  rw [eY]; grind
/-- Doubles modulo p. -/
theorem dbl_link {p : Nat} (hq : Pr (p : Int)) (h5 : 5 ≤ p) (h9 : p ≤ 997) {A X Y l X2 Y2 : Int} (hy : ¬ (p : Int) ∣ Y) (e : 2 * Y * l = 3 * X * X + A) (eX : X2 = l * l - 2 * X) (eY : Y2 = l * (X - X2) - Y) :
    TB.res p X2 = dx p (TB.res p A) (TB.res p X) (TB.res p Y) ∧ TB.res p Y2 = dy p (TB.res p A) (TB.res p X) (TB.res p Y) := by
  have p0 : 0 < p := by omega
  have ha := res_dvd p0 A; have hx := res_dvd p0 X; have hyy := res_dvd p0 Y
  have lx := TB.res_lt p0 X; have ly := TB.res_lt p0 Y
  generalize TB.res p A = a at *
  generalize TB.res p X = x at *
  generalize TB.res p Y = y at *
  have n2 : ¬ (p : Int) ∣ 2 := pr_small (by omega) (by omega) (by omega)
  have ny : ¬ (p : Int) ∣ (y : Int) + y := by
    intro k
    have k2 : (p : Int) ∣ 2 * Y := c1 (l2 1 (-2) k hyy) (by omega)
    exact (pr_mul hq k2).elim n2 hy
  have hi := inv_mod hq (by omega) (by omega) ny
  have ei : pw ((y : Int) + y) ((p : Int) - 2) p = (((y + y) ^ (p - 2) % p : Nat) : Int) := by
    unfold pw
    rw [Int.natCast_emod, Int.natCast_pow, Int.natCast_add]
    congr 2; omega
  rw [ei] at hi
  have hm := md ((3 * (x * x) + a) * ((y + y) ^ (p - 2) % p)) p
  have em : dm p a x y = ((3 * (x * x) + a) * ((y + y) ^ (p - 2) % p)) % p := rfl
  rw [← em] at hm
  generalize (y + y) ^ (p - 2) % p = i at *
  have hu := md (dm p a x y * dm p a x y + 2 * (p - x)) p
  have eu : dx p a x y = (dm p a x y * dm p a x y + 2 * (p - x)) % p := rfl
  have lu : dx p a x y < p := Nat.mod_lt _ p0
  rw [← eu] at hu
  have hv := md (dm p a x y * (x + p - dx p a x y) + (p - y)) p
  have ev : dy p a x y = (dm p a x y * (x + p - dx p a x y) + (p - y)) % p := rfl
  have lv : dy p a x y < p := Nat.mod_lt _ p0
  rw [← ev] at hv
  clear em eu ev ei ny n2
  generalize dm p a x y = m at *
  generalize dx p a x y = u at *
  generalize dy p a x y = v at *
  have c1e : ((p - x : Nat) : Int) = (p : Int) - x := by omega
  have c2e : ((p - y : Nat) : Int) = (p : Int) - y := by omega
  have c3e : ((x + p - u : Nat) : Int) = (x : Int) + p - u := by omega
  simp only [Int.natCast_add, Int.natCast_mul, c1e, c2e, c3e, show ((2 : Nat) : Int) = 2 from rfl, show ((3 : Nat) : Int) = 3 from rfl] at hm hu hv
  clear c1e c2e c3e
  obtain ⟨k1, k2⟩ := dbl_int ha hx hyy hi hm hu hv e eX eY
  exact ⟨res_of p0 lu k1, res_of p0 lv k2⟩
/-- What is asked of the prime. -/
structure Env (A B : Int) (p : Nat) : Prop where
  hC : isC A B = true
  h5 : 5 ≤ p
  h41 : p ≤ 41
  pr : Pr (p : Int)
  d : ¬ (p : Int) ∣ 4 * A * A * A + 27 * B * B
section
variable {A B : Int} {p : Nat}
theorem Env.p0 (E : Env A B p) : 0 < p := by have := E.h5; omega
theorem Env.prm (E : Env A B p) : TB.Prm (p : Int) := ⟨fun a b h => pr_mul E.pr h, pr_small (by have := E.h5; omega) (by omega) (by omega), by have := E.h5; omega⟩
theorem Env.dd (E : Env A B p) : ¬ (p : Int) * p ∣ 4 * A * A * A + 27 * B * B := fun h => E.d (Int.dvd_trans (Int.dvd_mul_right _ _) h)
theorem tg (E : Env A B p) : TB.TG A B none (EC.add (A : Rat)) EC.neg xQ yQ (tQ A B) := tQ_TG E.hC (tps_nodup A B)
theorem res_sub {X Y : Int} (hp : 0 < p) (h : TB.res p X = TB.res p Y) : (p : Int) ∣ X - Y := TB.res_eq hp h
theorem res_zero {X : Int} (hp : 0 < p) (h : TB.res p X = 0) : (p : Int) ∣ X := by
  have := res_dvd hp X
  rw [h] at this
  exact c1 (l1 (-1) this) (by simp)
theorem apX (E : Env A B p) {g h : Q2} (hg : g ∈ tQ A B) (hh : h ∈ tQ A B) (g0 : g ≠ none) (h0 : h ≠ none) (e : TB.res p (xQ g) = TB.res p (xQ h)) : g = h ∨ g = EC.neg h :=
  (tg E).x_same hg hh g0 h0 ((tg E).x_apart E.prm E.dd hg hh g0 h0 (res_sub E.p0 e))
theorem y_nz (E : Env A B p) {g : Q2} (hg : g ∈ tQ A B) (g0 : g ≠ none) (h : EC.add (A : Rat) g g ≠ none) : ¬ (p : Int) ∣ yQ g := fun k => (tg E).y_ne hg g0 h ((tg E).y_apart E.prm E.dd hg g0 k)
theorem y_res (E : Env A B p) {g : Q2} (hg : g ∈ tQ A B) (g0 : g ≠ none) (h : EC.add (A : Rat) g g ≠ none) : TB.res p (yQ g) ≠ 0 := fun k => y_nz E hg g0 h (res_zero E.p0 k)
theorem y_res0 (E : Env A B p) {g : Q2} (hg : g ∈ tQ A B) (g0 : g ≠ none) (h : EC.add (A : Rat) g g = none) : TB.res p (yQ g) = 0 := by
  rw [(tg E).y_zero hg g0 h]; exact res_of E.p0 E.p0 (by simp)
/-- The tangent, with both coordinates of the double. -/
theorem tang2 (hC : isC A B = true) {a : Q2} (ha : a ∈ tQ A B) (h0 : a ≠ none) (hy : yQ a ≠ 0) : ∃ l : Int, 2 * yQ a * l = 3 * xQ a * xQ a + A ∧ xQ (EC.add (A : Rat) a a) = l * l - 2 * xQ a ∧ yQ (EC.add (A : Rat) a a) = l * (xQ a - xQ (EC.add (A : Rat) a a)) - yQ a := by
  have iz : ∀ {x y : Int}, (x : Rat) = (y : Rat) → x = y := fun h => Rat.intCast_inj.1 h
  have ta := (mem_tQ hC a).1 ha
  have tb := tors_add hC ta ta
  obtain ⟨X, Y, rfl⟩ := tors_int hC ta h0
  simp only [xQ, yQ, num_int] at hy ⊢
  have hyr : (Y : Rat) ≠ 0 := fun e => hy (Rat.intCast_eq_zero_iff.1 e)
  have hne : ¬ ((Y : Rat) = -(Y : Rat)) := fun e => hyr (by grind)
  have hs : EC.add (A : Rat) (some ((X : Rat), (Y : Rat))) (some ((X : Rat), (Y : Rat))) = EC.third ((3 * (X : Rat) * X + A) / (2 * Y)) X Y X := by simp only [EC.add, hne, if_false, if_true]
  rw [hs] at tb ⊢
  obtain ⟨l, hl⟩ : ∃ l, (3 * (X : Rat) * X + A) / (2 * Y) = l := ⟨_, rfl⟩
  have hl2 : l * (2 * (Y : Rat)) = 3 * (X : Rat) * X + A := by
    rw [← hl]
    exact EC.ndiv (by intro e; exact hyr (by grind))
  rw [hl] at tb ⊢
  obtain ⟨X3, Y3, h3⟩ := tors_int hC tb (by simp [EC.third])
  rw [h3]
  simp only [xQ, yQ, num_int]
  unfold EC.third at h3
  have e3 : l * l - X - X = (X3 : Rat) := by have := Option.some.inj h3; exact congrArg Prod.fst this
  have e4 : l * (X - (l * l - X - X)) - Y = (Y3 : Rat) := by have := Option.some.inj h3; exact congrArg Prod.snd this
  obtain ⟨k, rfl, hk⟩ := EC.rat_sq_int (q := l) (N := 2 * X + X3) (by simp only [Rat.intCast_add, Rat.intCast_mul, Rat.intCast_ofNat]; grind)
  refine ⟨k, iz ?_, by omega, iz ?_⟩
  · simp only [Rat.intCast_mul, Rat.intCast_add, Rat.intCast_ofNat]
    grind
  · rw [e3] at e4
    simp only [Rat.intCast_mul, Rat.intCast_sub]
    exact e4.symm
theorem dblR (E : Env A B p) {g : Q2} (hg : g ∈ tQ A B) (g0 : g ≠ none) (h : EC.add (A : Rat) g g ≠ none) :
    TB.res p (xQ (EC.add (A : Rat) g g)) = dx p (TB.res p A) (TB.res p (xQ g)) (TB.res p (yQ g)) ∧ TB.res p (yQ (EC.add (A : Rat) g g)) = dy p (TB.res p A) (TB.res p (xQ g)) (TB.res p (yQ g)) := by
  obtain ⟨l, e1, e2, e3⟩ := tang2 E.hC hg g0 ((tg E).y_ne hg g0 h)
  exact dbl_link E.pr E.h5 (by have := E.h41; omega) (y_nz E hg g0 h) e1 e2 e3
/-- Of a point and its negative, one has a small second coordinate. -/
theorem ord_half (E : Env A B p) {g : Q2} (hg : g ∈ tQ A B) (g0 : g ≠ none) {k : Nat} (o : TB.Ord none (EC.add (A : Rat)) g k) : ∃ g', g' ∈ tQ A B ∧ g' ≠ none ∧ TB.Ord none (EC.add (A : Rat)) g' k ∧ TB.res p (yQ g') < (p + 1) / 2 := by
  have T := tg E
  have ho := odd_of E.pr E.h5
  by_cases h : TB.res p (yQ g) < (p + 1) / 2
  · exact ⟨g, hg, g0, o, h⟩
  · have nn : EC.neg (none : Q2) = none := rfl
    refine ⟨EC.neg g, T.ne_mem g hg, T.ne_z hg g0, ⟨o.pos, by rw [T.nm_ne hg, o.fin]; rfl, fun j j1 j2 e => ?_⟩, ?_⟩
    · rw [T.nm_ne hg] at e
      exact T.ne_z (T.nm_mem hg j) (o.least j j1 j2) e
    · rw [T.ny g hg g0]
      have h1 := res_dvd E.p0 (yQ g)
      have h2 := TB.res_lt E.p0 (yQ g)
      have h3 := E.h5
      rw [res_of (n := p - TB.res p (yQ g)) E.p0 (by omega) (c1 (l2 1 (-1) (Int.dvd_refl (p : Int)) h1) (by omega))]
      omega
theorem base (E : Env A B p) {g : Q2} (hg : g ∈ tQ A B) (g0 : g ≠ none) (hy : TB.res p (yQ g) < (p + 1) / 2) :
    (TB.res p (yQ g) = 0 → cz p (TB.res p A) (TB.res p B) = true) ∧ (TB.res p (yQ g) ≠ 0 → ck p (TB.res p A) (TB.res p B) (TB.res p (xQ g)) (TB.res p (yQ g)) = true) := by
  have p0 := E.p0
  have hc := cA_all E.pr (by have := E.h5; omega) (by have := E.h41; omega)
  rw [Int.toNat_natCast] at hc
  have ha := res_dvd p0 A; have hb := res_dvd p0 B; have hx := res_dvd p0 (xQ g); have hyy := res_dvd p0 (yQ g)
  have on := (tg E).on g hg g0
  refine cA_use hc (TB.res_lt p0 _) (TB.res_lt p0 _) hy (res_of p0 (Nat.mod_lt _ p0) ?_) ?_
  · generalize TB.res p A = a at *
    generalize TB.res p (xQ g) = x at *
    generalize TB.res p (yQ g) = y at *
    have h1 := md (y * y + (p - (x * x + a) * x % p)) p
    have h2 := md ((x * x + a) * x) p
    have h3 : (x * x + a) * x % p < p := Nat.mod_lt _ p0
    generalize (y * y + (p - (x * x + a) * x % p)) % p = b at *
    generalize (x * x + a) * x % p = s at *
    have e : ((p - s : Nat) : Int) = (p : Int) - s := by omega
    simp only [Int.natCast_add, Int.natCast_mul, e] at h1 h2
    generalize xQ g = X at *
    generalize yQ g = Y at *
    clear e
    refine c1 (l4 1 1 (-1) (y + Y) h1 (Int.dvd_refl (p : Int)) (l3 1 (x * x + x * X + X * X + A) x h2 hx ha) hyy) ?_
    grind
  · unfold ns
    refine beq_f fun h => E.d ?_
    generalize TB.res p A = a at *
    generalize TB.res p B = b at *
    have h1 : (p : Int) ∣ ((4 * (a * (a * a)) + 27 * (b * b) : Nat) : Int) := Int.natCast_dvd_natCast.2 (Nat.dvd_of_mod_eq_zero h)
    simp only [Int.natCast_add, Int.natCast_mul, show ((4 : Nat) : Int) = 4 from rfl, show ((27 : Nat) : Int) = 27 from rfl] at h1
    exact c1 (l3 1 (-(4 * (a * a + a * A + A * A))) (-(27 * (b + B))) h1 ha hb) (by grind)
/-- Two points of order two: two roots. -/
theorem two_roots (E : Env A B p) {g s : Q2} (hg : g ∈ tQ A B) (hs : s ∈ tQ A B) (g0 : g ≠ none) (s0 : s ≠ none) (hgs : g ≠ s) (g2 : EC.add (A : Rat) g g = none) (s2 : EC.add (A : Rat) s s = none) : 2 ≤ two p (TB.res p A) (TB.res p B) p := by
  have T := tg E
  have hne := TB.two_x T hg hs g0 s0 s2 hgs
  have root : ∀ r ∈ tQ A B, r ≠ none → EC.add (A : Rat) r r = none → fN p (TB.res p A) (TB.res p B) (TB.res p (xQ r)) = 0 := by
    intro r hr r0 r2
    have h1 := TB.two_root T hr r0 r2
    have h2 := fN_cast E.p0 A B (TB.res p (xQ r))
    have h3 := res_dvd E.p0 (xQ r)
    have h4 : fv A B p (TB.res p (xQ r)) = 0 := by
      unfold fv
      refine Int.emod_eq_zero_of_dvd (c1 (l1 ((TB.res p (xQ r) : Int) * TB.res p (xQ r) + TB.res p (xQ r) * xQ r + xQ r * xQ r + A) h3) ?_)
      grind
    omega
  have hr : TB.res p (xQ g) ≠ TB.res p (xQ s) := fun e => hne (T.x_apart E.prm E.dd hg hs g0 s0 (res_sub E.p0 e))
  rcases Nat.lt_or_ge (TB.res p (xQ g)) (TB.res p (xQ s)) with k | k
  · exact two_two (root g hg g0 g2) (root s hs s0 s2) k p (TB.res_lt E.p0 _)
  · exact two_two (root s hs s0 s2) (root g hg g0 g2) (by omega) p (TB.res_lt E.p0 _)
theorem nm_dbl (E : Env A B p) {g : Q2} (hg : g ∈ tQ A B) (k : Nat) : EC.add (A : Rat) (TB.nm none (EC.add (A : Rat)) k g) (TB.nm none (EC.add (A : Rat)) k g) = TB.nm none (EC.add (A : Rat)) (k + k) g := ((tg E).nm_add hg k k).symm
theorem nm_back (E : Env A B p) {g : Q2} (hg : g ∈ tQ A B) {j : Nat} (h : TB.nm none (EC.add (A : Rat)) (j + 1) g = none) : TB.nm none (EC.add (A : Rat)) j g = EC.neg g := by
  have T := tg E
  have h2 : EC.add (A : Rat) g (TB.nm none (EC.add (A : Rat)) j g) = none := by rw [T.comm _ hg _ (T.nm_mem hg j)]; exact h
  exact T.neg_of hg (T.nm_mem hg j) h2
/-- What the order of a told point tells of the number of points. -/
theorem ord_dvd (E : Env A B p) {g : Q2} (hg : g ∈ tQ A B) {k : Nat} (o : TB.Ord none (EC.add (A : Rat)) g k) :
    (k = 2 → 2 ∣ nC p (TB.res p A) (TB.res p B) p ∧ (2 ≤ two p (TB.res p A) (TB.res p B) p → 4 ∣ nC p (TB.res p A) (TB.res p B) p)) ∧
    (k = 3 → 3 ∣ nC p (TB.res p A) (TB.res p B) p) ∧
    (k = 4 → 4 ∣ nC p (TB.res p A) (TB.res p B) p ∧ (2 ≤ two p (TB.res p A) (TB.res p B) p → 8 ∣ nC p (TB.res p A) (TB.res p B) p)) ∧
    (k = 5 → 5 ∣ nC p (TB.res p A) (TB.res p B) p) ∧ (k = 7 → 7 ∣ nC p (TB.res p A) (TB.res p B) p) ∧ (k = 8 → 8 ∣ nC p (TB.res p A) (TB.res p B) p) ∧ (k = 9 → 9 ∣ nC p (TB.res p A) (TB.res p B) p) := by
  have T := tg E
  by_cases k1 : k = 1
  · refine ⟨?_, ?_, ?_, ?_, ?_, ?_, ?_⟩ <;> intro h <;> omega
  have g0 : g ≠ none := by
    intro e
    have : TB.nm none (EC.add (A : Rat)) 1 g = none := by rw [T.nm_one hg]; exact e
    exact o.least 1 (by omega) (by have := o.pos; omega) this
  obtain ⟨g', hg', g0', o', hy⟩ := ord_half E hg g0 o
  clear g0 o hg
  obtain ⟨b1, b2⟩ := base E hg' g0' hy
  have n1 := T.nm_one hg'
  have d1 := nm_dbl E hg' 1; rw [n1] at d1
  have d2 := nm_dbl E hg' 2
  have d4 := nm_dbl E hg' 4
  have least := o'.least
  have fin := o'.fin
  have xN : ∀ j, TB.nm none (EC.add (A : Rat)) j g' = EC.neg g' → TB.res p (xQ (TB.nm none (EC.add (A : Rat)) j g')) = TB.res p (xQ g') := by
    intro j e; rw [e, T.nx g' hg' g0']
  have u_ne : 3 < k → TB.res p (xQ (TB.nm none (EC.add (A : Rat)) 2 g')) ≠ TB.res p (xQ g') := by
    intro hk e
    rcases apX E (T.nm_mem hg' 2) hg' (least 2 (by omega) (by omega)) g0' e with e | e
    · have : TB.nm none (EC.add (A : Rat)) 1 g' = TB.nm none (EC.add (A : Rat)) 2 g' := by rw [n1, e]
      exact least 1 (by omega) (by omega) (T.nm_sub hg' (by omega) this)
    · have : TB.nm none (EC.add (A : Rat)) 3 g' = none := by
        show EC.add (A : Rat) (TB.nm none (EC.add (A : Rat)) 2 g') g' = none
        rw [e, T.comm _ (T.ne_mem _ hg') _ hg', T.back _ hg']
      exact least 3 (by omega) (by omega) this
  refine ⟨?_, ?_, ?_, ?_, ?_, ?_, ?_⟩
  · rintro rfl
    exact cz_use (b1 (y_res0 E hg' g0' (by rw [d1]; exact fin)))
  · rintro rfl
    have m2 := least 2 (by omega) (by omega)
    obtain ⟨r1, r2⟩ := dblR E hg' g0' (by rw [d1]; exact m2)
    have hc := ck_use (b2 (y_res E hg' g0' (by rw [d1]; exact m2))) r1 r2
    rw [d1] at hc
    exact hc.1 (xN 2 (nm_back E hg' fin))
  · rintro rfl
    have m2 := least 2 (by omega) (by omega)
    obtain ⟨r1, r2⟩ := dblR E hg' g0' (by rw [d1]; exact m2)
    have hc := ck_use (b2 (y_res E hg' g0' (by rw [d1]; exact m2))) r1 r2
    rw [d1] at hc
    exact hc.2.1 (y_res0 E (T.nm_mem hg' 2) m2 (by rw [d2]; exact fin))
  all_goals rintro rfl
  all_goals
    have m2 := least 2 (by omega) (by omega)
    have m4 := least 4 (by omega) (by omega)
    obtain ⟨r1, r2⟩ := dblR E hg' g0' (by rw [d1]; exact m2)
    have hc := ck_use (b2 (y_res E hg' g0' (by rw [d1]; exact m2))) r1 r2
    rw [d1] at hc
    obtain ⟨r3, r4⟩ := dblR E (T.nm_mem hg' 2) m2 (by rw [d2]; exact m4)
    rw [d2] at r3 r4
    have hc2 := hc.2.2 (y_res E (T.nm_mem hg' 2) m2 (by rw [d2]; exact m4)) _ _ r3 r4
    clear hc
    have un := u_ne (by omega)
  · exact hc2.1 (xN 4 (nm_back E hg' fin)) un
  · have e8 : TB.nm none (EC.add (A : Rat)) 8 g' = g' := by
      show EC.add (A : Rat) (TB.nm none (EC.add (A : Rat)) 7 g') g' = g'
      rw [fin, EC.zero_add]
    have m8 : TB.nm none (EC.add (A : Rat)) (4 + 4) g' ≠ none := by show TB.nm none (EC.add (A : Rat)) 8 g' ≠ none; rw [e8]; exact g0'
    obtain ⟨r5, r6⟩ := dblR E (T.nm_mem hg' 4) m4 (by rw [d4]; exact m8)
    rw [d4] at r5 r6
    have h3 := hc2.2.2 (y_res E (T.nm_mem hg' 4) m4 (by rw [d4]; exact m8)) _ _ r5 r6
    rw [show TB.nm none (EC.add (A : Rat)) (4 + 4) g' = g' from e8] at h3
    exact (h3 rfl un).1 rfl
  · exact hc2.2.1 (y_res0 E (T.nm_mem hg' 4) m4 (by rw [d4]; exact fin))
  · have e8 : TB.nm none (EC.add (A : Rat)) 8 g' = EC.neg g' := nm_back E hg' fin
    have m8 : TB.nm none (EC.add (A : Rat)) (4 + 4) g' ≠ none := least 8 (by omega) (by omega)
    obtain ⟨r5, r6⟩ := dblR E (T.nm_mem hg' 4) m4 (by rw [d4]; exact m8)
    rw [d4] at r5 r6
    have h3 := hc2.2.2 (y_res E (T.nm_mem hg' 4) m4 (by rw [d4]; exact m8)) _ _ r5 r6
    rw [show TB.nm none (EC.add (A : Rat)) (4 + 4) g' = EC.neg g' from e8, T.nx g' hg' g0', T.ny g' hg' g0'] at h3
    refine (h3 rfl un).2 fun e => ?_
    have h4 := res_sub E.p0 e
    have h5 : (p : Int) ∣ 2 * yQ g' := c1 (l1 (-1) h4) (by omega)
    exact (pr_mul E.pr h5).elim E.prm.two (y_nz E hg' g0' (by rw [d1]; exact m2))
end
end BT
/-! ### what FnTorsion asks of the told points -/
theorem nm_two_ne {A B : Int} {g : Q2} {H : List Q2} (T : TB.TG A B none (EC.add (A : Rat)) EC.neg xQ yQ H) (hg : g ∈ H) (o : TB.Ord none (EC.add (A : Rat)) g 2) : g ≠ none ∧ EC.add (A : Rat) g g = none := by
  have n1 := T.nm_one hg
  refine ⟨fun e => o.least 1 (by omega) (by omega) (by rw [n1]; exact e), ?_⟩
  have := o.fin
  have e : TB.nm none (EC.add (A : Rat)) 2 g = EC.add (A : Rat) (TB.nm none (EC.add (A : Rat)) 1 g) g := rfl
  rw [e, n1] at this
  exact this
theorem cop_dvd {a b N : Nat} (h : Nat.Coprime a b) (h1 : a ∣ N) (h2 : b ∣ N) : a * b ∣ N := h.mul_dvd_of_dvd_of_dvd h1 h2
/-- The number of told points divides the number of points modulo a good prime up to 41. -/
theorem len_cnt {A B q : Int} (hC : isC A B = true) (hg : gdB A B q = true) (h41 : q ≤ 41) : (((tps A B).length : Nat) : Int) ∣ cnt A B q := by
  obtain ⟨h5, h9, hq, hd⟩ := gdB_iff.1 hg
  obtain ⟨p, rfl⟩ := Int.eq_ofNat_of_zero_le (show 0 ≤ q by omega)
  have E : BT.Env A B p := ⟨hC, by omega, by omega, hq, fun k => hd (by rw [(dsc_bd hC).1]; exact Int.emod_eq_zero_of_dvd k)⟩
  rw [← BT.nC_all hq (by omega)]
  refine Int.natCast_dvd_natCast.2 ?_
  obtain ⟨n0, m0, t0, e1, l1, l2⟩ := tgF_tor hC
  obtain ⟨hall, hs⟩ := told_at hC m0 t0 e1
  have T := tQ_TG hC (tps_nodup A B)
  have o0 := ord_Ord t0
  have hg0 : EC.toQ (tgF A B) ∈ tQ A B := List.mem_map.2 ⟨_, m0, rfl⟩
  have n11 : n0 ≠ 11 := by
    have := ord_ne11 hC t0.pv ((mem_tps hC t0.pv).1 m0)
    rw [t0.ord] at this
    omega
  have h13 := tps_le hC (tps_nodup A B)
  have M : ∀ d k, 1 ≤ d → n0 = d * k → TB.Ord none (EC.add (A : Rat)) (TB.nm none (EC.add (A : Rat)) d (EC.toQ (tgF A B))) k := fun d k d1 e => (show TB.Ord none (EC.add (A : Rat)) (EC.toQ (tgF A B)) (d * k) from e ▸ o0).mult T hg0 d1
  have F := fun d k (d1 : 1 ≤ d) (e : n0 = d * k) => BT.ord_dvd E (T.nm_mem hg0 d) (M d k d1 e)
  have W : ∀ s, s ∈ tQ A B → s ∉ TB.cyc none (EC.add (A : Rat)) (EC.toQ (tgF A B)) n0 → EC.add (A : Rat) s s = none → ∀ d, 1 ≤ d → n0 = d * 2 → 2 ≤ BT.two p (TB.res p A) (TB.res p B) p := by
    intro s s1 s2 s3 d d1 e
    obtain ⟨z1, z2⟩ := nm_two_ne T (T.nm_mem hg0 d) (M d 2 d1 e)
    refine BT.two_roots E (T.nm_mem hg0 d) s1 z1 ?_ ?_ z2 s3
    · rintro rfl
      exact s2 ((TB.cyc_iff T hg0 o0 _).2 ⟨0, rfl⟩)
    · rintro rfl
      exact s2 ((TB.cyc_iff T hg0 o0 _).2 ⟨d, rfl⟩)
  generalize BT.nC p (TB.res p A) (TB.res p B) p = N at *
  generalize BT.two p (TB.res p A) (TB.res p B) p = R at *
  rcases hs with ⟨-, hs⟩ | ⟨s, s1, s2, s3, s4, s5, -⟩
  · rw [hs]
    clear W M hall m0 hs h13 hd
    have hn : n0 = 1 ∨ n0 = 2 ∨ n0 = 3 ∨ n0 = 4 ∨ n0 = 5 ∨ n0 = 6 ∨ n0 = 7 ∨ n0 = 8 ∨ n0 = 9 ∨ n0 = 10 ∨ n0 = 12 := by omega
    rcases hn with h | h | h | h | h | h | h | h | h | h | h
    · rw [h]; exact Nat.one_dvd _
    · rw [h]; exact ((F 1 2 (by omega) (by omega)).1 rfl).1
    · rw [h]; exact (F 1 3 (by omega) (by omega)).2.1 rfl
    · rw [h]; exact ((F 1 4 (by omega) (by omega)).2.2.1 rfl).1
    · rw [h]; exact (F 1 5 (by omega) (by omega)).2.2.2.1 rfl
    · rw [h]; exact cop_dvd (a := 2) (b := 3) (by decide) ((F 3 2 (by omega) (by omega)).1 rfl).1 ((F 2 3 (by omega) (by omega)).2.1 rfl)
    · rw [h]; exact (F 1 7 (by omega) (by omega)).2.2.2.2.1 rfl
    · rw [h]; exact (F 1 8 (by omega) (by omega)).2.2.2.2.2.1 rfl
    · rw [h]; exact (F 1 9 (by omega) (by omega)).2.2.2.2.2.2 rfl
    · rw [h]; exact cop_dvd (a := 2) (b := 5) (by decide) ((F 5 2 (by omega) (by omega)).1 rfl).1 ((F 2 5 (by omega) (by omega)).2.2.2.1 rfl)
    · rw [h]; exact cop_dvd (a := 4) (b := 3) (by decide) ((F 3 4 (by omega) (by omega)).2.2.1 rfl).1 ((F 4 3 (by omega) (by omega)).2.1 rfl)
  · rw [s5] at h13 ⊢
    have W2 := W s s1 s2 s3
    have hn : n0 = 2 ∨ n0 = 4 ∨ n0 = 6 := by omega
    rcases hn with h | h | h
    · rw [h]; exact ((F 1 2 (by omega) (by omega)).1 rfl).2 (W2 1 (by omega) (by omega))
    · rw [h]; exact ((F 1 4 (by omega) (by omega)).2.2.1 rfl).2 (W2 2 (by omega) (by omega))
    · rw [h]; exact cop_dvd (a := 4) (b := 3) (by decide) (((F 3 2 (by omega) (by omega)).1 rfl).2 (W2 3 (by omega) (by omega))) ((F 2 3 (by omega) (by omega)).2.1 rfl)
def P11 : List Nat := [5, 7, 11, 13, 17, 19, 23, 29, 31, 37, 41]
theorem gp3 {a b : Int} (h : isC a b = true) : 3 ≤ (gpTo a b 37).length := by
  obtain ⟨-, h1, h2⟩ := dsc_bd h
  have hb := big9_use (D := (dsc a b).natAbs) (by omega) h2 P16 1 0 big9_ok (Nat.one_dvd _) P16_cop (fun p _ => Nat.coprime_one_left p)
  have hb2 := (List.Sublist.filter (fun p => decide (p ∣ (dsc a b).natAbs)) (show P11.Sublist P16 by decide)).length_le
  have e := len_split (fun p => decide (p ∣ (dsc a b).natAbs)) P11
  have h16 : P11.length = 11 := rfl
  have hs : ((P11.filter (fun p => !decide (p ∣ (dsc a b).natAbs))).map (fun (n : Nat) => (n : Int))).Sublist (gpTo a b 37) := by
    have hmem : ∀ x ∈ (P11.filter (fun p => !decide (p ∣ (dsc a b).natAbs))).map (fun (n : Nat) => (n : Int)), x ∈ gpTo a b 37 := by
      intro x hx
      rw [List.mem_map] at hx
      obtain ⟨p, hp, rfl⟩ := hx
      rw [List.mem_filter] at hp
      obtain ⟨k1, k2, k3, k4⟩ := P16_pr p ((show P11.Sublist P16 by decide).subset hp.1)
      have k5 : p ≤ 41 := (show ∀ p ∈ P11, p ≤ 41 by decide) p hp.1
      refine gpTo_mem.2 ⟨by omega, by omega, gdB_iff.2 ⟨by omega, by omega, prn_to k1 k2, fun h0 => ?_⟩⟩
      have := Int.natAbs_dvd_natAbs.2 (Int.dvd_of_emod_eq_zero h0)
      simp at hp
      exact hp.2 (by simpa using this)
    have hsort : ((P11.filter (fun p => !decide (p ∣ (dsc a b).natAbs))).map (fun (n : Nat) => (n : Int))).Pairwise (· < ·) := by
      exact List.Pairwise.map _ (fun x y (hxy : x < y) => by omega) (List.Pairwise.filter _ (show P11.Pairwise (· < ·) by decide +kernel))
    have hsort2 : (gpTo a b 37).Pairwise (· < ·) := by
      unfold gpTo
      exact List.Pairwise.filter _ (List.Pairwise.map _ (fun x y (hxy : x < y) => by omega) List.pairwise_lt_range)
    exact sub_of_sorted hsort hsort2 hmem
  have := hs.length_le
  rw [List.length_map] at this
  omega
theorem gpl3_mem {a b p : Int} (hC : isC a b = true) (h : p ∈ gpl a b 3) : p ≤ 41 ∧ gdB a b p = true := by
  have h3 := gp3 hC
  obtain ⟨t, ht⟩ := gpTo_pre a b (m := 37) (n := 993) (by omega)
  unfold gpl at h
  rw [← ht, List.take_append_of_le_length (by simpa using h3)] at h
  have h4 := gpTo_mem.1 (List.mem_of_mem_take h)
  exact ⟨by omega, h4.2.2⟩
theorem fold_dvd {a b c : Int} : ∀ (l : List Int) (d : Int), c ∣ d → (∀ p ∈ l, c ∣ cnt a b p) → c ∣ l.foldl (fun d p => (Int.gcd d (cnt a b p) : Int)) d
  | [], d, h, _ => h
  | q :: l, d, h, h2 => fold_dvd l _ (Int.dvd_coe_gcd h (h2 q List.mem_cons_self)) (fun p hp => h2 p (List.mem_cons_of_mem _ hp))
/-- The number of told points divides the bound of three primes. -/
theorem len_tb {a b : Int} (hC : isC a b = true) : (((tps a b).length : Nat) : Int) ∣ tbV a b 3 := by
  unfold tbV
  refine fold_dvd _ _ (Int.dvd_zero _) fun p hp => ?_
  obtain ⟨h1, h2⟩ := gpl3_mem hC hp
  exact len_cnt hC h2 h1
theorem ptsX_bef {x n : Int} (h0 : sqB n = true → n ≠ 0 → 0 < rt n) : (ptsX x 1 n).Pairwise fun p q => befB p q = true := by
  unfold ptsX
  split
  · rename_i hs
    split
    · simp
    · rename_i hn
      have := h0 hs hn
      simp [befB]; omega
  · simp
theorem ptsX_e {x e n : Int} {p : P3} (h : p ∈ ptsX x e n) : p.2.2 = e := by
  unfold ptsX at h
  split at h
  · split at h
    · simp only [List.mem_singleton] at h; subst h; rfl
    · simp only [List.mem_cons, List.not_mem_nil, or_false] at h
      rcases h with rfl | rfl <;> rfl
  · cases h
theorem cnd_e {a b x : Int} {p : P3} (h : p ∈ cnd a b x) : p.2.2 = 1 := by
  unfold cnd at h
  split at h
  · exact ptsX_e h
  · cases h
theorem cds_e {a b : Int} {k : Nat} {p : P3} (h : p ∈ cds a b k) : p.2.2 = 1 := by
  unfold cds at h
  obtain ⟨i, -, hi⟩ := List.mem_flatMap.1 h
  exact cnd_e hi
theorem rt_pos {n : Int} (h : sqB n = true) (h0 : n ≠ 0) : 0 < rt n := by
  have h1 := rt_nonneg n
  have h2 := rt_zero_iff h
  rcases Int.lt_or_le 0 (rt n) with g | g
  · exact g
  · exact absurd (h2.1 (by omega)) h0
theorem cnd_bef (a b x : Int) : (cnd a b x).Pairwise fun p q => befB p q = true := by
  unfold cnd
  split
  · exact ptsX_bef rt_pos
  · simp
theorem cds_bef (a b : Int) : ∀ k, (cds a b k).Pairwise fun p q => befB p q = true
  | 0 => by simp [cds]
  | k + 1 => by
    rw [cds_succ]
    refine List.pairwise_append.2 ⟨cds_bef a b k, cnd_bef a b _, fun p hp q hq => ?_⟩
    have h1 := (cds_nodup a b k).2 p hp
    have h2 := cnd_x hq
    have h3 := cds_e hp
    have h4 := cnd_e hq
    unfold befB
    rw [if_neg (by omega), if_neg (by omega)]
    simp; omega
theorem tps_bef (a b : Int) : (tps a b).Pairwise fun p q => befB p q = true := by
  unfold tps
  refine List.pairwise_cons.2 ⟨fun q hq => ?_, List.Pairwise.filter _ (cds_bef a b 6001)⟩
  have h4 := cds_e (List.mem_filter.1 hq).1
  unfold befB
  rw [if_pos (by simp)]
  simp; omega
/-- The told list is found good. -/
theorem ckV_told {a b : Int} (hC : isC a b = true) : ckV a b (tps a b) = .tuple #[.bool true, .bool true] := by
  have h13 := tps_le hC (tps_nodup a b)
  have T := tQ_TG hC (tps_nodup a b)
  have e : ckB a (tps a b) = true := by
    unfold ckB
    rw [Bool.and_eq_true, Bool.and_eq_true]
    refine ⟨⟨?_, ?_⟩, ?_⟩
    · obtain ⟨L, hL, -⟩ := tps_zero a b
      rw [hL]; simp
    · unfold rowsB
      rw [List.all_eq_true]
      intro i hi
      rw [List.mem_range] at hi
      have e2 : (tps a b).getD i (0, 0, 0) = (tps a b)[i] := getD_at (List.getElem?_eq_getElem hi)
      unfold rowB
      rw [Bool.and_eq_true, e2]
      refine ⟨?_, (mem_tps hC (tps_PV hC _ (List.getElem_mem hi))).1 (List.getElem_mem hi)⟩
      cases i with
      | zero => rfl
      | succ i =>
        have hi2 : i < (tps a b).length := Nat.lt_of_succ_lt hi
        have e1 : (tps a b).getD (i + 1 - 1) (0, 0, 0) = (tps a b)[i] := getD_at (List.getElem?_eq_getElem hi2)
        rw [e1, Bool.or_eq_true]
        exact .inr (List.pairwise_iff_getElem.1 (tps_bef a b) i (i + 1) hi2 hi (Nat.lt_succ_self i))
    · unfold allsB
      rw [List.all_eq_true]
      intro p hp
      unfold sumsB
      rw [List.all_eq_true]
      intro q hq
      have h1 := T.ad_mem _ (List.mem_map.2 ⟨p, hp, rfl⟩) _ (List.mem_map.2 ⟨q, hq, rfl⟩)
      obtain ⟨r, hr, e⟩ := List.mem_map.1 h1
      have e2 : EC.sumO a p q = some r := by
        unfold EC.sumO
        rw [← e]; exact EC.rep_toQ (tps_PV hC r hr)
      unfold sumB
      rw [e2]
      simpa using hr
  unfold ckV
  rw [if_pos, e]
  rw [Bool.and_eq_true, Bool.and_eq_true]
  refine ⟨⟨hC, by simp; omega⟩, ?_⟩
  rw [List.all_eq_true]
  intro p hp
  exact PV_ptBM hC (tps_PV hC p hp)
/-- A told point is told to be one. -/
theorem itV_told {a b : Int} (hC : isC a b = true) {p : P3} (hp : p ∈ tps a b) : itV a b p.1 p.2.1 p.2.2 = .tuple #[.bool true, .bool true] := by
  have pv := tps_PV hC p hp
  unfold itV
  rw [if_pos (PV_ptBM hC pv), show (p.1, p.2.1, p.2.2) = p from rfl, (mem_tps hC pv).1 hp]
/-- Told points of order up to k. -/
def soT (a b : Int) (k : Nat) : Nat := ((tps a b).filter fun p => decide ((ordV a p).1 ≤ (k : Int))).length
theorem filt_split (f : P3 → Int) (k : Nat) : ∀ l : List P3, (l.filter fun p => decide (f p ≤ ((k + 1 : Nat) : Int))).length = (l.filter fun p => decide (f p ≤ (k : Int))).length + (l.filter fun p => !(f p != ((k : Int) + 1))).length
  | [] => rfl
  | p :: l => by
    have ih := filt_split f k l
    by_cases h1 : f p ≤ (k : Int)
    · rw [List.filter_cons_of_pos (p := fun p => decide (f p ≤ ((k + 1 : Nat) : Int))) (by simp; omega), List.filter_cons_of_pos (p := fun p => decide (f p ≤ (k : Int))) (by simp; omega), List.filter_cons_of_neg (p := fun p => !(f p != ((k : Int) + 1))) (by simp; omega)]
      simp only [List.length_cons]; omega
    · by_cases h3 : f p = (k : Int) + 1
      · rw [List.filter_cons_of_pos (p := fun p => decide (f p ≤ ((k + 1 : Nat) : Int))) (by simp; omega), List.filter_cons_of_neg (p := fun p => decide (f p ≤ (k : Int))) (by simp; omega), List.filter_cons_of_pos (p := fun p => !(f p != ((k : Int) + 1))) (by simp; omega)]
        simp only [List.length_cons]; omega
      · rw [List.filter_cons_of_neg (p := fun p => decide (f p ≤ ((k + 1 : Nat) : Int))) (by simp; omega), List.filter_cons_of_neg (p := fun p => decide (f p ≤ (k : Int))) (by simp; omega), List.filter_cons_of_neg (p := fun p => !(f p != ((k : Int) + 1))) (by simp; omega)]
        exact ih
theorem soT_succ (a b : Int) (k : Nat) : soT a b (k + 1) = soT a b k + (poPs a b ((k : Int) + 1)).length := filt_split (fun p => (ordV a p).1) k (tps a b)
theorem soT_zero {a b : Int} (hC : isC a b = true) : soT a b 0 = 0 := by
  unfold soT
  rw [List.length_eq_zero_iff, List.filter_eq_nil_iff]
  intro p hp
  obtain ⟨n, t⟩ := tps_tor hC hp
  have := t.ord; have := t.lo
  simp; omega
theorem soT_all {a b : Int} (hC : isC a b = true) : soT a b 12 = (tps a b).length := by
  unfold soT
  rw [List.filter_eq_self.2]
  intro p hp
  obtain ⟨n, t⟩ := tps_tor hC hp
  have := t.ord; have := t.hi
  simp; omega
theorem po_dvd {a b : Int} (hC : isC a b = true) {k : Nat} (h : poPs a b ((k : Int) + 1) ≠ []) : gmV a b % ((k : Int) + 1) = 0 := by
  obtain ⟨n0, m0, t0, e1, l1, l2⟩ := tgF_tor hC
  obtain ⟨hall, -⟩ := told_at hC m0 t0 e1
  obtain ⟨p, hp⟩ := List.exists_mem_of_ne_nil _ h
  unfold poPs poB at hp
  obtain ⟨h1, h2⟩ := List.mem_filter.1 hp
  obtain ⟨n, t, hd⟩ := hall p h1
  have h3 := t.ord
  have h4 : (ordV a p).1 = (k : Int) + 1 := by simpa using h2
  have : n = k + 1 := by omega
  subst this
  rw [e1]
  exact Int.emod_eq_zero_of_dvd (Int.natCast_dvd_natCast.2 hd)
/-- What FnTorsion asks. -/
theorem tor_facts {a b : Int} (hC : isC a b = true) : ∃ f n : Nat, tsV a b = .tuple #[.int .i64 f, .int .i64 n, .bool true] ∧ (tps a b).length = f * n ∧ 1 ≤ f ∧ f ≤ 2 ∧ 1 ≤ n ∧ n ≤ 12 ∧ (n : Int) % f = 0 ∧ (tps a b).length ≤ (cds a b 6001).length + 1 ∧ (tps a b).length ≤ 13 ∧ (tps a b)[0]? = some (0, 0, 0) ∧
    ckV a b (tps a b) = .tuple #[.bool true, .bool true] ∧ (∃ bd : Int, tbR a b 3 = .tuple #[.int .i64 bd, .bool true] ∧ bd % (((tps a b).length : Nat) : Int) = 0 ∧ 1 ≤ bd ∧ bd ≤ 2000) ∧
    (∀ k : Nat, poPs a b ((k : Int) + 1) ≠ [] → (n : Int) % ((k : Int) + 1) = 0) ∧ (∀ p ∈ tps a b, itV a b p.1 p.2.1 p.2.2 = .tuple #[.bool true, .bool true]) := by
  obtain ⟨f, n, e1, n1, n2, e2, e3, e4, -⟩ := shape_fact hC
  have h13 := tps_le hC (tps_nodup a b)
  obtain ⟨L, hL, -⟩ := tps_zero a b
  refine ⟨f, n, by unfold tsV; rw [if_pos hC, e4, e1], e2, by omega, by omega, n1, n2, ?_, ?_, h13, by rw [hL]; rfl, ckV_told hC, ?_, ?_, fun p hp => itV_told hC hp⟩
  · rcases e3 with rfl | ⟨rfl, h2⟩
    · simp
    · exact Int.emod_eq_zero_of_dvd (Int.natCast_dvd_natCast.2 h2)
  · unfold tps
    rw [List.length_cons]
    have := List.length_filter_le (fun p => (ordV a p).2) (cds a b 6001)
    omega
  · obtain ⟨p1, p2⟩ := tbV_pos hC (k := 3) (by omega) (by omega)
    exact ⟨tbV a b 3, tbR_t hC (inB_t (by omega) (by omega)), mod_zero_of (len_tb hC), p1, p2⟩
  · intro k hk
    have := po_dvd hC hk
    rw [e1] at this
    exact this
end Go.Proofs.YtjgdajeoeagggaaGreat
