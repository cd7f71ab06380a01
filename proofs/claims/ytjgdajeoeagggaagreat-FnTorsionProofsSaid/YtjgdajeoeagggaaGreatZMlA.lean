import Derived.Test.YtjgdajeoeagggaaGreatZPtV
import Derived.Test.YtjgdajeoeagggaaGreatZRegX
set_option linter.unusedSimpArgs false
set_option linter.unusedVariables false
namespace Go.Proofs.YtjgdajeoeagggaaGreat
open Go.RowKit
/-! ### no point of a curve of the program's size has the order 11 -/
namespace N11
structure Prm (p : Int) : Prop where
  mul : ∀ a b : Int, p ∣ a * b → p ∣ a ∨ p ∣ b
  two : ¬ p ∣ 2
  ne : p ≠ 0
theorem Prm.sq {p a : Int} (h : Prm p) (ha : p ∣ a * a) : p ∣ a := (h.mul _ _ ha).elim id id
theorem Prm.dbl {p a : Int} (h : Prm p) (ha : p ∣ 2 * a) : p ∣ a := (h.mul _ _ ha).resolve_left h.two
theorem Prm.both {p a b : Int} (h : Prm p) (h1 : p ∣ a - b) (h2 : p ∣ a + b) : p ∣ a := h.dbl (by
  obtain ⟨j, hj⟩ := h1; obtain ⟨k, hk⟩ := h2; exact ⟨j + k, by grind⟩)
theorem Prm.canc {p a b : Int} (h : Prm p) (e : p * a = p * b) : a = b := Int.eq_of_mul_eq_mul_left h.ne e
structure Fam (a2 a4 a6 : Int) (x y : Nat → Int) : Prop where
  on : ∀ i, 1 ≤ i → i ≤ 10 → y i * y i = x i * x i * x i + a2 * x i * x i + a4 * x i + a6
  opx : ∀ i, 1 ≤ i → i ≤ 10 → x (11 - i) = x i
  opy : ∀ i, 1 ≤ i → i ≤ 10 → y (11 - i) = - y i
  chord : ∀ i j, 1 ≤ i → i ≤ 10 → 1 ≤ j → j ≤ 10 → i ≠ j → i + j ≠ 11 → ∃ l, y i - y j = l * (x i - x j) ∧ l * l = a2 + x i + x j + x ((i + j) % 11)
  tang : ∀ i, 1 ≤ i → i ≤ 10 → ∃ l, 2 * y i * l = 3 * x i * x i + 2 * a2 * x i + a4 ∧ l * l = a2 + 2 * x i + x ((i + i) % 11)
/-- Shifted to s: f(s), f'(s), f''(s)/2. -/
def F0 (a2 a4 a6 s : Int) : Int := s*s*s + a2*s*s + a4*s + a6
def F1 (a2 a4 s : Int) : Int := 3*s*s + 2*a2*s + a4
def F2 (a2 s : Int) : Int := a2 + 3*s
theorem Fam.shift {a2 a4 a6 : Int} {x y : Nat → Int} (h : Fam a2 a4 a6 x y) (s : Int) : Fam (F2 a2 s) (F1 a2 a4 s) (F0 a2 a4 a6 s) (fun i => x i - s) y := by
  refine ⟨fun i h1 h2 => ?_, fun i h1 h2 => ?_, h.opy, fun i j h1 h2 h3 h4 h5 h6 => ?_, fun i h1 h2 => ?_⟩
  · have := h.on i h1 h2; unfold F0 F1 F2; grind
  · show x (11 - i) - s = x i - s; rw [h.opx i h1 h2]
  · obtain ⟨l, e1, e2⟩ := h.chord i j h1 h2 h3 h4 h5 h6
    exact ⟨l, by rw [e1]; grind, by rw [e2]; unfold F2; grind⟩
  · obtain ⟨l, e1, e2⟩ := h.tang i h1 h2
    exact ⟨l, by rw [e1]; unfold F1 F2; grind, by rw [e2]; unfold F2; grind⟩
section
variable {p a2 a4 a6 : Int} {x y : Nat → Int}
/-- The difference of two first coordinates divides both second ones, twice. -/
theorem Fam.dvd_y (hp : Prm p) (h : Fam a2 a4 a6 x y) {i j : Nat} (h1 : 1 ≤ i) (h2 : i ≤ 10) (h3 : 1 ≤ j) (h4 : j ≤ 10) (h5 : i ≠ j) (h6 : i + j ≠ 11) (hd : p ∣ x i - x j) : p ∣ y i := by
  obtain ⟨l, e1, -⟩ := h.chord i j h1 h2 h3 h4 h5 h6
  obtain ⟨m, e2, -⟩ := h.chord i (11 - j) h1 h2 (by omega) (by omega) (by omega) (by omega)
  rw [h.opx j h3 h4, h.opy j h3 h4] at e2
  obtain ⟨k, hk⟩ := hd
  rw [hk] at e1 e2
  exact hp.both ⟨l * k, by rw [e1]; grind⟩ ⟨m * k, by grind⟩
theorem dbl_ns {c0 c1 al u v y l : Int} (hp : Prm p) (hc0 : p ∣ c0) (hc1 : p ∣ c1) (hon : y * y = u*u*u + al*u*u + c1*u + c0) (ht : 2*y*l = 3*u*u + 2*al*u + c1) (hl : l*l = al + 2*u + v) (hv : p ∣ v) : p ∣ y := by
  obtain ⟨k0, rfl⟩ := hc0; obtain ⟨k1, rfl⟩ := hc1; obtain ⟨k2, rfl⟩ := hv
  have e : (2*y*l)*(2*y*l) = 4*(y*y)*(l*l) := by grind
  rw [ht, hl, hon] at e
  have h4 : p ∣ (u*u)*(u*u) := ⟨4*u*u*(al+u)*k2 + 4*(k0+k1*u)*(al+2*u+p*k2) - k1*(p*k1) - 2*k1*(2*al*u+3*u*u), by grind⟩
  have hu := hp.sq (hp.sq h4)
  obtain ⟨k, rfl⟩ := hu
  exact hp.sq ⟨k*(p*k)*(p*k) + al*k*(p*k) + p*k1*k + k0, by rw [hon]; grind⟩
theorem sing_u {c0 c1 al u y l : Int} (hp : Prm p) (hc0 : p ∣ c0) (hc1 : p ∣ c1) (hon : y * y = u*u*u + al*u*u + c1*u + c0) (ht : 2*y*l = 3*u*u + 2*al*u + c1) (hy : p ∣ y) : p ∣ u := by
  obtain ⟨k0, rfl⟩ := hc0; obtain ⟨k1, rfl⟩ := hc1; obtain ⟨k2, rfl⟩ := hy
  have h1 : p ∣ (u*u)*(u+al) := ⟨k2*p*k2 - k1*u - k0, by grind⟩
  have h2 : p ∣ u*(3*u+2*al) := ⟨2*k2*l - k1, by grind⟩
  rcases hp.mul _ _ h1 with h1 | h1
  · exact hp.sq h1
  rcases hp.mul _ _ h2 with h2 | h2
  · exact h2
  obtain ⟨j, hj⟩ := h1; obtain ⟨k, hk⟩ := h2
  exact ⟨k - 2*j, by grind⟩
theorem all_of {P1 P2 P3 P4 P5 P6 P7 P8 P9 P10 : Prop} (h : P1 ∨ P2 ∨ P3 ∨ P4 ∨ P5 ∨ P6 ∨ P7 ∨ P8 ∨ P9 ∨ P10) (c1 : P2 → P1) (c2 : P4 → P2) (c3 : P6 → P3) (c4 : P8 → P4) (c5 : P10 → P5) (c6 : P1 → P6) (c7 : P3 → P7) (c8 : P5 → P8) (c9 : P7 → P9) (c10 : P9 → P10) :
    P1 ∧ P2 ∧ P3 ∧ P4 ∧ P5 ∧ P6 ∧ P7 ∧ P8 ∧ P9 ∧ P10 := by grind
/-- One second coordinate is divisible: all are, and all first ones agree. -/
theorem Fam.allY (hp : Prm p) (h : Fam a2 a4 a6 x y) {i : Nat} (h1 : 1 ≤ i) (h2 : i ≤ 10) (hy : p ∣ y i) : ∀ j, 1 ≤ j → j ≤ 10 → p ∣ y j := by
  have hs := h.shift (x i)
  have e0 : p ∣ F0 a2 a4 a6 (x i) := by
    have := h.on i h1 h2
    obtain ⟨k, hk⟩ := hy
    exact ⟨k * (p * k), by unfold F0; grind⟩
  have e1 : p ∣ F1 a2 a4 (x i) := by
    obtain ⟨l, hl, -⟩ := h.tang i h1 h2
    obtain ⟨k, hk⟩ := hy
    exact ⟨2 * k * l, by unfold F1; grind⟩
  have step : ∀ j, 1 ≤ j → j ≤ 10 → p ∣ y ((j + j) % 11) → p ∣ y j := by
    intro j h3 h4 h5
    obtain ⟨l, hl, hl2⟩ := hs.tang j h3 h4
    obtain ⟨m, hm, -⟩ := hs.tang ((j + j) % 11) (by omega) (by omega)
    have h6 := sing_u hp e0 e1 (hs.on ((j + j) % 11) (by omega) (by omega)) hm h5
    exact dbl_ns hp e0 e1 (hs.on j h3 h4) hl hl2 h6
  have c1 := step 1 (by omega) (by omega); have c2 := step 2 (by omega) (by omega); have c3 := step 3 (by omega) (by omega); have c4 := step 4 (by omega) (by omega); have c5 := step 5 (by omega) (by omega)
  have c6 := step 6 (by omega) (by omega); have c7 := step 7 (by omega) (by omega); have c8 := step 8 (by omega) (by omega); have c9 := step 9 (by omega) (by omega); have c10 := step 10 (by omega) (by omega)
  simp only [Nat.reduceAdd, Nat.reduceMod] at c1 c2 c3 c4 c5 c6 c7 c8 c9 c10
  have hi : i = 1 ∨ i = 2 ∨ i = 3 ∨ i = 4 ∨ i = 5 ∨ i = 6 ∨ i = 7 ∨ i = 8 ∨ i = 9 ∨ i = 10 := by omega
  have all : p ∣ y 1 ∧ p ∣ y 2 ∧ p ∣ y 3 ∧ p ∣ y 4 ∧ p ∣ y 5 ∧ p ∣ y 6 ∧ p ∣ y 7 ∧ p ∣ y 8 ∧ p ∣ y 9 ∧ p ∣ y 10 := by
    clear hs e0 e1 step h
    exact all_of (by rcases hi with rfl | rfl | rfl | rfl | rfl | rfl | rfl | rfl | rfl | rfl <;> simp [hy]) c1 c2 c3 c4 c5 c6 c7 c8 c9 c10
  intro j h3 h4
  obtain ⟨d1, d2, d3, d4, d5, d6, d7, d8, d9, d10⟩ := all
  have hj : j = 1 ∨ j = 2 ∨ j = 3 ∨ j = 4 ∨ j = 5 ∨ j = 6 ∨ j = 7 ∨ j = 8 ∨ j = 9 ∨ j = 10 := by omega
  rcases hj with rfl | rfl | rfl | rfl | rfl | rfl | rfl | rfl | rfl | rfl <;> assumption
end
theorem prm3 : Prm 3 := ⟨fun a b h => by
  have h := Int.emod_eq_zero_of_dvd h
  rw [Int.mul_emod] at h
  have ha : a % 3 = 0 ∨ a % 3 = 1 ∨ a % 3 = 2 := by omega
  have hb : b % 3 = 0 ∨ b % 3 = 1 ∨ b % 3 = 2 := by omega
  rcases ha with e | e | e <;> rcases hb with f | f | f <;> simp [e, f] at h <;> omega, by decide, by decide⟩
theorem hole3 (a b c d : Int) : 3 ∣ a - b ∨ 3 ∣ a - c ∨ 3 ∣ a - d ∨ 3 ∣ b - c ∨ 3 ∣ b - d ∨ 3 ∣ c - d := by omega
def f5 (x : Int) : Fin 5 := ⟨(x % 5).toNat, by omega⟩
section
variable {a2 a4 a6 A B : Int} {x y : Nat → Int}
/-- Modulo 3 there are not enough first coordinates. -/
theorem Fam.three (h : Fam a2 a4 a6 x y) : ∀ j, 1 ≤ j → j ≤ 10 → 3 ∣ y j := by
  have go : ∀ i j, 1 ≤ i → i ≤ 5 → 1 ≤ j → j ≤ 5 → i ≠ j → 3 ∣ x i - x j → ∀ j, 1 ≤ j → j ≤ 10 → 3 ∣ y j := fun i j h1 h2 h3 h4 h5 hd =>
    h.allY prm3 h1 (by omega) (h.dvd_y prm3 h1 (by omega) h3 (by omega) h5 (by omega) hd)
  rcases hole3 (x 1) (x 2) (x 3) (x 4) with g | g | g | g | g | g
  · exact go 1 2 (by omega) (by omega) (by omega) (by omega) (by omega) g
  · exact go 1 3 (by omega) (by omega) (by omega) (by omega) (by omega) g
  · exact go 1 4 (by omega) (by omega) (by omega) (by omega) (by omega) g
  · exact go 2 3 (by omega) (by omega) (by omega) (by omega) (by omega) g
  · exact go 2 4 (by omega) (by omega) (by omega) (by omega) (by omega) g
  · exact go 3 4 (by omega) (by omega) (by omega) (by omega) (by omega) g
end
end N11
/-! ### multiples of points, of both signs -/
/-- n times a point. -/
def mpO (A : Int) (p : P3) (n : Int) : Option P3 := if n < 0 then mulO A (EC.opp p) n.natAbs else mulO A p n.natAbs
def mpT (r : Option P3) : Value := match r with
  | some r => .tuple #[.agg #[.int .i64 r.1, .int .i64 r.2.1, .int .i64 r.2.2], .bool true]
  | none => .tuple #[.agg #[.int .i64 0, .int .i64 0, .int .i64 0], .bool false]
theorem mulV_T (A : Int) (p : P3) (n : Nat) : mulV A p n = mpT (mulO A p n) := by unfold mulV mpT; cases mulO A p n <;> rfl
theorem mpT_f (r : Option P3) : ∃ u v t : Int, ∃ ok : Bool, mpT r = .tuple #[.agg #[.int .i64 u, .int .i64 v, .int .i64 t], .bool ok] := by
  cases r with
  | none => exact ⟨0, 0, 0, false, rfl⟩
  | some q => exact ⟨q.1, q.2.1, q.2.2, true, rfl⟩
theorem name_worldM {P : Program} {f : FuncId} {args : Array Value} {W : World} {Q : Ending → World → Prop} (h : ∀ V, V = W → Calls P f args V Q) : Calls P f args W Q := h W rfl
theorem ptMinusM_any (x y e : Int) (h : -9223372036854775807 ≤ y) (h' : y ≤ 9223372036854775807) (w : World) : Calls Tryz.prog 134 #[.agg #[.int .i64 x, .int .i64 y, .int .i64 e]] w (Gives (.agg #[.int .i64 x, .int .i64 (-y), .int .i64 e]) w) := by
  have hw : wrap64 (-y) = -y := win (by omega)
  go_enter Tryz.func134, Tryz.ntmps134
  go_wp2
  refine bodyPost_ret (v := .agg #[.int .i64 x, .int .i64 (-y), .int .i64 e]) (by simp [results, Tryz.results134, go_sem, hw]) rfl (gives rfl gr)
set_option maxRecDepth 100000 in
set_option maxHeartbeats 4000000 in
theorem ptTimes_negL (A B x y z e : Int) (N : Nat) (hN : N ≤ 1000000) (hN1 : 1 ≤ N) (hC : isC A B = true) (hz : y = -z) (hz1 : -2000000 ≤ z) (hz2 : z ≤ 2000000) (hp : EC.PV A B (x, y, e)) (w : World) :
    Calls Tryz.prog 107 #[.agg #[.int .i64 A, .int .i64 B], .agg #[.int .i64 x, .int .i64 z, .int .i64 e], .int .i64 (-(N : Int))] w (Gives (mulV A (x, y, e) N) w) := by
  have HA := Lib.hid (fun u v t (h : EC.PV A B (u, v, t)) W => ptAdd_any A B u v t x y e hC h hp W)
  have HS := Lib.hid (fun u v t r (h : EC.PV A B (u, v, t)) (h2 : EC.sumO A (u, v, t) (x, y, e) = some r) => (EC.sumO_PV h hp h2).1)
  obtain ⟨R, hR⟩ : ∃ R, mulV A (x, y, e) N = R := ⟨_, rfl⟩
  rw [hR]
  have HR := Lib.hid hR
  clear hR hC hp
  have hNn : -(N : Int) < 0 := by omega
  have hw0 : IntKind.i64.wrap (-(-(N : Int))) = (N : Int) := by rw [IntWalk.i64_in _ (by omega)]; omega
  have HM := Lib.hid (fun W => ptMinusM_any x z e (by omega) (by omega) W)
  rw [← hz] at HM
  clear hz hz1 hz2
  go_enter Tryz.func107, Tryz.ntmps107
  go_wp2_with fail
  refine name_worldM (fun V hV => ?_)
  have Bc : Box V w.heap.size [.int .i64 A, .int .i64 B] := by subst hV; exact box_two (by first | omega | (simp; done) | (simp; omega)) (by simp [go_sem]) (by simp [go_sem]) (fun o => by simp [go_sem])
  have Bp : Box V (w.heap.size + 1) [.int .i64 x, .int .i64 z, .int .i64 e] := by subst hV; exact box_three (by first | omega | (simp; done) | (simp; omega)) (by simp [go_sem]) (by simp [go_sem]) (by simp [go_sem]) (fun o => by simp [go_sem])
  have Br : Box V (w.heap.size + 1 + 1) [.int .i64 0, .int .i64 0, .int .i64 0] := by subst hV; exact box_three (by first | omega | (simp; done) | (simp; omega)) (by simp [go_sem]) (by simp [go_sem]) (by simp [go_sem]) (fun o => by simp [go_sem])
  have hB : Below w.heap.size w V := by subst hV; exact gr
  clear hV
  refine (HM.out _).mono ?_
  rintro e9 wm ⟨rfl, hbm⟩
  have Bc := Bc.below hbm; have Bp := Bp.below hbm; have Br := Br.below hbm
  have hB := bthen2 hbm hB
  have c0 := Bc.2.1 0 _ rfl; have c1 := Bc.2.1 1 _ rfl; have cl := Bc.1
  have p0 := Bp.2.1 0 _ rfl; have p1 := Bp.2.1 1 _ rfl; have p2 := Bp.2.1 2 _ rfl; have pf := Bp.2.2; have pl := Bp.1
  have rl := Br.1
  clear HM hbm
  go_wp2_with fail
  refine name_world (fun W1 hW1 => ?_)
  have hsb : w.heap.size + 1 + 1 < wm.heap.size := rl
  obtain ⟨bn, hbn⟩ : ∃ bn, bn = wm.heap.size := ⟨_, rfl⟩
  have Bn : Box W1 wm.heap.size [.int .i64 0, .int .i64 0, .int .i64 0] := by subst hW1; exact box_three (by first | omega | (simp; done) | (simp; omega)) (by simp [go_sem]) (by simp [go_sem]) (by simp [go_sem]) (fun o => by simp [go_sem])
  have Bc : Box W1 w.heap.size [.int .i64 A, .int .i64 B] := by subst hW1; exact Box.alloc (Box.set_ne (Box.set_ne (Box.set_ne Bc (by first | (simp; done) | (simp; omega)) _) (by first | (simp; done) | (simp; omega)) _) (by first | (simp; done) | (simp; omega)) _) _
  have Br : Box W1 (w.heap.size + 1 + 1) [.int .i64 0, .int .i64 0, .int .i64 0] := by subst hW1; exact Box.alloc (Box.set_ne (Box.set_ne (Box.set_ne Br (by first | (simp; done) | (simp; omega)) _) (by first | (simp; done) | (simp; omega)) _) (by first | (simp; done) | (simp; omega)) _) _
  have Bp : Box W1 (w.heap.size + 1) [.int .i64 x, .int .i64 y, .int .i64 e] := by subst hW1; exact Box.alloc (Box.set (Box.set (Box.set Bp 0 (by simp) _) 1 (by simp) _) 2 (by simp) _) _
  have hB : Below w.heap.size w W1 := by subst hW1; exact gr
  clear hW1 c0 c1 cl p0 p1 p2 pf pl
  go_loopw [2] (fun v2 wr => ∃ (m : Int) (j : Nat) (u v t : Int), v2 = .int .i64 m ∧ 0 ≤ m ∧ m + j = N ∧ EC.PV A B (u, v, t) ∧ Hid (mulO A (x, y, e) j = some (u, v, t)) ∧ Box wr w.heap.size [.int .i64 A, .int .i64 B] ∧ Box wr (w.heap.size + 1) [.int .i64 x, .int .i64 y, .int .i64 e] ∧ Box wr (w.heap.size + 1 + 1) [.int .i64 0, .int .i64 0, .int .i64 0] ∧ Box wr wm.heap.size [.int .i64 u, .int .i64 v, .int .i64 t] ∧ Below w.heap.size w wr) (fun v2 _ => (intOf v2).toNat)
  case atStart => exact ⟨N, 0, 0, 0, 0, rfl, by omega, by omega, .inl rfl, Lib.hid rfl, Bc, Bp, Br, Bn, hB⟩
  case round =>
    clear Bc Bp Bn Br hB hNn hw0
    obtain ⟨m, j, u, v, t, rfl, hm0, hmj, hPV, HG, Bc, Bp, Br, Bn, hB⟩ := hrel
    have c0 := Bc.2.1 0 _ rfl; have c1 := Bc.2.1 1 _ rfl; have cl := Bc.1
    have p0 := Bp.2.1 0 _ rfl; have p1 := Bp.2.1 1 _ rfl; have p2 := Bp.2.1 2 _ rfl; have pl := Bp.1
    have n0 := Bn.2.1 0 _ rfl; have n1 := Bn.2.1 1 _ rfl; have n2 := Bn.2.1 2 _ rfl; have nf := Bn.2.2; have nl := Bn.1
    have r0 := Br.2.1 0 _ rfl; have r1 := Br.2.1 1 _ rfl; have r2 := Br.2.1 2 _ rfl; have rf := Br.2.2; have rl := Br.1
    by_cases hlt : 0 < m
    · have HAA := HA.out u v t hPV
      have hw1 : wrap64 (m - 1) = m - 1 := win (by omega)
      rcases hs : EC.sumO A (u, v, t) (x, y, e) with _ | ⟨a, b, c⟩
      · have h2 : mulO A (x, y, e) N = none := by
          have h3 : mulO A (x, y, e) (j + 1) = none := by rw [mulO_succ HG.out, hs]
          have := mulO_none h3 (N - (j + 1))
          rwa [show j + 1 + (N - (j + 1)) = N by omega] at this
        have HV := Lib.hid (show R = .tuple #[.agg #[.int .i64 0, .int .i64 0, .int .i64 0], .bool false] from by rw [← HR.out, mulV_none h2])
        rw [sumV_none hs] at HAA
        have HAA := Lib.hid HAA
        clear HG hs hPV HA HS HR h2
        go_wp2_with fail
        refine (HAA.out _).mono ?_
        rintro e9 wa ⟨rfl, hba⟩
        have hza := hba.size
        have Br2 := Br.below hba
        have s0 := Br2.2.1 0 _ rfl; have s1 := Br2.2.1 1 _ rfl; have s2 := Br2.2.1 2 _ rfl; have sf := Br2.2.2; have sl := Br2.1
        go_wp2_with fail
        refine bodyPost_ret (v := .tuple #[.agg #[.int .i64 0, .int .i64 0, .int .i64 0], .bool false]) (by simp [results, Tryz.results107, go_sem, s0, s1, s2, sf, sl]) rfl (gives HV.out.symm gr)
      · have hq := HS.out u v t _ hPV hs
        rw [sumV_some hs] at HAA
        have HAA := Lib.hid HAA
        have HG2 := Lib.hid ((mulO_succ HG.out).trans hs)
        clear HG hs hPV HA HS
        go_wp2_with fail
        refine (HAA.out _).mono ?_
        rintro e9 wa ⟨rfl, hba⟩
        have hza := hba.size
        have Bc2 := Bc.below hba; have Bp2 := Bp.below hba; have Bn2 := Bn.below hba; have Br2 := Br.below hba
        have q0 := Bn2.2.1 0 _ rfl; have q1 := Bn2.2.1 1 _ rfl; have q2 := Bn2.2.1 2 _ rfl; have qf := Bn2.2.2; have ql := Bn2.1
        go_wp2_with fail
        go_roundw
        case rel => exact ⟨m - 1, j + 1, a, b, c, rfl, by omega, by omega, hq, HG2, Box.alloc (Box.set_ne (Box.set_ne (Box.set_ne Bc2 (by first | (simp; done) | (simp; omega)) _) (by first | (simp; done) | (simp; omega)) _) (by first | (simp; done) | (simp; omega)) _) _, Box.alloc (Box.set_ne (Box.set_ne (Box.set_ne Bp2 (by first | (simp; done) | (simp; omega)) _) (by first | (simp; done) | (simp; omega)) _) (by first | (simp; done) | (simp; omega)) _) _, Box.alloc (Box.set_ne (Box.set_ne (Box.set_ne Br2 (by first | (simp; done) | (simp; omega)) _) (by first | (simp; done) | (simp; omega)) _) (by first | (simp; done) | (simp; omega)) _) _, Box.alloc (Box.set (Box.set (Box.set Bn2 0 (by simp) _) 1 (by simp) _) 2 (by simp) _) _, gr⟩
        case measure => simp [intOf]; omega
    · obtain rfl : j = N := by omega
      have HV := Lib.hid (show R = .tuple #[.agg #[.int .i64 u, .int .i64 v, .int .i64 t], .bool true] from by rw [← HR.out, mulV_some HG.out])
      clear HG hPV HA HS HR
      go_wp2_with fail
      refine bodyPost_ret (v := .tuple #[.agg #[.int .i64 u, .int .i64 v, .int .i64 t], .bool true]) (by simp [results, Tryz.results107, go_sem, r0, r1, r2, rf, rl]) rfl (gives HV.out.symm gr)
theorem yrng {A B x y e : Int} (hC : isC A B = true) (hp : EC.PV A B (x, y, e)) : -2000000 ≤ y ∧ y ≤ 2000000 := by
  obtain ⟨h1, h2, h3, h4, -⟩ := isC_ff hC
  have := (PV.rng ⟨h1, h2⟩ ⟨h3, h4⟩ hp).2.1
  simp only at this
  omega
/-- n times a point, for a number of either sign. -/
theorem ptTimesZ (A B x y e n : Int) (h1 : -1000000 ≤ n) (h2 : n ≤ 1000000) (hC : isC A B = true) (hp : EC.PV A B (x, y, e)) (w : World) :
    Calls Tryz.prog 107 #[.agg #[.int .i64 A, .int .i64 B], .agg #[.int .i64 x, .int .i64 y, .int .i64 e], .int .i64 n] w (Gives (mpT (mpO A (x, y, e) n)) w) := by
  unfold mpO
  split
  · have := ptTimes_negL A B x (-y) y e n.natAbs (by omega) (by omega) hC rfl (yrng hC hp).1 (yrng hC hp).2 (EC.opp_PV hp) w
    rw [show -((n.natAbs : Nat) : Int) = n by omega, mulV_T] at this
    exact this
  · have := ptTimes_any A B x y e n.natAbs (by omega) hC hp w
    rw [show ((n.natAbs : Nat) : Int) = n by omega, mulV_T] at this
    exact this
theorem PV_ptBM {a b x y e : Int} (hC : isC a b = true) (h : EC.PV a b (x, y, e)) : ptB a b x y e = true := by
  unfold ptB
  rw [hC, Bool.true_and]
  rcases h with h | ⟨h1, h2, h3, h4, h5, h6⟩
  · simp only [Prod.mk.injEq] at h
    simp [h.1, h.2.1, h.2.2]
  · simp only at h1 h2 h3 h4 h5 h6
    rw [inB_t h1 h2, inB_t h3 h4, decide_eq_true h5, decide_eq_true h6]
    simp
end Go.Proofs.YtjgdajeoeagggaaGreat
