import Derived.Test.YtjgdajeoeagggaaGreatZGoP
import Derived.Test.YtjgdajeoeagggaaGreatZPtS
import Derived.Test.YtjgdajeoeagggaaGreatZK10
import Derived.Test.YtjgdajeoeagggaaGreatZK2
import Derived.Test.YtjgdajeoeagggaaGreatZRegX
set_option linter.unusedSimpArgs false
set_option linter.unusedVariables false
namespace Go.Proofs.YtjgdajeoeagggaaGreat
open Go.RowKit
/-! ### points modulo a prime -/
def rdL (x y e q : Int) : List Int := if e % q = 0 then [] else [x % q * pw e (q - 2) q % q * pw e (q - 2) q % q, y % q * pw e (q - 2) q % q * pw e (q - 2) q % q * pw e (q - 2) q % q]
theorem pw_bd (a n : Int) {p : Int} (h : 2 ≤ p) : 0 ≤ pw a n p ∧ pw a n p < p := ⟨Int.emod_nonneg _ (by omega), Int.emod_lt_of_pos _ (by omega)⟩
theorem em_bd (a : Int) {p : Int} (h : 2 ≤ p) : 0 ≤ a % p ∧ a % p < p := ⟨Int.emod_nonneg _ (by omega), Int.emod_lt_of_pos _ (by omega)⟩
theorem ml_bd {a b p : Int} (h1 : 0 ≤ a) (h2 : a < p) (h3 : 0 ≤ b) (h4 : b < p) (h5 : p ≤ 1000) : 0 ≤ a * b ∧ a * b ≤ 1000000 := by
  refine ⟨Int.mul_nonneg h1 h3, ?_⟩
  have := Int.mul_le_mul (show a ≤ 1000 by omega) (show b ≤ 1000 by omega) h3 (by omega)
  omega
/-- The call hands back a slice of its own, and whether it is one. -/
def GivesIG (xs : List Int) (ok : Bool) (w : World) (e : Ending) (w' : World) : Prop := ∃ a l c, e = .returned (.tuple #[.slice a l c, .bool ok]) ∧ Own w' w.heap.size (.slice a l c) xs ∧ Below w.heap.size w w'
theorem sC3 {w : World} {g : Nat} {x y e : Value} (h : Box w g [x, y, e]) : w.cell? ⟨g, 0, none⟩ = some x ∧ w.cell? ⟨g, 1, none⟩ = some y := ⟨h.2.1 0 _ rfl, h.2.1 1 _ rfl⟩
theorem Box.drewRG {w : World} {b : Nat} {vs : List Value} (h : Box w b vs) : Box w.drew b vs := h
theorem own_madeG {w : World} {xs : List Int} (hx : xs.length ≤ 1000) : Own (w.alloc (Obj.cells (xs.map (Value.int .i64)).toArray 3)) w.heap.size (.slice (some ⟨w.heap.size, 0, none⟩) xs.length xs.length) xs :=
  ⟨by simp, .inr ⟨w.heap.size, xs.length, (xs.map (Value.int .i64)).toArray, rfl, Nat.le_refl _, Array.getElem?_push_size, Nat.le_refl _, by show xs.length ≤ 9223372036854775807; omega, by simp, by rw [Nat.mul_one, List.toList_toArray]; exact List.take_of_length_le (by simp)⟩⟩
theorem own_madeD {w : World} {xs : List Int} (hx : xs.length ≤ 1000) : Own (w.alloc (Obj.cells (xs.map (Value.int .i64)).toArray 3)).drew w.heap.size (.slice (some ⟨w.heap.size, 0, none⟩) xs.length xs.length) xs := own_madeG hx
theorem wtm {v q : Int} (h0 : 0 ≤ v) (h1 : v ≤ 1000000) : (IntKind.i64.wrap v).tmod q = v % q := by
  rw [IntWalk.i64_in _ (by omega)]; exact Int.tmod_eq_emod_of_nonneg h0
theorem inverse_any (a p : Int) (hp : 2 ≤ p) (hp' : p ≤ 1000000000) (w : World) : Calls Tryz.prog 108 #[.int .i64 a, .int .i64 p] w (Gives (.int .i64 (pw a (p - 2) p)) w) := by
  have H := Lib.hid (fun w => power_any a (p - 2) p (by omega) (by omega) hp hp' w)
  generalize pw a (p - 2) p = R at *
  go_enter Tryz.func108, Tryz.ntmps108
  go_wp2_with (go_at_call 131; refine (H.out _).mono ?_; rintro e w1 ⟨rfl, hb⟩; have hz := hb.size; (try simp only [wz1, wz2, wz3, wz4] at hz); try (refine keepc hb (w.heap.size) ?_ ?_; (focus (first | omega | (simp <;> omega))); intro hc0 hf0 hl0); try (refine keepc hb (w.heap.size + 1) ?_ ?_; (focus (first | omega | (simp <;> omega))); intro hc1 hf1 hl1); try (refine keepc hb (w.heap.size + 1 + 1) ?_ ?_; (focus (first | omega | (simp <;> omega))); intro hc2 hf2 hl2))
  go_ret
  exact gives rfl gr
theorem mdInverse_any (a p : Int) (hp : 2 ≤ p) (hp' : p ≤ 1000000000) (w : World) : Calls Tryz.prog 112 #[.int .i64 a, .int .i64 p] w (Gives (.int .i64 (pw a (p - 2) p)) w) := by
  have H := Lib.hid (fun w => mdPower_any a (p - 2) p (by omega) (by omega) hp hp' w)
  generalize pw a (p - 2) p = R at *
  go_enter Tryz.func112, Tryz.ntmps112
  go_wp2_with (go_at_call 132; refine (H.out _).mono ?_; rintro e w1 ⟨rfl, hb⟩; have hz := hb.size; (try simp only [wz1, wz2, wz3, wz4] at hz); try (refine keepc hb (w.heap.size) ?_ ?_; (focus (first | omega | (simp <;> omega))); intro hc0 hf0 hl0); try (refine keepc hb (w.heap.size + 1) ?_ ?_; (focus (first | omega | (simp <;> omega))); intro hc1 hf1 hl1); try (refine keepc hb (w.heap.size + 1 + 1) ?_ ?_; (focus (first | omega | (simp <;> omega))); intro hc2 hf2 hl2))
  go_ret
  exact gives rfl gr
set_option maxRecDepth 100000 in
set_option maxHeartbeats 4000000 in
theorem reducePoint_any (x y e q : Int) (h1 : 2 ≤ q) (h2 : q ≤ 997) (h3 : 0 ≤ e) (w : World) : Calls Tryz.prog 74 #[.agg #[.int .i64 x, .int .i64 y, .int .i64 e], .int .i64 q] w (GivesOwn (rdL x y e q) w) := by
  have hq0 : (q == 0) = false := by simp; omega
  have hq1 : ¬ q = 0 := by omega
  unfold rdL
  by_cases h0 : e % q = 0
  · rw [if_pos h0]
    have h0' : (e % q == 0) = true := by simpa using h0
    clear h0
    go_enter Tryz.func74, Tryz.ntmps74
    go_wp2
    go_ret
    exact ⟨_, _, _, rfl, Own.nil _ _, gr⟩
  · rw [if_neg h0]
    have h0' : (e % q == 0) = false := by simpa using h0
    clear h0
    have HV := Lib.hid (fun w => inverse_any e q h1 (by omega) w)
    have HX := Lib.hid (fun w => modulo_any x q (by omega) (by omega) w)
    have HY := Lib.hid (fun w => modulo_any y q (by omega) (by omega) w)
    obtain ⟨i1, i2⟩ := pw_bd e (q - 2) h1
    obtain ⟨x1, x2⟩ := em_bd x h1
    obtain ⟨y1, y2⟩ := em_bd y h1
    generalize pw e (q - 2) q = i at *
    generalize hX : x % q = X at *
    generalize hY : y % q = Y at *
    clear hX hY
    obtain ⟨a1, a2⟩ := ml_bd x1 x2 i1 i2 (by omega)
    obtain ⟨a3, a4⟩ := em_bd (X * i) h1
    obtain ⟨a5, a6⟩ := ml_bd a3 a4 i1 i2 (by omega)
    obtain ⟨b1, b2⟩ := ml_bd y1 y2 i1 i2 (by omega)
    obtain ⟨b3, b4⟩ := em_bd (Y * i) h1
    obtain ⟨b5, b6⟩ := ml_bd b3 b4 i1 i2 (by omega)
    obtain ⟨b7, b8⟩ := em_bd (Y * i % q * i) h1
    obtain ⟨b9, b10⟩ := ml_bd b7 b8 i1 i2 (by omega)
    go_enter Tryz.func74, Tryz.ntmps74
    go_wp2_with fail
    refine (HV.out _).mono ?_; rintro e9 w1 ⟨rfl, hb⟩
    have X1 : Box w1 w.heap.size [.int .i64 x, .int .i64 y, .int .i64 e] := Box.below (box_three (by simp) (by simp [go_sem]) (by simp [go_sem]) (by simp [go_sem]) (fun o => by simp [go_sem])) hb
    have B1 : Below w.heap.size w w1 := by repeat' (first | (with_reducible first | exact bq1 _ _ | assumption | refine bq2 ?_ ?_ _ | refine bq3 ?_ ?_ _ | refine bq4 ?_ | refine bq5 ?_ _) | (apply bthen2; (with_reducible assumption)) | go_size)
    have q0 := X1.2.1 0 _ rfl; have q1 := X1.2.1 1 _ rfl; have ql := X1.1; have hz := B1.size
    clear hb
    have tok1 := True.intro
    go_wp2
    refine wp_region_x (fun w' => w'.cell? ⟨w.heap.size, 0, none⟩ = some (.int .i64 x) ∧ w'.cell? ⟨w.heap.size, 1, none⟩ = some (.int .i64 y)) (fun i => decide (i < 30)) (by kernel_rfl) ?_ (fun hHeld => ?_)
    focus ((try dsimp only); (exact sC3 qa14))
    refine wtk (v := ?_) 0 rfl ?_ (by assumption) ?_
    rotate_left
    focus (intro w hSw; (try dsimp only at hSw); go_simp; (try with_reducible rfl))
    (try simp only [Act.put, wz5, wz6, wz7])
    refine wtk (v := ?_) 1 rfl ?_ (by assumption) ?_
    rotate_left
    focus (intro w hSw; (try dsimp only at hSw); go_simp; (try with_reducible rfl))
    (try simp only [Act.put, wz5, wz6, wz7])
    refine wtk (v := ?_) 2 rfl ?_ (by assumption) ?_
    rotate_left
    focus (intro w hSw; (try dsimp only at hSw); go_simp; (try with_reducible rfl))
    (try simp only [Act.put, wz5, wz6, wz7])
    refine wtk (v := ?_) 4 rfl ?_ (by assumption) ?_
    rotate_left
    focus (intro w hSw; (try dsimp only at hSw); go_simp; (try with_reducible rfl))
    (try simp only [Act.put, wz5, wz6, wz7])
    refine wtk (v := ?_) 6 rfl ?_ (by assumption) ?_
    rotate_left
    focus (intro w hSw; (try dsimp only at hSw); go_simp; (try with_reducible rfl))
    (try simp only [Act.put, wz5, wz6, wz7])
    refine wtk (v := ?_) 8 rfl ?_ (by assumption) ?_
    rotate_left
    focus (intro w hSw; (try dsimp only at hSw); go_simp; (try with_reducible rfl))
    (try simp only [Act.put, wz5, wz6, wz7])
    refine wtk (v := ?_) 10 rfl ?_ (by assumption) ?_
    rotate_left
    focus (intro w hSw; (try dsimp only at hSw); go_simp; (try with_reducible rfl))
    (try simp only [Act.put, wz5, wz6, wz7])
    refine wtk (v := ?_) 12 rfl ?_ (by assumption) ?_
    rotate_left
    focus (intro w hSw; (try dsimp only at hSw); go_simp; (try with_reducible rfl))
    (try simp only [Act.put, wz5, wz6, wz7])
    refine wtk (v := ?_) 13 rfl ?_ (by assumption) ?_
    rotate_left
    focus (intro w hSw; (try dsimp only at hSw); go_simp; (try with_reducible rfl))
    (try simp only [Act.put, wz5, wz6, wz7])
    refine wtk (v := ?_) 14 rfl ?_ (by assumption) ?_
    rotate_left
    focus (intro w hSw; (try dsimp only at hSw); go_simp; (try with_reducible rfl))
    (try simp only [Act.put, wz5, wz6, wz7])
    refine wtk (v := ?_) 16 rfl ?_ (by assumption) ?_
    rotate_left
    focus (intro w hSw; (try dsimp only at hSw); go_simp; (try with_reducible rfl))
    (try simp only [Act.put, wz5, wz6, wz7])
    refine wtk (v := ?_) 18 rfl ?_ (by assumption) ?_
    rotate_left
    focus (intro w hSw; (try dsimp only at hSw); go_simp; (try with_reducible rfl))
    (try simp only [Act.put, wz5, wz6, wz7])
    refine wtk (v := ?_) 20 rfl ?_ (by assumption) ?_
    rotate_left
    focus (intro w hSw; (try dsimp only at hSw); go_simp; (try with_reducible rfl))
    (try simp only [Act.put, wz5, wz6, wz7])
    refine wtk (v := ?_) 22 rfl ?_ (by assumption) ?_
    rotate_left
    focus (intro w hSw; (try dsimp only at hSw); go_simp; (try with_reducible rfl))
    (try simp only [Act.put, wz5, wz6, wz7])
    refine wtk (v := ?_) 24 rfl ?_ (by assumption) ?_
    rotate_left
    focus (intro w hSw; (try dsimp only at hSw); go_simp; (try with_reducible rfl))
    (try simp only [Act.put, wz5, wz6, wz7])
    refine wtk (v := ?_) 26 rfl ?_ (by assumption) ?_
    rotate_left
    focus (intro w hSw; (try dsimp only at hSw); go_simp; (try with_reducible rfl))
    (try simp only [Act.put, wz5, wz6, wz7])
    refine wpAnyX_one 3 rfl (by kernel_rfl) (fun K hK => ?_)
    go_simp
    (go_at_call 109; clear tok1; refine (HX.out _).mono ?_; rintro e8 w8 ⟨rfl, rfl⟩)
    go_wp2_with fail
    clear hHeld
    refine hK.out _ _ ?_ (fun hHeld => ?_)
    focus ((try dsimp only); (exact sC3 qa14))
    clear hK K
    (try simp only [Act.put, wz5, wz6, wz7])
    refine wtk (v := ?_) 5 rfl ?_ (by assumption) ?_
    rotate_left
    focus (intro w hSw; (try dsimp only at hSw); go_simp; (try with_reducible rfl))
    (try simp only [Act.put, wz5, wz6, wz7])
    refine wtk (v := ?_) 7 rfl ?_ (by assumption) ?_
    rotate_left
    focus (intro w hSw; (try dsimp only at hSw); go_simp; (try with_reducible rfl))
    (try simp only [Act.put, wz5, wz6, wz7])
    refine wtk (v := ?_) 9 rfl ?_ (by assumption) ?_
    rotate_left
    focus (intro w hSw; (try dsimp only at hSw); go_simp; (try with_reducible rfl))
    (try simp only [Act.put, wz5, wz6, wz7])
    refine wtk (v := ?_) 11 rfl ?_ (by assumption) ?_
    rotate_left
    focus (intro w hSw; (try dsimp only at hSw); go_simp; (try with_reducible rfl))
    (try simp only [Act.put, wz5, wz6, wz7])
    refine wpAnyX_one 15 rfl (by kernel_rfl) (fun K hK => ?_)
    go_simp
    (go_at_call 109; refine (HY.out _).mono ?_; rintro e8 w8 ⟨rfl, rfl⟩)
    go_wp2_with fail
    clear hHeld
    refine hK.out _ _ ?_ (fun hHeld => ?_)
    focus ((try dsimp only); (exact sC3 qa14))
    clear hK K
    (try simp only [Act.put, wz5, wz6, wz7])
    refine wtk (v := ?_) 17 rfl ?_ (by assumption) ?_
    rotate_left
    focus (intro w hSw; (try dsimp only at hSw); go_simp; (try with_reducible rfl))
    (try simp only [Act.put, wz5, wz6, wz7])
    refine wtk (v := ?_) 19 rfl ?_ (by assumption) ?_
    rotate_left
    focus (intro w hSw; (try dsimp only at hSw); go_simp; (try with_reducible rfl))
    (try simp only [Act.put, wz5, wz6, wz7])
    refine wtk (v := ?_) 21 rfl ?_ (by assumption) ?_
    rotate_left
    focus (intro w hSw; (try dsimp only at hSw); go_simp; (try with_reducible rfl))
    (try simp only [Act.put, wz5, wz6, wz7])
    refine wtk (v := ?_) 23 rfl ?_ (by assumption) ?_
    rotate_left
    focus (intro w hSw; (try dsimp only at hSw); go_simp; (try with_reducible rfl))
    (try simp only [Act.put, wz5, wz6, wz7])
    refine wtk (v := ?_) 25 rfl ?_ (by assumption) ?_
    rotate_left
    focus (intro w hSw; (try dsimp only at hSw); go_simp; (try with_reducible rfl))
    (try simp only [Act.put, wz5, wz6, wz7])
    refine wtk (v := ?_) 27 rfl ?_ (by assumption) ?_
    rotate_left
    focus (intro w hSw; (try dsimp only at hSw); go_simp; (try with_reducible rfl))
    (try simp only [Act.put, wz5, wz6, wz7])
    refine wpAnyX_one 28 rfl (by kernel_rfl) (fun K hK => ?_)
    go_simp
    clear hHeld
    refine hK.out _ _ ?_ (fun hHeld => ?_)
    focus ((try dsimp only); (exact sC3 qa14))
    clear hK K
    (try simp only [Act.put, wz5, wz6, wz7])
    refine wtk (v := ?_) 29 rfl ?_ (by assumption) ?_
    rotate_left
    focus (intro w hSw; (try dsimp only at hSw); go_simp; (try with_reducible rfl))
    (try simp only [Act.put, wz5, wz6, wz7])
    refine wpAnyX_done (by kernel_rfl) ?_ _
    refine NoPanic.normal ?_
    clear hHeld
    simp only [wtm a1 a2, wtm a5 a6, wtm b1 b2, wtm b5 b6, wtm b9 b10]
    go_wp2_with fail
    go_ret
    exact ⟨_, _, _, rfl, Own.mono (own_madeD (xs := [_, _]) (by simp)) B1.size, gr⟩
set_option maxRecDepth 100000 in
set_option maxHeartbeats 4000000 in
theorem toReduced_any (x y e q : Int) (h1 : 2 ≤ q) (h2 : q ≤ 997) (h3 : 0 ≤ e) (w : World) : Calls Tryz.prog 77 #[.agg #[.int .i64 x, .int .i64 y, .int .i64 e], .int .i64 q] w (GivesOwn (rdL x y e q) w) := by
  have hq0 : (q == 0) = false := by simp; omega
  have hq1 : ¬ q = 0 := by omega
  unfold rdL
  by_cases h0 : e % q = 0
  · rw [if_pos h0]
    have h0' : (e % q == 0) = true := by simpa using h0
    clear h0
    go_enter Tryz.func77, Tryz.ntmps77
    go_wp2
    go_ret
    exact ⟨_, _, _, rfl, Own.nil _ _, gr⟩
  · rw [if_neg h0]
    have h0' : (e % q == 0) = false := by simpa using h0
    clear h0
    have HV := Lib.hid (fun w => mdInverse_any e q h1 (by omega) w)
    have HX := Lib.hid (fun w => mdMod_any x q (by omega) (by omega) w)
    have HY := Lib.hid (fun w => mdMod_any y q (by omega) (by omega) w)
    obtain ⟨i1, i2⟩ := pw_bd e (q - 2) h1
    obtain ⟨x1, x2⟩ := em_bd x h1
    obtain ⟨y1, y2⟩ := em_bd y h1
    generalize pw e (q - 2) q = i at *
    generalize hX : x % q = X at *
    generalize hY : y % q = Y at *
    clear hX hY
    obtain ⟨a1, a2⟩ := ml_bd x1 x2 i1 i2 (by omega)
    obtain ⟨a3, a4⟩ := em_bd (X * i) h1
    obtain ⟨a5, a6⟩ := ml_bd a3 a4 i1 i2 (by omega)
    obtain ⟨b1, b2⟩ := ml_bd y1 y2 i1 i2 (by omega)
    obtain ⟨b3, b4⟩ := em_bd (Y * i) h1
    obtain ⟨b5, b6⟩ := ml_bd b3 b4 i1 i2 (by omega)
    obtain ⟨b7, b8⟩ := em_bd (Y * i % q * i) h1
    obtain ⟨b9, b10⟩ := ml_bd b7 b8 i1 i2 (by omega)
    go_enter Tryz.func77, Tryz.ntmps77
    go_wp2_with fail
    refine (HV.out _).mono ?_; rintro e9 w1 ⟨rfl, hb⟩
    have X1 : Box w1 w.heap.size [.int .i64 x, .int .i64 y, .int .i64 e] := Box.below (box_three (by simp) (by simp [go_sem]) (by simp [go_sem]) (by simp [go_sem]) (fun o => by simp [go_sem])) hb
    have B1 : Below w.heap.size w w1 := by repeat' (first | (with_reducible first | exact bq1 _ _ | assumption | refine bq2 ?_ ?_ _ | refine bq3 ?_ ?_ _ | refine bq4 ?_ | refine bq5 ?_ _) | (apply bthen2; (with_reducible assumption)) | go_size)
    have q0 := X1.2.1 0 _ rfl; have q1 := X1.2.1 1 _ rfl; have ql := X1.1; have hz := B1.size
    clear hb
    go_wp2_with fail
    refine (HX.out _).mono ?_; rintro e8 w8 ⟨rfl, rfl⟩
    go_wp2_with fail
    refine (HY.out _).mono ?_; rintro e8 w8 ⟨rfl, rfl⟩
    go_wp2
    go_ret
    exact ⟨_, _, _, rfl, Own.mono (own_madeG (xs := [_, _]) (by simp)) B1.size, gr⟩
noncomputable def rpOk (a b x y e q : Int) : Bool := ptB a b x y e && gdB a b q
noncomputable def rpL (a b x y e q : Int) : List Int := if rpOk a b x y e q then rdL x y e q else []
theorem rp_f {a b x y e q : Int} (h : rpOk a b x y e q = false) : rpL a b x y e q = [] := by unfold rpL; rw [h]; rfl
theorem rp_t {a b x y e q : Int} (h : rpOk a b x y e q = true) : rpL a b x y e q = rdL x y e q := by unfold rpL; rw [h]; rfl
theorem ptB_e {a b x y e : Int} (h : ptB a b x y e = true) : 0 ≤ e := by
  unfold ptB at h
  rw [Bool.and_eq_true, Bool.or_eq_true] at h
  rcases h.2 with g | g
  · have := of_decide_eq_true g; omega
  · rw [Bool.and_eq_true, Bool.and_eq_true, Bool.and_eq_true] at g
    have := inB_iff.1 g.1.1.2
    omega
set_option maxRecDepth 100000 in
set_option maxHeartbeats 4000000 in
theorem ReducePoint_any (a b x y e q : Int) (w : World) : Calls Tryz.prog 31 #[.agg #[.int .i64 a, .int .i64 b], .agg #[.int .i64 x, .int .i64 y, .int .i64 e], .int .i64 q] w (GivesIG (rpL a b x y e q) (rpOk a b x y e q) w) := by
  have HP := Lib.hid (fun w => isPoint_any a b x y e w)
  have HG := Lib.hid (fun w => isGood_any a b q w)
  cases hp : ptB a b x y e with
  | false =>
    have hk : rpOk a b x y e q = false := by unfold rpOk; rw [hp]; rfl
    rw [rp_f hk, hk]; rw [hp] at HP; clear hp hk HG
    go_enter Tryz.func31, Tryz.ntmps31
    go_wp2_with (go_at_call 50; refine (HP.out _).mono ?_; rintro e w1 ⟨rfl, hb⟩; have hz := hb.size; (try simp only [wz1, wz2, wz3, wz4] at hz); try (refine keepc hb (w.heap.size) ?_ ?_; (focus (first | omega | (simp <;> omega))); intro hc0 hf0 hl0); try (refine keepc hb (w.heap.size + 1) ?_ ?_; (focus (first | omega | (simp <;> omega))); intro hc1 hf1 hl1); try (refine keepc hb (w.heap.size + 1 + 1) ?_ ?_; (focus (first | omega | (simp <;> omega))); intro hc2 hf2 hl2))
    go_ret2
    exact ⟨_, _, _, rfl, Own.nil _ _, gr⟩
  | true =>
    cases hg : gdB a b q with
    | false =>
      have hk : rpOk a b x y e q = false := by unfold rpOk; rw [hp, hg]; rfl
      rw [rp_f hk, hk]; rw [hp] at HP; rw [hg] at HG; clear hp hk hg
      go_enter Tryz.func31, Tryz.ntmps31
      go_wp2_with (first | (go_at_call 50; refine (HP.out _).mono ?_; rintro e w1 ⟨rfl, hb⟩; have hz := hb.size; (try simp only [wz1, wz2, wz3, wz4] at hz); try (refine keepc hb (w.heap.size) ?_ ?_; (focus (first | omega | (simp <;> omega))); intro hc0 hf0 hl0); try (refine keepc hb (w.heap.size + 1) ?_ ?_; (focus (first | omega | (simp <;> omega))); intro hc1 hf1 hl1); try (refine keepc hb (w.heap.size + 1 + 1) ?_ ?_; (focus (first | omega | (simp <;> omega))); intro hc2 hf2 hl2)) | (go_at_call 71; refine (HG.out _).mono ?_; rintro e w1 ⟨rfl, hb⟩; have hz := hb.size; (try simp only [wz1, wz2, wz3, wz4] at hz); try (refine keepc hb (w.heap.size) ?_ ?_; (focus (first | omega | (simp <;> omega))); intro hc0 hf0 hl0); try (refine keepc hb (w.heap.size + 1) ?_ ?_; (focus (first | omega | (simp <;> omega))); intro hc1 hf1 hl1); try (refine keepc hb (w.heap.size + 1 + 1) ?_ ?_; (focus (first | omega | (simp <;> omega))); intro hc2 hf2 hl2)))
      go_ret2
      exact ⟨_, _, _, rfl, Own.nil _ _, gr⟩
    | true =>
      have hk : rpOk a b x y e q = true := by unfold rpOk; rw [hp, hg]; rfl
      have hq := gdB_iff.1 hg
      have HR := Lib.hid (fun w => reducePoint_any x y e q (by omega) hq.2.1 (ptB_e hp) w)
      rw [rp_t hk, hk]; rw [hp] at HP; rw [hg] at HG; clear hp hk hg hq
      generalize rdL x y e q = L at *
      go_enter Tryz.func31, Tryz.ntmps31
      go_wp2_with (first | (go_at_call 50; refine (HP.out _).mono ?_; rintro e w1 ⟨rfl, hb⟩; have hz := hb.size; (try simp only [wz1, wz2, wz3, wz4] at hz); try (refine keepc hb (w.heap.size) ?_ ?_; (focus (first | omega | (simp <;> omega))); intro hc0 hf0 hl0); try (refine keepc hb (w.heap.size + 1) ?_ ?_; (focus (first | omega | (simp <;> omega))); intro hc1 hf1 hl1); try (refine keepc hb (w.heap.size + 1 + 1) ?_ ?_; (focus (first | omega | (simp <;> omega))); intro hc2 hf2 hl2)) | (go_at_call 71; refine (HG.out _).mono ?_; rintro e wb ⟨rfl, hbb⟩; have hzb := hbb.size; (try simp only [wz1, wz2, wz3, wz4] at hzb); try (refine keepc hbb (w.heap.size) ?_ ?_; (focus (first | omega | (simp <;> omega))); intro hcb_0 hfb_0 hlb_0); try (refine keepc hbb (w.heap.size + 1) ?_ ?_; (focus (first | omega | (simp <;> omega))); intro hcb_1 hfb_1 hlb_1); try (refine keepc hbb (w.heap.size + 1 + 1) ?_ ?_; (focus (first | omega | (simp <;> omega))); intro hcb_2 hfb_2 hlb_2)) | (go_at_call 74; refine (HR.out _).mono ?_; rintro e9 w3 ⟨sa, sl, sc, rfl, hown, hb3⟩))
      go_ret2
      exact ⟨_, _, _, rfl, hown.mono (by have := hbb.size; have := hb.size; simp at *; omega), gr⟩
set_option maxRecDepth 100000 in
set_option maxHeartbeats 4000000 in
theorem sReducePoint_any (a b x y e q : Int) (w : World) : Calls Tryz.prog 32 #[.agg #[.int .i64 a, .int .i64 b], .agg #[.int .i64 x, .int .i64 y, .int .i64 e], .int .i64 q] w (GivesIG (rpL a b x y e q) (rpOk a b x y e q) w) := by
  have HP := Lib.hid (fun w => IsPointOf_any a b x y e w)
  have HG := Lib.hid (fun w => fmGood_any a b q w)
  cases hp : ptB a b x y e with
  | false =>
    have hk : rpOk a b x y e q = false := by unfold rpOk; rw [hp]; rfl
    rw [rp_f hk, hk]; rw [hp] at HP; clear hp hk HG
    go_enter Tryz.func32, Tryz.ntmps32
    go_wp2_with (go_at_call 75; refine (HP.out _).mono ?_; rintro e w1 ⟨rfl, hb⟩; have hz := hb.size; (try simp only [wz1, wz2, wz3, wz4] at hz); try (refine keepc hb (w.heap.size) ?_ ?_; (focus (first | omega | (simp <;> omega))); intro hc0 hf0 hl0); try (refine keepc hb (w.heap.size + 1) ?_ ?_; (focus (first | omega | (simp <;> omega))); intro hc1 hf1 hl1); try (refine keepc hb (w.heap.size + 1 + 1) ?_ ?_; (focus (first | omega | (simp <;> omega))); intro hc2 hf2 hl2))
    go_ret2
    exact ⟨_, _, _, rfl, Own.nil _ _, gr⟩
  | true =>
    have hC : isC a b = true := by unfold ptB at hp; rw [Bool.and_eq_true] at hp; exact hp.1
    rw [hC] at HG; simp only [Bool.true_and] at HG; clear hC
    cases hg : gdB a b q with
    | false =>
      have hk : rpOk a b x y e q = false := by unfold rpOk; rw [hp, hg]; rfl
      rw [rp_f hk, hk]; rw [hp] at HP; rw [hg] at HG; clear hp hk hg
      go_enter Tryz.func32, Tryz.ntmps32
      go_wp2_with (first | (go_at_call 75; refine (HP.out _).mono ?_; rintro e w1 ⟨rfl, hb⟩; have hz := hb.size; (try simp only [wz1, wz2, wz3, wz4] at hz); try (refine keepc hb (w.heap.size) ?_ ?_; (focus (first | omega | (simp <;> omega))); intro hc0 hf0 hl0); try (refine keepc hb (w.heap.size + 1) ?_ ?_; (focus (first | omega | (simp <;> omega))); intro hc1 hf1 hl1); try (refine keepc hb (w.heap.size + 1 + 1) ?_ ?_; (focus (first | omega | (simp <;> omega))); intro hc2 hf2 hl2)) | (go_at_call 76; refine (HG.out _).mono ?_; rintro e w1 ⟨rfl, hb⟩; have hz := hb.size; (try simp only [wz1, wz2, wz3, wz4] at hz); try (refine keepc hb (w.heap.size) ?_ ?_; (focus (first | omega | (simp <;> omega))); intro hc0 hf0 hl0); try (refine keepc hb (w.heap.size + 1) ?_ ?_; (focus (first | omega | (simp <;> omega))); intro hc1 hf1 hl1); try (refine keepc hb (w.heap.size + 1 + 1) ?_ ?_; (focus (first | omega | (simp <;> omega))); intro hc2 hf2 hl2)))
      go_ret2
      exact ⟨_, _, _, rfl, Own.nil _ _, gr⟩
    | true =>
      have hk : rpOk a b x y e q = true := by unfold rpOk; rw [hp, hg]; rfl
      have hq := gdB_iff.1 hg
      have HR := Lib.hid (fun w => toReduced_any x y e q (by omega) hq.2.1 (ptB_e hp) w)
      rw [rp_t hk, hk]; rw [hp] at HP; rw [hg] at HG; clear hp hk hg hq
      generalize rdL x y e q = L at *
      go_enter Tryz.func32, Tryz.ntmps32
      go_wp2_with (first | (go_at_call 75; refine (HP.out _).mono ?_; rintro e w1 ⟨rfl, hb⟩; have hz := hb.size; (try simp only [wz1, wz2, wz3, wz4] at hz); try (refine keepc hb (w.heap.size) ?_ ?_; (focus (first | omega | (simp <;> omega))); intro hc0 hf0 hl0); try (refine keepc hb (w.heap.size + 1) ?_ ?_; (focus (first | omega | (simp <;> omega))); intro hc1 hf1 hl1); try (refine keepc hb (w.heap.size + 1 + 1) ?_ ?_; (focus (first | omega | (simp <;> omega))); intro hc2 hf2 hl2)) | (go_at_call 76; refine (HG.out _).mono ?_; rintro e wb ⟨rfl, hbb⟩; have hzb := hbb.size; (try simp only [wz1, wz2, wz3, wz4] at hzb); try (refine keepc hbb (w.heap.size) ?_ ?_; (focus (first | omega | (simp <;> omega))); intro hcb_0 hfb_0 hlb_0); try (refine keepc hbb (w.heap.size + 1) ?_ ?_; (focus (first | omega | (simp <;> omega))); intro hcb_1 hfb_1 hlb_1); try (refine keepc hbb (w.heap.size + 1 + 1) ?_ ?_; (focus (first | omega | (simp <;> omega))); intro hcb_2 hfb_2 hlb_2)) | (go_at_call 77; refine (HR.out _).mono ?_; rintro e9 w3 ⟨sa, sl, sc, rfl, hown, hb3⟩))
      go_ret2
      exact ⟨_, _, _, rfl, hown.mono (by have := hbb.size; have := hb.size; simp at *; omega), gr⟩
theorem fieldFits_t {a b q : Int} (hC : isC a b = true) (h1 : q ≤ 199) (hg : gdB a b q = true) (w : World) : Calls Tryz.prog 78 #[.agg #[.int .i64 a, .int .i64 b], .int .i64 q] w (Gives (.bool true) w) := by
  have HC := Lib.hid (fun w => isCurve_any a b w)
  have HG := Lib.hid (fun w => isGood_any a b q w)
  rw [hC] at HC; rw [hg] at HG; clear hC hg
  go_enter Tryz.func78, Tryz.ntmps78
  go_wp2_with (first | (go_at_call 42; refine (HC.out _).mono ?_; rintro e w1 ⟨rfl, hb⟩; have hz := hb.size; (try simp only [wz1, wz2, wz3, wz4] at hz); try (refine keepc hb (w.heap.size) ?_ ?_; (focus (first | omega | (simp <;> omega))); intro hc0 hf0 hl0); try (refine keepc hb (w.heap.size + 1) ?_ ?_; (focus (first | omega | (simp <;> omega))); intro hc1 hf1 hl1); try (refine keepc hb (w.heap.size + 1 + 1) ?_ ?_; (focus (first | omega | (simp <;> omega))); intro hc2 hf2 hl2)) | (go_at_call 71; refine (HG.out _).mono ?_; rintro e wb ⟨rfl, hbb⟩; have hzb := hbb.size; (try simp only [wz1, wz2, wz3, wz4] at hzb); try (refine keepc hbb (w.heap.size) ?_ ?_; (focus (first | omega | (simp <;> omega))); intro hcb_0 hfb_0 hlb_0); try (refine keepc hbb (w.heap.size + 1) ?_ ?_; (focus (first | omega | (simp <;> omega))); intro hcb_1 hfb_1 hlb_1); try (refine keepc hbb (w.heap.size + 1 + 1) ?_ ?_; (focus (first | omega | (simp <;> omega))); intro hcb_2 hfb_2 hlb_2)))
  go_ret
  exact gives rfl gr
/-- The list is a point modulo q. -/
def OnF (a b q : Int) (L : List Int) : Prop := L = [] ∨ ∃ x y, L = [x, y] ∧ 0 ≤ x ∧ x < q ∧ 0 ≤ y ∧ y < q ∧ y * y % q = fv a b q x
theorem sOF {W : World} {B g off : Nat} {a b x y : Int} (X : Box W B [.int .i64 a, .int .i64 b]) (hg : g < W.heap.size) (c0 : W.cell? ⟨g, off, none⟩ = some (.int .i64 x)) (c1 : W.cell? ⟨g, off + 1, none⟩ = some (.int .i64 y)) :
    ∀ w', Below W.heap.size W w' → w'.cell? ⟨B, 0, none⟩ = some (.int .i64 a) ∧ w'.cell? ⟨B, 1, none⟩ = some (.int .i64 b) ∧ w'.cell? ⟨g, off, none⟩ = some (.int .i64 x) ∧ w'.cell? ⟨g, off + 1, none⟩ = some (.int .i64 y) := by
  intro w' h
  have Y := X.below h
  exact ⟨Y.2.1 0 _ rfl, Y.2.1 1 _ rfl, (h.cell (p := ⟨g, off, none⟩) hg).trans c0, (h.cell (p := ⟨g, off + 1, none⟩) hg).trans c1⟩
set_option maxRecDepth 100000 in
set_option maxHeartbeats 4000000 in
theorem onField_t (a b q : Int) (L : List Int) (s : Value) (hC : isC a b = true) (hL : OnF a b q L) (h1 : 2 ≤ q) (h2 : q ≤ 997) (w : World) (hx : Ints w s L) : Calls Tryz.prog 79 #[.agg #[.int .i64 a, .int .i64 b], .int .i64 q, s] w (Gives (.bool true) w) := by
  obtain ⟨a1, a2, b1, b2⟩ := isC_bd hC
  clear hC
  rcases hL with rfl | ⟨x, y, rfl, x1, x2, y1, y2, hon⟩
  · rcases hx with ⟨ad, cap, rfl, -⟩ | ⟨g, off, len, cap, rfl, hl, h0, -⟩
    · go_enter Tryz.func79, Tryz.ntmps79
      go_wp2
      go_ret
      exact gives rfl gr
    · simp at hl; omega
  · rcases hx with ⟨ad, cap, rfl, hh⟩ | ⟨g, off, len, cap, rfl, hl, h0, hc, hm, hbl, hcell⟩
    · cases hh
    · simp only [List.length_cons, List.length_nil, Nat.zero_add] at hl
      subst hl
      have c0 := hcell 0 (by omega)
      have c1 := hcell 1 (by omega)
      simp only [List.getD_cons_zero, List.getD_cons_succ, Nat.add_zero] at c0 c1
      clear hcell
      have HR := Lib.hid (fun w => rightSide_any a b q x a1 a2 b1 b2 x1 x2 h2 w)
      have HX := Lib.hid (fun w => inside_any x 0 (q - 1) w)
      have HY := Lib.hid (fun w => inside_any y 0 (q - 1) w)
      rw [inB_t x1 (by omega)] at HX; rw [inB_t y1 (by omega)] at HY
      rw [← hon] at HR
      obtain ⟨m1, m2⟩ := ml_bd y1 y2 y1 y2 (by omega)
      have kq : IntKind.i64.wrap (q - 1) = q - 1 := IntWalk.i64_in _ (by omega)
      have km := wtm (q := q) m1 m2
      have kb : (y * y % q == y * y % q) = true := by simp
      clear hon
      generalize y * y % q = V at *
      have hq0 : (q == 0) = false := by simp; omega
      have hq1 : ¬ q = 0 := by omega
      go_enter Tryz.func79, Tryz.ntmps79
      go_wp2
      refine name_world (fun W hW => ?_)
      have X0 : Box W w.heap.size [.int .i64 a, .int .i64 b] := by subst hW; exact box_two (by simp) (by simp [go_sem]) (by simp [go_sem]) (fun o => by simp [go_sem])
      have B0 : Below w.heap.size w W := by subst hW; repeat' (first | (with_reducible first | exact bq1 _ _ | assumption | refine bq2 ?_ ?_ _ | refine bq3 ?_ ?_ _ | refine bq4 ?_ | refine bq5 ?_ _) | (apply bthen2; (with_reducible assumption)) | go_size)
      have HSB := Lib.hid (sOF X0 (g := g) (Nat.lt_of_lt_of_le hbl B0.size) ((B0.cell (p := ⟨g, off, none⟩) hbl).trans c0) ((B0.cell (p := ⟨g, off + 1, none⟩) hbl).trans c1))
      have ql := X0.1
      clear hW c0 c1 X0
      have tok1 := True.intro
      refine wp_region_x (fun w' => w'.cell? ⟨w.heap.size, 0, none⟩ = some (.int .i64 a) ∧ w'.cell? ⟨w.heap.size, 1, none⟩ = some (.int .i64 b) ∧ w'.cell? ⟨g, off, none⟩ = some (.int .i64 x) ∧ w'.cell? ⟨g, off + 1, none⟩ = some (.int .i64 y)) (fun i => decide (i < 38)) (by kernel_rfl) ?_ (fun hHeld => ?_)
      focus ((try dsimp only); (exact HSB.out _ gr))
      refine wtk (v := ?_) 0 rfl ?_ (by assumption) ?_
      rotate_left
      focus (intro w hSw; (try dsimp only at hSw); go_simp; (try with_reducible rfl))
      (try simp only [Act.put, wz5, wz6, wz7])
      refine wtk (v := ?_) 1 rfl ?_ (by assumption) ?_
      rotate_left
      focus (intro w hSw; (try dsimp only at hSw); go_simp; (try with_reducible rfl))
      (try simp only [Act.put, wz5, wz6, wz7])
      refine wtk (v := ?_) 2 rfl ?_ (by assumption) ?_
      rotate_left
      focus (intro w hSw; (try dsimp only at hSw); go_simp; (try with_reducible rfl))
      (try simp only [Act.put, wz5, wz6, wz7])
      refine wtk (v := ?_) 3 rfl ?_ (by assumption) ?_
      rotate_left
      focus (intro w hSw; (try dsimp only at hSw); go_simp; (try with_reducible rfl))
      (try simp only [Act.put, wz5, wz6, wz7])
      refine wtk (v := ?_) 4 rfl ?_ (by assumption) ?_
      rotate_left
      focus (intro w hSw; (try dsimp only at hSw); go_simp; (try with_reducible rfl))
      (try simp only [Act.put, wz5, wz6, wz7])
      refine wtk (v := ?_) 5 rfl ?_ (by assumption) ?_
      rotate_left
      focus (intro w hSw; (try dsimp only at hSw); go_simp; (try with_reducible rfl))
      (try simp only [Act.put, wz5, wz6, wz7])
      refine wtk (v := ?_) 6 rfl ?_ (by assumption) ?_
      rotate_left
      focus (intro w hSw; (try dsimp only at hSw); go_simp; (try with_reducible rfl))
      (try simp only [Act.put, wz5, wz6, wz7])
      refine wtk (v := ?_) 7 rfl ?_ (by assumption) ?_
      rotate_left
      focus (intro w hSw; (try dsimp only at hSw); go_simp; (try with_reducible rfl))
      (try simp only [Act.put, wz5, wz6, wz7])
      refine wtk (v := ?_) 8 rfl ?_ (by assumption) ?_
      rotate_left
      focus (intro w hSw; (try dsimp only at hSw); go_simp; (try with_reducible rfl))
      (try simp only [Act.put, wz5, wz6, wz7])
      refine wpAnyX_one 9 rfl (by kernel_rfl) (fun K hK => ?_)
      go_simp
      (go_at_call 52; clear tok1; (try simp only [kq]); refine (HX.out _).mono ?_; rintro e8 w8 ⟨rfl, rfl⟩)
      go_wp2_with fail
      clear hHeld
      refine hK.out _ _ ?_ (fun hHeld => ?_)
      focus ((try dsimp only); (exact HSB.out _ gr))
      clear hK K
      (try simp only [Act.put, wz5, wz6, wz7])
      refine wtk (v := ?_) 10 rfl ?_ (by assumption) ?_
      rotate_left
      focus (intro w hSw; (try dsimp only at hSw); go_simp; (try with_reducible rfl))
      (try simp only [Act.put, wz5, wz6, wz7])
      refine wtk (v := ?_) 11 rfl ?_ (by assumption) ?_
      rotate_left
      focus (intro w hSw; (try dsimp only at hSw); go_simp; (try with_reducible rfl))
      (try simp only [Act.put, wz5, wz6, wz7])
      refine wtk (v := ?_) 12 rfl ?_ (by assumption) ?_
      rotate_left
      focus (intro w hSw; (try dsimp only at hSw); go_simp; (try with_reducible rfl))
      (try simp only [Act.put, wz5, wz6, wz7])
      refine wtk (v := ?_) 13 rfl ?_ (by assumption) ?_
      rotate_left
      focus (intro w hSw; (try dsimp only at hSw); go_simp; (try with_reducible rfl))
      (try simp only [Act.put, wz5, wz6, wz7])
      refine wtk (v := ?_) 14 rfl ?_ (by assumption) ?_
      rotate_left
      focus (intro w hSw; (try dsimp only at hSw); go_simp; (try with_reducible rfl))
      (try simp only [Act.put, wz5, wz6, wz7])
      refine wtk (v := ?_) 15 rfl ?_ (by assumption) ?_
      rotate_left
      focus (intro w hSw; (try dsimp only at hSw); go_simp; (try with_reducible rfl))
      (try simp only [Act.put, wz5, wz6, wz7])
      refine wtk (v := ?_) 16 rfl ?_ (by assumption) ?_
      rotate_left
      focus (intro w hSw; (try dsimp only at hSw); go_simp; (try with_reducible rfl))
      (try simp only [Act.put, wz5, wz6, wz7])
      refine wpAnyX_one 17 rfl (by kernel_rfl) (fun K hK => ?_)
      go_simp
      (go_at_call 52; (try simp only [kq]); refine (HY.out _).mono ?_; rintro e8 w8 ⟨rfl, rfl⟩)
      go_wp2_with fail
      clear hHeld
      refine hK.out _ _ ?_ (fun hHeld => ?_)
      focus ((try dsimp only); (exact HSB.out _ gr))
      clear hK K
      (try simp only [Act.put, wz5, wz6, wz7])
      refine wtk (v := ?_) 18 rfl ?_ (by assumption) ?_
      rotate_left
      focus (intro w hSw; (try dsimp only at hSw); go_simp; (try with_reducible rfl))
      (try simp only [Act.put, wz5, wz6, wz7])
      refine wtk (v := ?_) 19 rfl ?_ (by assumption) ?_
      rotate_left
      focus (intro w hSw; (try dsimp only at hSw); go_simp; (try with_reducible rfl))
      (try simp only [Act.put, wz5, wz6, wz7])
      refine wtk (v := ?_) 20 rfl ?_ (by assumption) ?_
      rotate_left
      focus (intro w hSw; (try dsimp only at hSw); go_simp; (try with_reducible rfl))
      (try simp only [Act.put, wz5, wz6, wz7])
      refine wtk (v := ?_) 21 rfl ?_ (by assumption) ?_
      rotate_left
      focus (intro w hSw; (try dsimp only at hSw); go_simp; (try with_reducible rfl))
      (try simp only [Act.put, wz5, wz6, wz7])
      refine wtk (v := ?_) 22 rfl ?_ (by assumption) ?_
      rotate_left
      focus (intro w hSw; (try dsimp only at hSw); go_simp; (try with_reducible rfl))
      (try simp only [Act.put, wz5, wz6, wz7])
      refine wtk (v := ?_) 23 rfl ?_ (by assumption) ?_
      rotate_left
      focus (intro w hSw; (try dsimp only at hSw); go_simp; (try with_reducible rfl))
      (try simp only [Act.put, wz5, wz6, wz7])
      refine wtk (v := ?_) 24 rfl ?_ (by assumption) ?_
      rotate_left
      focus (intro w hSw; (try dsimp only at hSw); go_simp; (try with_reducible rfl))
      (try simp only [Act.put, wz5, wz6, wz7])
      refine wtk (v := ?_) 25 rfl ?_ (by assumption) ?_
      rotate_left
      focus (intro w hSw; (try dsimp only at hSw); go_simp; (try with_reducible rfl))
      (try simp only [Act.put, wz5, wz6, wz7])
      refine wtk (v := ?_) 26 rfl ?_ (by assumption) ?_
      rotate_left
      focus (intro w hSw; (try dsimp only at hSw); go_simp; (try with_reducible rfl))
      (try simp only [Act.put, wz5, wz6, wz7])
      refine wtk (v := ?_) 27 rfl ?_ (by assumption) ?_
      rotate_left
      focus (intro w hSw; (try dsimp only at hSw); go_simp; (try with_reducible rfl))
      (try simp only [Act.put, wz5, wz6, wz7])
      refine wtk (v := ?_) 28 rfl ?_ (by assumption) ?_
      rotate_left
      focus (intro w hSw; (try dsimp only at hSw); go_simp; (try with_reducible rfl))
      (try simp only [Act.put, wz5, wz6, wz7])
      refine wtk (v := ?_) 29 rfl ?_ (by assumption) ?_
      rotate_left
      focus (intro w hSw; (try dsimp only at hSw); go_simp; (try with_reducible rfl))
      (try simp only [Act.put, wz5, wz6, wz7])
      refine wtk (v := ?_) 30 rfl ?_ (by assumption) ?_
      rotate_left
      focus (intro w hSw; (try dsimp only at hSw); go_simp; (try with_reducible rfl))
      (try simp only [Act.put, wz5, wz6, wz7])
      refine wtk (v := ?_) 31 rfl ?_ (by assumption) ?_
      rotate_left
      focus (intro w hSw; (try dsimp only at hSw); go_simp; (try with_reducible rfl))
      (try simp only [Act.put, wz5, wz6, wz7])
      refine wtk (v := ?_) 32 rfl ?_ (by assumption) ?_
      rotate_left
      focus (intro w hSw; (try dsimp only at hSw); go_simp; (try with_reducible rfl))
      (try simp only [Act.put, wz5, wz6, wz7])
      refine wtk (v := ?_) 33 rfl ?_ (by assumption) ?_
      rotate_left
      focus (intro w hSw; (try dsimp only at hSw); go_simp; (try with_reducible rfl))
      (try simp only [Act.put, wz5, wz6, wz7])
      refine wpAnyX_one 34 rfl (by kernel_rfl) (fun K hK => ?_)
      go_simp
      (go_at_call 98; refine (HR.out _).mono ?_; rintro e8 w8 ⟨rfl, hb8⟩)
      go_wp2_with fail
      clear hHeld
      refine hK.out _ _ ?_ (fun hHeld => ?_)
      focus ((try dsimp only); (exact HSB.out _ gr))
      clear hK K
      (try simp only [Act.put, wz5, wz6, wz7])
      refine wtk (v := ?_) 35 rfl ?_ (by assumption) ?_
      rotate_left
      focus (intro w hSw; (try dsimp only at hSw); go_simp; (try with_reducible rfl))
      (try simp only [Act.put, wz5, wz6, wz7])
      refine wtk (v := ?_) 36 rfl ?_ (by assumption) ?_
      rotate_left
      focus (intro w hSw; (try dsimp only at hSw); go_simp; (try with_reducible rfl))
      (try simp only [Act.put, wz5, wz6, wz7])
      refine wtk (v := ?_) 37 rfl ?_ (by assumption) ?_
      rotate_left
      focus (intro w hSw; (try dsimp only at hSw); go_simp; (try with_reducible rfl))
      (try simp only [Act.put, wz5, wz6, wz7])
      refine wpAnyX_done (by kernel_rfl) ?_ _
      refine NoPanic.normal ?_
      clear hHeld
      go_wp2_with fail
      go_ret
      exact gives rfl gr
set_option maxHeartbeats 2000000 in
theorem IsPointModulo_t (a b q : Int) (L : List Int) (sa : Option Addr) (sl sc : Nat) (hC : isC a b = true) (h1 : q ≤ 199) (hg : gdB a b q = true) (hL : OnF a b q L) (w : World) (hx : Ints w (.slice sa sl sc) L) : Calls Tryz.prog 33 #[.agg #[.int .i64 a, .int .i64 b], .int .i64 q, .slice sa sl sc] w (Gives (.tuple #[.bool true, .bool true]) w) := by
  have h5 := (gdB_iff.1 hg).1
  have HF := Lib.hid (fun w => fieldFits_t hC h1 hg w)
  have HO := Lib.hid (fun w hx => onField_t a b q L (.slice sa sl sc) hC hL (by omega) (by omega) w hx)
  clear hC hg hL h5
  go_enter Tryz.func33, Tryz.ntmps33
  go_wp2_with (first | (go_at_call 78; refine (HF.out _).mono ?_; rintro e w1 ⟨rfl, hb⟩; have hz := hb.size; (try simp only [wz1, wz2, wz3, wz4] at hz); try (refine keepc hb (w.heap.size) ?_ ?_; (focus (first | omega | (simp <;> omega))); intro hc0 hf0 hl0); try (refine keepc hb (w.heap.size + 1) ?_ ?_; (focus (first | omega | (simp <;> omega))); intro hc1 hf1 hl1); try (refine keepc hb (w.heap.size + 1 + 1) ?_ ?_; (focus (first | omega | (simp <;> omega))); intro hc2 hf2 hl2)) | (go_at_call 79; refine (HO.out _ (Ints.below hx gr)).mono ?_; rintro e9 w3 ⟨rfl, hb3⟩))
  go_ret2
  exact gives rfl gr
/-- The double of a point modulo q. -/
def dbL (a q : Int) : List Int → List Int
  | [x, y] => if (y + y) % q = 0 then [] else
      [((3 * x * x + a) % q * pw (2 * y) (q - 2) q % q * ((3 * x * x + a) % q * pw (2 * y) (q - 2) q % q) - x - x) % q,
       ((3 * x * x + a) % q * pw (2 * y) (q - 2) q % q * (x - ((3 * x * x + a) % q * pw (2 * y) (q - 2) q % q * ((3 * x * x + a) % q * pw (2 * y) (q - 2) q % q) - x - x) % q) - y) % q]
  | _ => []
theorem dbL_z {a q x y : Int} (h : (y + y) % q = 0) : dbL a q [x, y] = [] := by simp only [dbL, if_pos h]
theorem dbL_n {a q x y : Int} (h : ¬ (y + y) % q = 0) : dbL a q [x, y] = [((3 * x * x + a) % q * pw (2 * y) (q - 2) q % q * ((3 * x * x + a) % q * pw (2 * y) (q - 2) q % q) - x - x) % q,
       ((3 * x * x + a) % q * pw (2 * y) (q - 2) q % q * (x - ((3 * x * x + a) % q * pw (2 * y) (q - 2) q % q * ((3 * x * x + a) % q * pw (2 * y) (q - 2) q % q) - x - x) % q) - y) % q] := by simp only [dbL, if_neg h]
set_option maxRecDepth 100000 in
set_option maxHeartbeats 2000000 in
theorem addModulo_t (a b q : Int) (L : List Int) (sa : Option Addr) (sl sc : Nat) (hC : isC a b = true) (hL : OnF a b q L) (h1 : 2 ≤ q) (h2 : q ≤ 997) (w : World) (hx : Ints w (.slice sa sl sc) L) : Calls Tryz.prog 82 #[.agg #[.int .i64 a, .int .i64 b], .int .i64 q, .slice sa sl sc, .slice sa sl sc] w (GivesOwn (dbL a q L) w) := by
  obtain ⟨a1, a2, b1, b2⟩ := isC_bd hC
  clear hC
  rcases hL with rfl | ⟨x, y, rfl, x1, x2, y1, y2, -⟩
  · rcases hx with ⟨ad, cap, hv, -⟩ | ⟨g, off, len, cap, hv, hl, h0, -⟩
    · obtain ⟨rfl, rfl, rfl⟩ := by simpa using hv
      have HK := Lib.hid (fun w => clone_any sa 0 sc [] w (.inl ⟨sa, sc, rfl, rfl⟩) (by simp))
      show Calls Tryz.prog 82 _ _ (GivesOwn [] w)
      go_enter Tryz.func82, Tryz.ntmps82
      go_wp2_with (first | (go_at_call 124; refine (HK.out _).mono ?_; rintro e9 w3 ⟨ra, rl, rc, rfl, hown, hb3⟩))
      go_ret
      exact ⟨_, _, _, rfl, hown.mono (by simp), gr⟩
    · simp at hl; omega
  · rcases hx with ⟨ad, cap, -, hh⟩ | ⟨g, off, len, cap, hv, hl, h0, hc, hm, hbl, hcell⟩
    · cases hh
    · obtain ⟨rfl, rfl, rfl⟩ := by simpa using hv
      clear hv
      simp only [List.length_cons, List.length_nil, Nat.zero_add, Nat.reduceAdd] at hl
      subst hl
      have c0 := hcell 0 (by omega)
      have c1 := hcell 1 (by omega)
      simp only [List.getD_cons_zero, List.getD_cons_succ, Nat.add_zero] at c0 c1
      clear hcell
      have hq0 : (q == 0) = false := by simp; omega
      have hq1 : ¬ q = 0 := by omega
      have kx : (x == x) = true := by simp
      have s0 : 0 ≤ y + y := by omega
      have s1 : y + y ≤ 2000 := by omega
      by_cases hz : (y + y) % q = 0
      · rw [dbL_z hz]
        have hz' : ((y + y) % q == 0) = true := by simpa using hz
        clear hz
        go_enter Tryz.func82, Tryz.ntmps82
        go_wp2
        go_quiet (fail)
        go_wp2
        go_ret
        exact ⟨_, _, _, rfl, Own.nil _ _, gr⟩
      · rw [dbL_n hz]
        have hz' : ((y + y) % q == 0) = false := by simpa using hz
        clear hz
        obtain ⟨m1, m2⟩ := ml_bd x1 x2 x1 x2 (by omega)
        have m3 : 0 ≤ 3 * x * x ∧ 3 * x * x ≤ 3000000 := by
          have : 3 * x * x = 3 * (x * x) := by grind
          omega
        obtain ⟨m4, m5⟩ := m3
        have HN := Lib.hid (fun w => modulo_any (3 * x * x + a) q (by omega) (by omega) w)
        have HV := Lib.hid (fun w => inverse_any (2 * y) q h1 (by omega) w)
        obtain ⟨n1, n2⟩ := em_bd (3 * x * x + a) h1
        obtain ⟨i1, i2⟩ := pw_bd (2 * y) (q - 2) h1
        generalize hN : (3 * x * x + a) % q = N at *
        generalize hI : pw (2 * y) (q - 2) q = I at *
        clear hN hI
        obtain ⟨t1, t2⟩ := ml_bd n1 n2 i1 i2 (by omega)
        obtain ⟨t3, t4⟩ := em_bd (N * I) h1
        generalize hM : N * I % q = M at *
        have HM := Lib.hid hM; clear hM
        obtain ⟨u1, u2⟩ := ml_bd t3 t4 t3 t4 (by omega)
        have HX := Lib.hid (fun w => modulo_any (M * M - x - x) q (by omega) (by omega) w)
        obtain ⟨z1, z2⟩ := em_bd (M * M - x - x) h1
        generalize hX : (M * M - x - x) % q = X3 at *
        clear hX
        have v1 : M * (x - X3) ≤ 1000000 ∧ -1000000 ≤ M * (x - X3) := by
          have e1 : M * (x - X3) ≤ M * 1000 := Int.mul_le_mul_of_nonneg_left (by omega) t3
          have e2 : M * (-1000) ≤ M * (x - X3) := Int.mul_le_mul_of_nonneg_left (by omega) t3
          omega
        obtain ⟨v1, v2⟩ := v1
        have HY := Lib.hid (fun w => modulo_any (M * (x - X3) - y) q (by omega) (by omega) w)
        generalize hY : (M * (x - X3) - y) % q = Y3 at *
        clear hY
        go_enter Tryz.func82, Tryz.ntmps82
        go_wp2
        go_quiet (fail)
        go_wp2
        go_quiet (fail)
        go_wp2
        go_quiet (fail)
        go_wp2
        go_quiet (fail)
        go_wp2_with fail
        refine (HN.out _).mono ?_; rintro e8 w8 ⟨rfl, rfl⟩
        go_wp2_with fail
        refine (HV.out _).mono ?_; rintro e9 w1 ⟨rfl, hb⟩
        have B1 : Below w.heap.size w w1 := by repeat' (first | (with_reducible first | exact bq1 _ _ | assumption | refine bq2 ?_ ?_ _ | refine bq3 ?_ ?_ _ | refine bq4 ?_ | refine bq5 ?_ _) | (apply bthen2; (with_reducible assumption)) | go_size)
        replace c0 := (B1.cell (p := ⟨g, off, none⟩) hbl).trans c0
        replace c1 := (B1.cell (p := ⟨g, off + 1, none⟩) hbl).trans c1
        have hz := B1.size
        have hM := HM.out
        clear hb HM
        go_wp2
        simp only [hM]
        clear hM HN HV n1 n2 i1 i2 t1 t2
        go_quiet ((go_at_call 109; exact qs (HX.out _)))
        go_wp2
        refine name_world (fun W2 hW2 => ?_)
        have B2 : Below w.heap.size w W2 := by subst hW2; repeat' (first | (with_reducible first | exact bq1 _ _ | assumption | refine bq2 ?_ ?_ _ | refine bq3 ?_ ?_ _ | refine bq4 ?_ | refine bq5 ?_ _) | (apply bthen2; (with_reducible assumption)) | go_size)
        have hz2 := B2.size
        have B3 : Below w1.heap.size w1 W2 := by subst hW2; repeat' (first | (with_reducible first | exact bq1 _ _ | assumption | refine bq2 ?_ ?_ _ | refine bq3 ?_ ?_ _ | refine bq4 ?_ | refine bq5 ?_ _) | (apply bthen2; (with_reducible assumption)) | go_size)
        have hbl1 : g < w1.heap.size := by omega
        replace c0 := (B3.cell (p := ⟨g, off, none⟩) hbl1).trans c0
        replace c1 := (B3.cell (p := ⟨g, off + 1, none⟩) hbl1).trans c1
        have hbl2 : g < W2.heap.size := Nat.lt_of_lt_of_le hbl1 B3.size
        have HSB := Lib.hid (fun w' (h : Below W2.heap.size W2 w') => (⟨(h.cell (p := ⟨g, off, none⟩) hbl2).trans c0, (h.cell (p := ⟨g, off + 1, none⟩) hbl2).trans c1⟩ : w'.cell? ⟨g, off, none⟩ = some (.int .i64 x) ∧ w'.cell? ⟨g, off + 1, none⟩ = some (.int .i64 y)))
        have k1 : IntKind.i64.wrap (x - X3) = x - X3 := IntWalk.i64_in _ (by omega)
        have k2 : IntKind.i64.wrap (M * (x - X3)) = M * (x - X3) := IntWalk.i64_in _ (by omega)
        have k3 : IntKind.i64.wrap (M * (x - X3) - y) = M * (x - X3) - y := IntWalk.i64_in _ (by omega)
        clear hW2 B3 c0 c1 hz HX
        refine wp_region_x (fun w' => w'.cell? ⟨g, off, none⟩ = some (.int .i64 x) ∧ w'.cell? ⟨g, off + 1, none⟩ = some (.int .i64 y)) (fun i => decide (i < 16)) (by kernel_rfl) ?_ (fun hHeld => ?_)
        focus ((try dsimp only); (exact HSB.out _ gr))
        refine wtk (v := ?_) 0 rfl ?_ (by assumption) ?_
        rotate_left
        focus (intro w hSw; (try dsimp only at hSw); go_simp; (try with_reducible rfl))
        (try simp only [Act.put, wz5, wz6, wz7])
        refine wtk (v := ?_) 1 rfl ?_ (by assumption) ?_
        rotate_left
        focus (intro w hSw; (try dsimp only at hSw); go_simp; (try with_reducible rfl))
        (try simp only [Act.put, wz5, wz6, wz7])
        refine wtk (v := ?_) 2 rfl ?_ (by assumption) ?_
        rotate_left
        focus (intro w hSw; (try dsimp only at hSw); go_simp; (try with_reducible rfl))
        (try simp only [Act.put, wz5, wz6, wz7])
        refine wtk (v := ?_) 3 rfl ?_ (by assumption) ?_
        rotate_left
        focus (intro w hSw; (try dsimp only at hSw); go_simp; (try with_reducible rfl))
        (try simp only [Act.put, wz5, wz6, wz7])
        refine wtk (v := ?_) 4 rfl ?_ (by assumption) ?_
        rotate_left
        focus (intro w hSw; (try dsimp only at hSw); go_simp; (try with_reducible rfl))
        (try simp only [Act.put, wz5, wz6, wz7])
        refine wtk (v := ?_) 5 rfl ?_ (by assumption) ?_
        rotate_left
        focus (intro w hSw; (try dsimp only at hSw); go_simp; (try with_reducible rfl))
        (try simp only [Act.put, wz5, wz6, wz7])
        refine wtk (v := ?_) 6 rfl ?_ (by assumption) ?_
        rotate_left
        focus (intro w hSw; (try dsimp only at hSw); go_simp; (try with_reducible rfl))
        (try simp only [Act.put, wz5, wz6, wz7])
        refine wtk (v := ?_) 7 rfl ?_ (by assumption) ?_
        rotate_left
        focus (intro w hSw; (try dsimp only at hSw); go_simp; (try with_reducible rfl))
        (try simp only [Act.put, wz5, wz6, wz7])
        refine wtk (v := ?_) 8 rfl ?_ (by assumption) ?_
        rotate_left
        focus (intro w hSw; (try dsimp only at hSw); go_simp; (try with_reducible rfl))
        (try simp only [Act.put, wz5, wz6, wz7])
        refine wtk (v := ?_) 9 rfl ?_ (by assumption) ?_
        rotate_left
        focus (intro w hSw; (try dsimp only at hSw); go_simp; (try with_reducible rfl))
        (try simp only [Act.put, wz5, wz6, wz7])
        refine wtk (v := ?_) 10 rfl ?_ (by assumption) ?_
        rotate_left
        focus (intro w hSw; (try dsimp only at hSw); go_simp; (try with_reducible rfl))
        (try simp only [Act.put, wz5, wz6, wz7])
        refine wtk (v := ?_) 11 rfl ?_ (by assumption) ?_
        rotate_left
        focus (intro w hSw; (try dsimp only at hSw); go_simp; (try with_reducible rfl))
        (try simp only [Act.put, wz5, wz6, wz7])
        refine wtk (v := ?_) 12 rfl ?_ (by assumption) ?_
        rotate_left
        focus (intro w hSw; (try dsimp only at hSw); go_simp; (try with_reducible rfl))
        (try simp only [Act.put, wz5, wz6, wz7])
        refine wpAnyX_one 13 rfl (by kernel_rfl) (fun K hK => ?_)
        go_simp
        (go_at_call 109; (try simp only [k1, k2, k3]); refine (HY.out _).mono ?_; rintro e8 w8 ⟨rfl, rfl⟩)
        go_wp2_with fail
        clear hHeld
        refine hK.out _ _ ?_ (fun hHeld => ?_)
        focus ((try dsimp only); (exact HSB.out _ gr))
        clear hK K
        (try simp only [Act.put, wz5, wz6, wz7])
        refine wpAnyX_one 14 rfl (by kernel_rfl) (fun K hK => ?_)
        go_simp
        clear hHeld
        refine hK.out _ _ ?_ (fun hHeld => ?_)
        focus ((try dsimp only); (exact HSB.out _ gr))
        clear hK K
        (try simp only [Act.put, wz5, wz6, wz7])
        refine wtk (v := ?_) 15 rfl ?_ (by assumption) ?_
        rotate_left
        focus (intro w hSw; (try dsimp only at hSw); go_simp; (try with_reducible rfl))
        (try simp only [Act.put, wz5, wz6, wz7])
        refine wpAnyX_done (by kernel_rfl) ?_ _
        refine NoPanic.normal ?_
        clear hHeld
        go_wp2_with fail
        go_ret
        exact ⟨_, _, _, rfl, Own.mono (own_madeD (xs := [_, _]) (by simp)) B2.size, gr⟩
set_option maxRecDepth 100000 in
set_option maxHeartbeats 2000000 in
theorem AddModulo_t (a b q : Int) (L : List Int) (sa : Option Addr) (sl sc : Nat) (hC : isC a b = true) (h1 : q ≤ 199) (hg : gdB a b q = true) (hL : OnF a b q L) (w : World) (hx : Ints w (.slice sa sl sc) L) : Calls Tryz.prog 36 #[.agg #[.int .i64 a, .int .i64 b], .int .i64 q, .slice sa sl sc, .slice sa sl sc] w (GivesIG (dbL a q L) true w) := by
  have h5 := (gdB_iff.1 hg).1
  have HF := Lib.hid (fun w => fieldFits_t hC h1 hg w)
  have HO := Lib.hid (fun w hx => onField_t a b q L (.slice sa sl sc) hC hL (by omega) (by omega) w hx)
  have HA := Lib.hid (fun w hx => addModulo_t a b q L sa sl sc hC hL (by omega) (by omega) w hx)
  clear hC hg hL h5
  generalize dbL a q L = D at *
  go_enter Tryz.func36, Tryz.ntmps36
  go_wp2_with fail
  refine (HF.out _).mono ?_
  rintro e wa ⟨rfl, hba⟩; have hza := hba.size; (try simp only [wz1, wz2, wz3, wz4] at hza); try (refine keepc hba (w.heap.size) ?_ ?_; (focus (first | omega | (simp <;> omega))); intro hca_0 hfa_0 hla_0); try (refine keepc hba (w.heap.size + 1) ?_ ?_; (focus (first | omega | (simp <;> omega))); intro hca_1 hfa_1 hla_1); try (refine keepc hba (w.heap.size + 1 + 1) ?_ ?_; (focus (first | omega | (simp <;> omega))); intro hca_2 hfa_2 hla_2)
  go_wp2_with fail
  refine (HO.out _ (Ints.below hx gr)).mono ?_
  rintro e wb ⟨rfl, hbb⟩; have hzb := hbb.size; (try simp only [wz1, wz2, wz3, wz4] at hzb); try (refine keepc hbb (w.heap.size) ?_ ?_; (focus (first | omega | (simp <;> omega))); intro hcb_0 hfb_0 hlb_0); try (refine keepc hbb (w.heap.size + 1) ?_ ?_; (focus (first | omega | (simp <;> omega))); intro hcb_1 hfb_1 hlb_1); try (refine keepc hbb (w.heap.size + 1 + 1) ?_ ?_; (focus (first | omega | (simp <;> omega))); intro hcb_2 hfb_2 hlb_2)
  go_wp2_with fail
  refine (HO.out _ (Ints.below hx gr)).mono ?_
  rintro e wc ⟨rfl, hbc⟩; have hzc := hbc.size; (try simp only [wz1, wz2, wz3, wz4] at hzc); try (refine keepc hbc (w.heap.size) ?_ ?_; (focus (first | omega | (simp <;> omega))); intro hcc_0 hfc_0 hlc_0); try (refine keepc hbc (w.heap.size + 1) ?_ ?_; (focus (first | omega | (simp <;> omega))); intro hcc_1 hfc_1 hlc_1); try (refine keepc hbc (w.heap.size + 1 + 1) ?_ ?_; (focus (first | omega | (simp <;> omega))); intro hcc_2 hfc_2 hlc_2)
  go_wp2_with fail
  refine (HA.out _ (Ints.below hx gr)).mono ?_
  rintro e9 w9 ⟨ra, rl, rc, rfl, hown, hbd⟩
  go_wp2_with fail
  go_ret2
  exact ⟨_, _, _, rfl, hown.mono (by have := hbc.size; have := hbb.size; have := hba.size; simp at *; omega), gr⟩
def dpV (a b x y e : Int) : Value := if ptB a b x y e then sumV a (x, y, e) (x, y, e) else .tuple #[.agg #[.int .i64 0, .int .i64 0, .int .i64 0], .bool false]
theorem sumV_f (a : Int) (p q : P3) : ∃ u v t ok, sumV a p q = .tuple #[.agg #[.int .i64 u, .int .i64 v, .int .i64 t], .bool ok] := by
  unfold sumV; split <;> exact ⟨_, _, _, _, rfl⟩
theorem ptB_PVG {a b x y e : Int} (h : ptB a b x y e = true) : isC a b = true ∧ EC.PV a b (x, y, e) := by
  unfold ptB at h
  rw [Bool.and_eq_true, Bool.or_eq_true] at h
  refine ⟨h.1, ?_⟩
  rcases h.2 with g | g
  · obtain ⟨rfl, rfl, rfl⟩ := of_decide_eq_true g; exact .inl rfl
  · rw [Bool.and_eq_true, Bool.and_eq_true, Bool.and_eq_true] at g
    have h1 := inB_iff.1 g.1.1.1
    have h2 := inB_iff.1 g.1.1.2
    exact .inr ⟨h1.1, h1.2, h2.1, h2.2, of_decide_eq_true g.1.2, of_decide_eq_true g.2⟩
set_option maxHeartbeats 2000000 in
theorem DoublePoint_any (a b x y e : Int) (w : World) : Calls Tryz.prog 34 #[.agg #[.int .i64 a, .int .i64 b], .agg #[.int .i64 x, .int .i64 y, .int .i64 e]] w (Gives (dpV a b x y e) w) := by
  have HF := Lib.hid (fun w => isPoint_any a b x y e w)
  unfold dpV
  cases g1 : ptB a b x y e
  · rw [g1] at HF
    go_enter Tryz.func34, Tryz.ntmps34
    go_wp2_with (first | (go_at_call 50; refine (HF.out _).mono ?_; rintro e wa ⟨rfl, hba⟩; have hza := hba.size; (try simp only [wz1, wz2, wz3, wz4] at hza); try (refine keepc hba (w.heap.size) ?_ ?_; (focus (first | omega | (simp <;> omega))); intro hca_0 hfa_0 hla_0); try (refine keepc hba (w.heap.size + 1) ?_ ?_; (focus (first | omega | (simp <;> omega))); intro hca_1 hfa_1 hla_1); try (refine keepc hba (w.heap.size + 1 + 1) ?_ ?_; (focus (first | omega | (simp <;> omega))); intro hca_2 hfa_2 hla_2)))
    refine bodyPost_ret (v := .tuple #[.agg #[.int .i64 0, .int .i64 0, .int .i64 0], .bool false]) (by simp [results, Tryz.results34, go_sem, *]) rfl (gives rfl gr)
  · obtain ⟨hC, hp⟩ := ptB_PVG g1
    rw [g1] at HF
    rw [if_pos rfl]
    have HT := Lib.hid (fun W => addPoints_any a b x y e x y e hC hp hp W)
    obtain ⟨u, v, t, ok, hr⟩ := sumV_f a (x, y, e) (x, y, e)
    rw [hr] at HT ⊢
    clear hr hC hp g1
    go_enter Tryz.func34, Tryz.ntmps34
    go_wp2_with (first | (go_at_call 50; refine (HF.out _).mono ?_; rintro e wa ⟨rfl, hba⟩; have hza := hba.size; (try simp only [wz1, wz2, wz3, wz4] at hza); try (refine keepc hba (w.heap.size) ?_ ?_; (focus (first | omega | (simp <;> omega))); intro hca_0 hfa_0 hla_0); try (refine keepc hba (w.heap.size + 1) ?_ ?_; (focus (first | omega | (simp <;> omega))); intro hca_1 hfa_1 hla_1); try (refine keepc hba (w.heap.size + 1 + 1) ?_ ?_; (focus (first | omega | (simp <;> omega))); intro hca_2 hfa_2 hla_2)) | (go_at_call 80; refine (HT.out _).mono ?_; rintro e wb ⟨rfl, hbb⟩; have hzb := hbb.size; (try simp only [wz1, wz2, wz3, wz4] at hzb); try (refine keepc hbb (w.heap.size) ?_ ?_; (focus (first | omega | (simp <;> omega))); intro hcb_0 hfb_0 hlb_0); try (refine keepc hbb (w.heap.size + 1) ?_ ?_; (focus (first | omega | (simp <;> omega))); intro hcb_1 hfb_1 hlb_1); try (refine keepc hbb (w.heap.size + 1 + 1) ?_ ?_; (focus (first | omega | (simp <;> omega))); intro hcb_2 hfb_2 hlb_2)))
    refine bodyPost_ret (v := .tuple #[.agg #[.int .i64 u, .int .i64 v, .int .i64 t], .bool ok]) (by simp [results, Tryz.results34, go_sem, *]) rfl (gives rfl gr)
set_option maxHeartbeats 2000000 in
theorem sDoublePoint_any (a b x y e : Int) (w : World) : Calls Tryz.prog 35 #[.agg #[.int .i64 a, .int .i64 b], .agg #[.int .i64 x, .int .i64 y, .int .i64 e]] w (Gives (dpV a b x y e) w) := by
  have HF := Lib.hid (fun w => IsPointOf_any a b x y e w)
  unfold dpV
  cases g1 : ptB a b x y e
  · rw [g1] at HF
    go_enter Tryz.func35, Tryz.ntmps35
    go_wp2_with (first | (go_at_call 75; refine (HF.out _).mono ?_; rintro e wa ⟨rfl, hba⟩; have hza := hba.size; (try simp only [wz1, wz2, wz3, wz4] at hza); try (refine keepc hba (w.heap.size) ?_ ?_; (focus (first | omega | (simp <;> omega))); intro hca_0 hfa_0 hla_0); try (refine keepc hba (w.heap.size + 1) ?_ ?_; (focus (first | omega | (simp <;> omega))); intro hca_1 hfa_1 hla_1); try (refine keepc hba (w.heap.size + 1 + 1) ?_ ?_; (focus (first | omega | (simp <;> omega))); intro hca_2 hfa_2 hla_2)))
    refine bodyPost_ret (v := .tuple #[.agg #[.int .i64 0, .int .i64 0, .int .i64 0], .bool false]) (by simp [results, Tryz.results35, go_sem, *]) rfl (gives rfl gr)
  · obtain ⟨hC, hp⟩ := ptB_PVG g1
    rw [g1] at HF
    rw [if_pos rfl]
    have HT := Lib.hid (fun W => ptAdd_any a b x y e x y e hC hp hp W)
    obtain ⟨u, v, t, ok, hr⟩ := sumV_f a (x, y, e) (x, y, e)
    rw [hr] at HT ⊢
    clear hr hC hp g1
    go_enter Tryz.func35, Tryz.ntmps35
    go_wp2_with (first | (go_at_call 75; refine (HF.out _).mono ?_; rintro e wa ⟨rfl, hba⟩; have hza := hba.size; (try simp only [wz1, wz2, wz3, wz4] at hza); try (refine keepc hba (w.heap.size) ?_ ?_; (focus (first | omega | (simp <;> omega))); intro hca_0 hfa_0 hla_0); try (refine keepc hba (w.heap.size + 1) ?_ ?_; (focus (first | omega | (simp <;> omega))); intro hca_1 hfa_1 hla_1); try (refine keepc hba (w.heap.size + 1 + 1) ?_ ?_; (focus (first | omega | (simp <;> omega))); intro hca_2 hfa_2 hla_2)) | (go_at_call 81; refine (HT.out _).mono ?_; rintro e wb ⟨rfl, hbb⟩; have hzb := hbb.size; (try simp only [wz1, wz2, wz3, wz4] at hzb); try (refine keepc hbb (w.heap.size) ?_ ?_; (focus (first | omega | (simp <;> omega))); intro hcb_0 hfb_0 hlb_0); try (refine keepc hbb (w.heap.size + 1) ?_ ?_; (focus (first | omega | (simp <;> omega))); intro hcb_1 hfb_1 hlb_1); try (refine keepc hbb (w.heap.size + 1 + 1) ?_ ?_; (focus (first | omega | (simp <;> omega))); intro hcb_2 hfb_2 hlb_2)))
    refine bodyPost_ret (v := .tuple #[.agg #[.int .i64 u, .int .i64 v, .int .i64 t], .bool ok]) (by simp [results, Tryz.results35, go_sem, *]) rfl (gives rfl gr)
noncomputable def gpOk (a b k : Int) : Bool := isC a b && inB k 1 8
noncomputable def gpR (a b k : Int) : List Int := if gpOk a b k then gpl a b k else []
theorem gpR_f {a b k : Int} (h : gpOk a b k = false) : gpR a b k = [] := by unfold gpR; rw [h]; rfl
theorem gpR_t {a b k : Int} (h : gpOk a b k = true) : gpR a b k = gpl a b k := by unfold gpR; rw [h]; rfl
set_option maxHeartbeats 2000000 in
theorem GoodPrimesOf_any (a b k : Int) (w : World) : Calls Tryz.prog 26 #[.agg #[.int .i64 a, .int .i64 b], .int .i64 k] w (GivesIG (gpR a b k) (gpOk a b k) w) := by
  have HI := Lib.hid (fun w => isCurve_any a b w)
  have HM := Lib.hid (fun w => inside_any k 1 8 w)
  cases hC : isC a b with
  | false =>
    have hk : gpOk a b k = false := by unfold gpOk; rw [hC]; rfl
    rw [gpR_f hk, hk]; rw [hC] at HI; clear hC HM hk
    go_enter Tryz.func26, Tryz.ntmps26
    go_wp2_with (first | (go_at_call 42; refine (HI.out _).mono ?_; rintro e wa ⟨rfl, hba⟩; have hza := hba.size; (try simp only [wz1, wz2, wz3, wz4] at hza); try (refine keepc hba (w.heap.size) ?_ ?_; (focus (first | omega | (simp <;> omega))); intro hca_0 hfa_0 hla_0); try (refine keepc hba (w.heap.size + 1) ?_ ?_; (focus (first | omega | (simp <;> omega))); intro hca_1 hfa_1 hla_1); try (refine keepc hba (w.heap.size + 1 + 1) ?_ ?_; (focus (first | omega | (simp <;> omega))); intro hca_2 hfa_2 hla_2)))
    go_ret2
    exact ⟨_, _, _, rfl, Own.nil _ _, gr⟩
  | true =>
    cases hm : inB k 1 8 with
    | false =>
      have hk : gpOk a b k = false := by unfold gpOk; rw [hC, hm]; rfl
      rw [gpR_f hk, hk]; rw [hC] at HI; rw [hm] at HM; clear hC hm hk
      go_enter Tryz.func26, Tryz.ntmps26
      go_wp2_with (first | (go_at_call 42; refine (HI.out _).mono ?_; rintro e wa ⟨rfl, hba⟩; have hza := hba.size; (try simp only [wz1, wz2, wz3, wz4] at hza); try (refine keepc hba (w.heap.size) ?_ ?_; (focus (first | omega | (simp <;> omega))); intro hca_0 hfa_0 hla_0); try (refine keepc hba (w.heap.size + 1) ?_ ?_; (focus (first | omega | (simp <;> omega))); intro hca_1 hfa_1 hla_1); try (refine keepc hba (w.heap.size + 1 + 1) ?_ ?_; (focus (first | omega | (simp <;> omega))); intro hca_2 hfa_2 hla_2)) | (go_at_call 52; refine (HM.out _).mono ?_; rintro e w1 ⟨rfl, rfl⟩))
      go_ret2
      exact ⟨_, _, _, rfl, Own.nil _ _, gr⟩
    | true =>
      have hk : gpOk a b k = true := by unfold gpOk; rw [hC, hm]; rfl
      obtain ⟨k1, k2⟩ := inB_iff.1 hm
      have HP := Lib.hid (fun w => goodPrimes_any a b k hC k1 k2 w)
      rw [gpR_t hk, hk]; rw [hC] at HI; rw [hm] at HM; clear hC hm hk
      generalize gpl a b k = L at *
      go_enter Tryz.func26, Tryz.ntmps26
      go_wp2_with (first | (go_at_call 42; refine (HI.out _).mono ?_; rintro e wa ⟨rfl, hba⟩; have hza := hba.size; (try simp only [wz1, wz2, wz3, wz4] at hza); try (refine keepc hba (w.heap.size) ?_ ?_; (focus (first | omega | (simp <;> omega))); intro hca_0 hfa_0 hla_0); try (refine keepc hba (w.heap.size + 1) ?_ ?_; (focus (first | omega | (simp <;> omega))); intro hca_1 hfa_1 hla_1); try (refine keepc hba (w.heap.size + 1 + 1) ?_ ?_; (focus (first | omega | (simp <;> omega))); intro hca_2 hfa_2 hla_2)) | (go_at_call 52; refine (HM.out _).mono ?_; rintro e w1 ⟨rfl, rfl⟩) | (go_at_call 53; refine (HP.out _).mono ?_; rintro e9 w3 ⟨sa, sl, sc, rfl, hown, hb3⟩))
      go_ret2
      exact ⟨_, _, _, rfl, hown.mono (by have := hba.size; simp at *; omega), gr⟩
set_option maxHeartbeats 2000000 in
theorem sGoodPrimesOf_any (a b k : Int) (w : World) : Calls Tryz.prog 27 #[.agg #[.int .i64 a, .int .i64 b], .int .i64 k] w (GivesIG (gpR a b k) (gpOk a b k) w) := by
  have HI := Lib.hid (fun w => ecGood_any a b w)
  have HM := Lib.hid (fun w => toMany_any k w)
  cases hC : isC a b with
  | false =>
    have hk : gpOk a b k = false := by unfold gpOk; rw [hC]; rfl
    rw [gpR_f hk, hk]; rw [hC] at HI; clear hC HM hk
    go_enter Tryz.func27, Tryz.ntmps27
    go_wp2_with (first | (go_at_call 44; refine (HI.out _).mono ?_; rintro e wa ⟨rfl, hba⟩; have hza := hba.size; (try simp only [wz1, wz2, wz3, wz4] at hza); try (refine keepc hba (w.heap.size) ?_ ?_; (focus (first | omega | (simp <;> omega))); intro hca_0 hfa_0 hla_0); try (refine keepc hba (w.heap.size + 1) ?_ ?_; (focus (first | omega | (simp <;> omega))); intro hca_1 hfa_1 hla_1); try (refine keepc hba (w.heap.size + 1 + 1) ?_ ?_; (focus (first | omega | (simp <;> omega))); intro hca_2 hfa_2 hla_2)))
    go_ret2
    exact ⟨_, _, _, rfl, Own.nil _ _, gr⟩
  | true =>
    cases hm : inB k 1 8 with
    | false =>
      have hk : gpOk a b k = false := by unfold gpOk; rw [hC, hm]; rfl
      rw [gpR_f hk, hk]; rw [hC] at HI; rw [hm] at HM; clear hC hm hk
      go_enter Tryz.func27, Tryz.ntmps27
      go_wp2_with (first | (go_at_call 44; refine (HI.out _).mono ?_; rintro e wa ⟨rfl, hba⟩; have hza := hba.size; (try simp only [wz1, wz2, wz3, wz4] at hza); try (refine keepc hba (w.heap.size) ?_ ?_; (focus (first | omega | (simp <;> omega))); intro hca_0 hfa_0 hla_0); try (refine keepc hba (w.heap.size + 1) ?_ ?_; (focus (first | omega | (simp <;> omega))); intro hca_1 hfa_1 hla_1); try (refine keepc hba (w.heap.size + 1 + 1) ?_ ?_; (focus (first | omega | (simp <;> omega))); intro hca_2 hfa_2 hla_2)) | (go_at_call 56; refine (HM.out _).mono ?_; rintro e w1 ⟨rfl, rfl⟩))
      go_ret2
      exact ⟨_, _, _, rfl, Own.nil _ _, gr⟩
    | true =>
      have hk : gpOk a b k = true := by unfold gpOk; rw [hC, hm]; rfl
      obtain ⟨k1, k2⟩ := inB_iff.1 hm
      have HP := Lib.hid (fun w => toPrimes_any a b k hC k1 k2 w)
      rw [gpR_t hk, hk]; rw [hC] at HI; rw [hm] at HM; clear hC hm hk
      generalize gpl a b k = L at *
      go_enter Tryz.func27, Tryz.ntmps27
      go_wp2_with (first | (go_at_call 44; refine (HI.out _).mono ?_; rintro e wa ⟨rfl, hba⟩; have hza := hba.size; (try simp only [wz1, wz2, wz3, wz4] at hza); try (refine keepc hba (w.heap.size) ?_ ?_; (focus (first | omega | (simp <;> omega))); intro hca_0 hfa_0 hla_0); try (refine keepc hba (w.heap.size + 1) ?_ ?_; (focus (first | omega | (simp <;> omega))); intro hca_1 hfa_1 hla_1); try (refine keepc hba (w.heap.size + 1 + 1) ?_ ?_; (focus (first | omega | (simp <;> omega))); intro hca_2 hfa_2 hla_2)) | (go_at_call 56; refine (HM.out _).mono ?_; rintro e w1 ⟨rfl, rfl⟩) | (go_at_call 57; refine (HP.out _).mono ?_; rintro e9 w3 ⟨sa, sl, sc, rfl, hown, hb3⟩))
      go_ret2
      exact ⟨_, _, _, rfl, hown.mono (by have := hba.size; simp at *; omega), gr⟩
set_option maxHeartbeats 2000000 in
theorem CountPoints_t (a b q : Int) (hC : isC a b = true) (hg : gdB a b q = true) (w : World) : Calls Tryz.prog 29 #[.agg #[.int .i64 a, .int .i64 b], .int .i64 q] w (Gives (.tuple #[.int .i64 (cnt a b q), .bool true]) w) := by
  obtain ⟨a1, a2, b1, b2⟩ := isC_bd hC
  obtain ⟨h5, h9, -, -⟩ := gdB_iff.1 hg
  have HC := Lib.hid (fun w => isCurve_any a b w)
  have HG := Lib.hid (fun w => isGood_any a b q w)
  have HN := Lib.hid (fun w => countPoints_any a b q a1 a2 b1 b2 (by omega) h9 w)
  rw [hC] at HC; rw [hg] at HG; clear hC hg
  generalize cnt a b q = R at *
  go_enter Tryz.func29, Tryz.ntmps29
  go_wp2_with (first | (go_at_call 42; refine (HC.out _).mono ?_; rintro e wa ⟨rfl, hba⟩; have hza := hba.size; (try simp only [wz1, wz2, wz3, wz4] at hza); try (refine keepc hba (w.heap.size) ?_ ?_; (focus (first | omega | (simp <;> omega))); intro hca_0 hfa_0 hla_0); try (refine keepc hba (w.heap.size + 1) ?_ ?_; (focus (first | omega | (simp <;> omega))); intro hca_1 hfa_1 hla_1); try (refine keepc hba (w.heap.size + 1 + 1) ?_ ?_; (focus (first | omega | (simp <;> omega))); intro hca_2 hfa_2 hla_2)) | (go_at_call 71; refine (HG.out _).mono ?_; rintro e wb ⟨rfl, hbb⟩; have hzb := hbb.size; (try simp only [wz1, wz2, wz3, wz4] at hzb); try (refine keepc hbb (w.heap.size) ?_ ?_; (focus (first | omega | (simp <;> omega))); intro hcb_0 hfb_0 hlb_0); try (refine keepc hbb (w.heap.size + 1) ?_ ?_; (focus (first | omega | (simp <;> omega))); intro hcb_1 hfb_1 hlb_1); try (refine keepc hbb (w.heap.size + 1 + 1) ?_ ?_; (focus (first | omega | (simp <;> omega))); intro hcb_2 hfb_2 hlb_2)) | (go_at_call 55; refine (HN.out _).mono ?_; rintro e wc ⟨rfl, hbc⟩; have hzc := hbc.size; (try simp only [wz1, wz2, wz3, wz4] at hzc); try (refine keepc hbc (w.heap.size) ?_ ?_; (focus (first | omega | (simp <;> omega))); intro hcc_0 hfc_0 hlc_0); try (refine keepc hbc (w.heap.size + 1) ?_ ?_; (focus (first | omega | (simp <;> omega))); intro hcc_1 hfc_1 hlc_1); try (refine keepc hbc (w.heap.size + 1 + 1) ?_ ?_; (focus (first | omega | (simp <;> omega))); intro hcc_2 hfc_2 hlc_2)))
  go_ret2
  exact gives rfl gr
theorem sameIntsG_same (s t : Value) (xs : List Int) (w : World) (hx : Ints w s xs) (hy : Ints w t xs) : Calls Tryz.prog 28 #[s, t] w (Gives (.bool true) w) := by
  rcases hx with ⟨a, cap, rfl, hx0⟩ | ⟨b, off, len, cap, rfl, hl, h0, hc, hm, hbl, hcell⟩
  · rcases hy with ⟨a', cap', rfl, _⟩ | ⟨b', off', len', cap', rfl, hl', h0', _⟩
    · clear hx0
      go_enter Tryz.func28, Tryz.ntmps28
      go_wp2
      refine wp_loop_rounds 1 ?_; rw [rounds_succ]
      go_wp2
      go_ret
      exact gives rfl gr
    · subst hx0; simp at hl'; omega
  · rcases hy with ⟨a', cap', rfl, hy0⟩ | ⟨b', off', len', cap', rfl, hl', h0', hc', hm', hbl', hcell'⟩
    · subst hy0; simp at hl; omega
    · obtain rfl : len = len' := by omega
      unfold maxLen at hm hm'
      have HC := Lib.hid hcell; have HC' := Lib.hid hcell'; clear hcell hcell' hl hl'
      go_enter Tryz.func28, Tryz.ntmps28
      go_wp2
      go_loopw [13] (fun v9 wr => ∃ k : Nat, k ≤ len ∧ v9 = .int .i64 k ∧ ∃ n, wr = w.drewN n) (fun v9 _ => len - (intOf v9).toNat)
      case atStart => exact ⟨0, by omega, rfl, 0, rfl⟩
      case round =>
        obtain ⟨k, hk, rfl, n, rfl⟩ := hrel
        by_cases hlt : k < len
        · have c1 := HC.out k hlt
          have c2 := HC'.out k hlt
          go_wp2
          go_quiet (fail)
          go_wp2
          go_roundw
          case rel => exact ⟨k + 1, by omega, by go_num, _, rfl⟩
          case measure => simp [intOf]; omega
        · go_wp2
          go_ret
          exact gives rfl gr
end Go.Proofs.YtjgdajeoeagggaaGreat
