import Derived.Test.YtjgdajeoeagggaaGreatYArith
import Derived.Test.YtjgdajeoeagggaaGreatYK2
import Derived.Test.YtjgdajeoeagggaaGreatYK1
set_option linter.unusedSimpArgs false
set_option linter.unusedVariables false
namespace Go.Proofs.YtjgdajeoeagggaaGreat
open Go.RowKit
/-! ### sums of wholes -/
theorem Own.put {w : World} {B g n cap : Nat} {xs : List Int} (h : Own w B (.slice (some ⟨g, 0, none⟩) n cap) xs) (k : Nat) (v : Int) : Own (w.setCell ⟨g, k, none⟩ (.int .i64 v)) B (.slice (some ⟨g, 0, none⟩) n cap) (xs.set k v) := by
  obtain ⟨a, c, he⟩ := h.slice
  have hn : n = xs.length := by simp only [Value.slice.injEq] at he; exact he.2.1
  subst hn
  unfold Own at *
  have := (World.ownsRow.stored h k (.int .i64 v)).1
  rw [List.length_set, List.map_set]
  exact this
theorem Own.at {w : World} {B g n cap : Nat} {xs : List Int} (h : Own w B (.slice (some ⟨g, 0, none⟩) n cap) xs) (k : Nat) (hk : k < xs.length) : w.cell? ⟨g, k, none⟩ = some (.int .i64 (xs.getD k 0)) ∧ w.frozen? ⟨g, k, none⟩ = false ∧ g < w.heap.size ∧ B ≤ g := by
  have hs := h.slice
  obtain ⟨a, c, he⟩ := hs
  have hn : n = xs.length := by simp only [Value.slice.injEq] at he; exact he.2.1
  subst hn
  have h' := h
  unfold Own at h'
  have c1 := World.ownsRow.cellAt h' k (by omega)
  have c2 := World.ownsRow.frozenAt h' k
  refine ⟨?_, c2, World.ownsRow.lt h', ?_⟩
  · rw [c1]; simp [List.getD, List.getElem?_eq_getElem hk]
  · rcases h.2 with ⟨hv, _⟩ | ⟨g', cap', cur, hv, hg, _⟩
    · cases hv
    · simp only [Value.slice.injEq, Option.some.injEq, Addr.mk.injEq, and_true, true_and] at hv
      omega
theorem Own.made {w : World} {B n : Nat} (h : w.ownsRow B 3 1 (.slice (some ⟨B, 0, none⟩) n n) n (madeCells (Value.int IntKind.i64 0).cells (n * 1)).toList) : Own w B (.slice (some ⟨B, 0, none⟩) n n) (List.replicate n 0) := by
  unfold Own
  rw [List.length_replicate, List.map_replicate]
  have : (madeCells (Value.int IntKind.i64 0).cells (n * 1)).toList = List.replicate n (.int .i64 0) := by rw [Nat.mul_one]; exact toList_madeCells_one _ _
  rw [← this]; exact h
/-- The call hands back digits of a number, of its own; the last ones may be 0. -/
def GivesD (T : Int) (w : World) (e : Ending) (w' : World) : Prop := ∃ a len cap zs, e = .returned (.slice a len cap) ∧ Own w' w.heap.size (.slice a len cap) zs ∧ InR zs ∧ val zs = T ∧ zs.length ≤ 1048576 ∧ Below w.heap.size w w'
set_option maxHeartbeats 1000000 in
theorem addLimbs_any (a a2 : Option Addr) (len cap len2 cap2 : Nat) (xs ys : List Int) (s : Int) (w : World) (hx : Ints w (.slice a len cap) xs) (hy : Ints w (.slice a2 len2 cap2) ys) (rx : InR xs) (ry : InR ys) (lx : xs.length ≤ 1000000) (ly : ys.length ≤ 1000000) (hs : s = 1 ∨ s = -1) (t0 : 0 ≤ val xs + s * val ys) :
    Calls Tryz.prog 136 #[.slice a len cap, .slice a2 len2 cap2, .int .i64 s] w (GivesD (val xs + s * val ys) w) := by
  obtain ⟨x1, x2, x3⟩ := hx.cell
  obtain ⟨y1, y2, y3⟩ := hy.cell
  obtain ⟨i0, hi, hz0, hz1, hz2⟩ := info_parts infoInt
  obtain ⟨N, hN, hn1, hn2⟩ : ∃ N : Nat, max (len : Int) (len2 : Int) = (N : Int) ∧ len ≤ N ∧ len2 ≤ N := ⟨max len len2, by omega, by omega, by omega⟩
  have hN3 : N ≤ 1000000 := by omega
  have hb8 : i0.bytes * (N + 1) ≤ 281474976710656 := by rw [hz2]; omega
  have hml : N + 1 ≤ maxLen := by unfold maxLen; omega
  have ht1 : val xs + s * val ys < 10000 ^ (N + 1) := by
    rcases hs with rfl | rfl
    · have := sum_lt rx ry (n := N) (by omega) (by omega); omega
    · have := diff_lt rx ry (n := N + 1) (by omega); omega
  have HD := Lib.hid (fun acc c (h : AddInv s xs ys acc (N + 1) c) hk => h.done hk (by omega) (by omega) t0 ht1)
  have HX := Lib.hid x3; have HY := Lib.hid y3
  have RX := Lib.hid (fun k => rx.at k); have RY := Lib.hid (fun k => ry.at k)
  have Z1 := Lib.hid (show ∀ k, len ≤ k → xs.getD k 0 = 0 from fun k h => by simp only [List.getD, List.getElem?_eq_none (show xs.length ≤ k by omega), Option.getD_none])
  have Z2 := Lib.hid (show ∀ k, len2 ≤ k → ys.getD k 0 = 0 from fun k h => by simp only [List.getD, List.getElem?_eq_none (show ys.length ≤ k by omega), Option.getD_none])
  obtain ⟨T, hT⟩ : ∃ T, val xs + s * val ys = T := ⟨_, rfl⟩
  rw [hT] at HD ⊢
  clear x3 y3 hx hy rx ry lx ly t0 ht1 x1 y1 hT
  go_enter Tryz.func136, Tryz.ntmps136
  go_wp2_with (first | (at_make; refine wpList_make_full _ rfl _ _ 44 rfl w.heap.size 3 i0 (.int .i64 0) 1 Tryz.underlying44 hi hz0 hz1 .i64 .i64 _ _ (N + 1) rfl rfl rfl rfl hb8 hml (Nat.le_refl _) ?_; intro w1 hown hgrow))
  have hB0 : Below w.heap.size w w1 := (Below.refl _ _).grown hgrow (Nat.le_refl _) (fun k h => by cases h)
  have hown0 := Lib.hid (Own.made hown)
  clear hown hgrow hb8 hz0 hz1 hz2 hi hN
  go_loopw [8, 20] (fun v8 v20 wr => ∃ (k : Nat) (c : Int) (acc : List Int), k ≤ N + 1 ∧ v20 = .int .i64 k ∧ v8 = .int .i64 c ∧ acc.length = N + 1 ∧ Own wr w.heap.size (.slice (some ⟨w.heap.size, 0, none⟩) (N + 1) (N + 1)) acc ∧ AddInv s xs ys acc k c ∧ Below w.heap.size w wr) (fun _ v20 _ => N + 1 - (intOf v20).toNat)
  case atStart => exact ⟨0, 0, _, by omega, rfl, rfl, by simp, hown0.out, AddInv.start _ _ _ _, hB0⟩
  case round =>
    obtain ⟨k, c, acc, hk, rfl, rfl, hlen, hown, hinv, hbw⟩ := hrel
    by_cases hlt : k < N + 1
    · obtain ⟨c1, c2, c3, c4⟩ := hown.at k (by omega)
      have c5 := RX.out k; have c6 := RY.out k
      have hst := fun v c' h1 h2 he => hinv.step (v := v) (c' := c') (by omega) h1 h2 he
      have hcar := hinv.car
      have HST := Lib.hid hst; have HO := Lib.hid (fun v => hown.put k v); have HLN := Lib.hid hlen
      have hq1 := Z1.out k; have hq2 := Z2.out k
      generalize acc.getD k 0 = A0 at c1
      generalize hX : xs.getD k 0 = X at *
      generalize hY : ys.getD k 0 = Y at *
      have e1 := HX.out k; have e2 := HY.out k
      rw [hX] at e1; rw [hY] at e2
      clear hst hX hY hlen hown hinv
      have k1 : (k < len ∧ ∃ b o, a = some ⟨b, o, none⟩ ∧ wr.cell? ⟨b, o + k, none⟩ = some (.int .i64 X)) ∨ (¬ k < len ∧ X = 0) := by
        by_cases g : k < len
        · obtain ⟨b1, o1, ha1, hb1, d1⟩ := e1 g
          exact .inl ⟨g, b1, o1, ha1, (hbw.cell (p := ⟨b1, o1 + k, none⟩) hb1).trans d1⟩
        · exact .inr ⟨g, hq1 (by omega)⟩
      have k2 : (k < len2 ∧ ∃ b o, a2 = some ⟨b, o, none⟩ ∧ wr.cell? ⟨b, o + k, none⟩ = some (.int .i64 Y)) ∨ (¬ k < len2 ∧ Y = 0) := by
        by_cases g : k < len2
        · obtain ⟨b1, o1, ha1, hb1, d1⟩ := e2 g
          exact .inl ⟨g, b1, o1, ha1, (hbw.cell (p := ⟨b1, o1 + k, none⟩) hb1).trans d1⟩
        · exact .inr ⟨g, hq2 (by omega)⟩
      clear e1 e2 hq1 hq2
      rcases hs with rfl | rfl
      all_goals
        rcases k1 with ⟨g1, b1, o1, rfl, d1⟩ | ⟨g1, rfl⟩
        all_goals
          rcases k2 with ⟨g2, b2, o2, rfl, d2⟩ | ⟨g2, rfl⟩
          all_goals
            go_wp2_with fail
            all_goals
              go_roundw
              case rel => refine ⟨k + 1, _, _, by omega, by go_num, rfl, by rw [List.length_set, HLN.out], HO.out _, HST.out _ _ (by omega) (by omega) (by omega), gr⟩
              case measure => simp [intOf]; omega
    · have e : k = N + 1 := by omega
      subst e
      have hd := HD.out acc c hinv hlen
      have hr := hinv.rng
      subst hd
      clear HD
      go_wp2_with fail
      go_ret
      exact ⟨_, _, _, acc, rfl, hown, hr, rfl, by omega, hbw⟩
/-! ### doubling bounds -/
def dbM (a b : Int) : Int := max (wrap64 (1 + 2*a + 8*b + a*a)) (wrap64 (4*(1+a+b)))
def dbQ (a b d : Int) : Int := wrap64 (4*d + 5*a*a*b + 4*a*(3*a*a*a+22*b*b) + 12*b*(a*a*a+8*b*b) + a*(5*a*a*a+32*b*b) + 2*b*(13*a*a*a+96*b*b) + 3*a*a*(a*a*a+8*b*b))
def dbK (a b d : Int) : Int := max (wrap64 (15 + 21*a + 27*b)) (dbQ a b d)
def ab (a : Int) : Int := max a (wrap64 (-a))
/-! ### the doubling constant -/
def dbN (a b : Int) : Int := max (dbM (ab a) (ab b)) (dbK (ab a) (ab b) (ab (dsc a b)))

/-! ### heights in bits -/
theorem cmpI_neg {a b : Int} : cmpI a b < 0 ↔ a < b := by
  rcases Int.lt_trichotomy a b with h | h | h
  · rw [cmpI_lt h]; omega
  · rw [cmpI_eq h]; omega
  · rw [cmpI_gt h]; omega
end Go.Proofs.YtjgdajeoeagggaaGreat
