import Derived.Test.YtaboopioocpkdaaFracA
set_option linter.unusedSimpArgs false
set_option linter.unusedVariables false
namespace Go.Proofs.Ytaboopioocpkdaa
open Go.RowKit

set_option maxHeartbeats 4000000 in
theorem frMake_any (num den : Int) (h0 : den ≠ 0) (a1 : -9223372036854775807 ≤ num) (a2 : num ≤ 9223372036854775807) (a3 : -9223372036854775807 ≤ den) (a4 : den ≤ 9223372036854775807) (w : World) : Calls Try.prog 65 #[.int .i64 num, .int .i64 den] w (Gives (mkF num den) w) := by
  have g1 := gcd_ne num den h0
  have g2 := gcd_le num den h0
  have A1 : wrap64 (-num) = -num := win (by omega)
  have A2 : wrap64 (-den) = -den := win (by omega)
  have hc : ∀ w, Calls Try.prog 109 #[.int .i64 (max num (wrap64 (-num))), .int .i64 (max den (wrap64 (-den)))] w (Same (.int .i64 (Int.gcd num den)) w) := fun w => by
    have e : Int.gcd (max num (wrap64 (-num))) (max den (wrap64 (-den))) = Int.gcd num den := by
      have e1 : (max num (wrap64 (-num))).natAbs = num.natAbs := by rw [A1]; omega
      have e2 : (max den (wrap64 (-den))).natAbs = den.natAbs := by rw [A2]; omega
      show Nat.gcd _ _ = Nat.gcd _ _; rw [e1, e2]
    rw [← e]; exact bgCommon_any _ _ (by rw [A1]; omega) (by rw [A2]; omega) w
  generalize hX : max num (wrap64 (-num)) = X at hc
  generalize hY : max den (wrap64 (-den)) = Y at hc
  have HC := Lib.hid hc; clear hc A1 A2
  have b1 := tdiv_bd num (mkD num den)
  have b2 := tdiv_bd den (mkD num den)
  have c1 : -9223372036854775808 ≤ num.tdiv (mkD num den) := by omega
  have c2 : num.tdiv (mkD num den) ≤ 9223372036854775807 := by omega
  have c3 : -9223372036854775808 ≤ den.tdiv (mkD num den) := by omega
  have c4 : den.tdiv (mkD num den) ≤ 9223372036854775807 := by omega
  have z0 : (den == 0) = false := by simpa using h0
  by_cases hs : den < 0
  case pos =>
    have hd : mkD num den = -((Int.gcd num den : Nat) : Int) := by unfold mkD; rw [if_pos hs]
    have hf : mkF num den = (if mkOk num den then .tuple #[.agg #[.int .i64 (num.tdiv (mkD num den)), .int .i64 (den.tdiv (mkD num den))], .bool true] else .tuple #[.agg #[.int .i64 0, .int .i64 0], .bool false]) := rfl
    have hk : isF (num.tdiv (mkD num den)) (den.tdiv (mkD num den)) = mkOk num den := rfl
    rw [hd] at hf hk c1 c2 c3 c4
    simp only [Int.tdiv_neg] at hf hk c1 c2 c3 c4
    cases gk : mkOk num den
    all_goals
      rw [gk] at hf hk
      simp only [Bool.false_eq_true, if_false, if_true] at hf
      generalize Int.gcd num den = G at *
      have HF := Lib.hid hf; clear hf b1 b2 hd gk
      have k0 : (-(G : Int) == 0) = false := by simp; omega
      have k1 : ((G : Int) == 0) = false := by simp; omega
      have k2 : (G == 0) = false := by simp; omega
      have k3 : ¬ G = 0 := by omega
      go_enter Try.func65, Try.ntmps65
      go_wp2_with (first | (go_at_call 109; refine (HC.out _).mono ?_; rintro e w1 ⟨rfl, rfl⟩) | (go_at_call 110; refine (l1Abs_any _ _).mono ?_; rintro e w1 ⟨rfl, rfl⟩))
      go_region
      go_wp2_with (first | (go_at_call 86; refine (frGood_any _ _ _).mono ?_; rintro e w1 ⟨rfl, hb⟩; have hz := hb.size; (try simp only [World.size_alloc, World.size_setCell, World.size_drew, World.heap_drewN] at hz); try (refine keepc hb (w.heap.size) ?_ ?_; (focus (first | omega | (simp <;> omega))); intro hc0 hf0 hl0); try (refine keepc hb (w.heap.size + 1) ?_ ?_; (focus (first | omega | (simp <;> omega))); intro hc1 hf1 hl1); try (refine keepc hb (w.heap.size + 1 + 1) ?_ ?_; (focus (first | omega | (simp <;> omega))); intro hc2 hf2 hl2)))
      first
        | exact bodyPost_ret (v := .tuple #[.agg #[.int .i64 0, .int .i64 0], .bool false]) (by simp [results, Try.results65, go_sem, hc0]) rfl (gives HF.out.symm (by repeat' (first | (with_reducible exact Below.refl _ _) | (with_reducible assumption) | (with_reducible refine Below.alloc ?_ ?_ _) | (with_reducible refine Below.setCell ?_ ?_ _) | (with_reducible refine Below.drew ?_) | (with_reducible refine below_drewN ?_ _) | (apply bthen2; (with_reducible assumption)) | go_size)))
        | exact bodyPost_ret (v := .tuple #[.agg #[.int .i64 _, .int .i64 _], .bool true]) (by simp [results, Try.results65, go_sem, hc0]) rfl (gives HF.out.symm (by repeat' (first | (with_reducible exact Below.refl _ _) | (with_reducible assumption) | (with_reducible refine Below.alloc ?_ ?_ _) | (with_reducible refine Below.setCell ?_ ?_ _) | (with_reducible refine Below.drew ?_) | (with_reducible refine below_drewN ?_ _) | (apply bthen2; (with_reducible assumption)) | go_size)))
        | (go_show; sorry)
  case neg =>
    have hd : mkD num den = ((Int.gcd num den : Nat) : Int) := by unfold mkD; rw [if_neg hs]
    have hf : mkF num den = (if mkOk num den then .tuple #[.agg #[.int .i64 (num.tdiv (mkD num den)), .int .i64 (den.tdiv (mkD num den))], .bool true] else .tuple #[.agg #[.int .i64 0, .int .i64 0], .bool false]) := rfl
    have hk : isF (num.tdiv (mkD num den)) (den.tdiv (mkD num den)) = mkOk num den := rfl
    rw [hd] at hf hk c1 c2 c3 c4
    cases gk : mkOk num den
    all_goals
      rw [gk] at hf hk
      simp only [Bool.false_eq_true, if_false, if_true] at hf
      generalize Int.gcd num den = G at *
      have HF := Lib.hid hf; clear hf b1 b2 hd gk
      have k0 : ((G : Int) == 0) = false := by simp; omega
      have k1 : ((G : Int) == 0) = false := by simp; omega
      have k2 : (G == 0) = false := by simp; omega
      have k3 : ¬ G = 0 := by omega
      go_enter Try.func65, Try.ntmps65
      go_wp2_with (first | (go_at_call 109; refine (HC.out _).mono ?_; rintro e w1 ⟨rfl, rfl⟩) | (go_at_call 110; refine (l1Abs_any _ _).mono ?_; rintro e w1 ⟨rfl, rfl⟩))
      go_region
      go_wp2_with (first | (go_at_call 86; refine (frGood_any _ _ _).mono ?_; rintro e w1 ⟨rfl, hb⟩; have hz := hb.size; (try simp only [World.size_alloc, World.size_setCell, World.size_drew, World.heap_drewN] at hz); try (refine keepc hb (w.heap.size) ?_ ?_; (focus (first | omega | (simp <;> omega))); intro hc0 hf0 hl0); try (refine keepc hb (w.heap.size + 1) ?_ ?_; (focus (first | omega | (simp <;> omega))); intro hc1 hf1 hl1); try (refine keepc hb (w.heap.size + 1 + 1) ?_ ?_; (focus (first | omega | (simp <;> omega))); intro hc2 hf2 hl2)))
      first
        | exact bodyPost_ret (v := .tuple #[.agg #[.int .i64 0, .int .i64 0], .bool false]) (by simp [results, Try.results65, go_sem, hc0]) rfl (gives HF.out.symm (by repeat' (first | (with_reducible exact Below.refl _ _) | (with_reducible assumption) | (with_reducible refine Below.alloc ?_ ?_ _) | (with_reducible refine Below.setCell ?_ ?_ _) | (with_reducible refine Below.drew ?_) | (with_reducible refine below_drewN ?_ _) | (apply bthen2; (with_reducible assumption)) | go_size)))
        | exact bodyPost_ret (v := .tuple #[.agg #[.int .i64 _, .int .i64 _], .bool true]) (by simp [results, Try.results65, go_sem, hc0]) rfl (gives HF.out.symm (by repeat' (first | (with_reducible exact Below.refl _ _) | (with_reducible assumption) | (with_reducible refine Below.alloc ?_ ?_ _) | (with_reducible refine Below.setCell ?_ ?_ _) | (with_reducible refine Below.drew ?_) | (with_reducible refine below_drewN ?_ _) | (apply bthen2; (with_reducible assumption)) | go_size)))
        | (go_show; sorry)

theorem toTwoCurve_any (a b : Int) (w : World) : Calls Try.prog 26 #[.agg #[.int .i64 a, .int .i64 b]] w (Gives (.agg #[.int .i64 a, .int .i64 b]) w) := by
  go_enter Try.func26, Try.ntmps26
  go_wp2
  go_returns
  exact gives rfl (by repeat' (first | (with_reducible exact Below.refl _ _) | (with_reducible assumption) | (with_reducible refine Below.alloc ?_ ?_ _) | (with_reducible refine Below.setCell ?_ ?_ _) | (with_reducible refine Below.drew ?_) | (with_reducible refine below_drewN ?_ _) | (apply bthen2; (with_reducible assumption)) | go_size))

theorem toFraction_any (a b : Int) (w : World) : Calls Try.prog 41 #[.agg #[.int .i64 a, .int .i64 b]] w (Gives (.agg #[.int .i64 a, .int .i64 b]) w) := by
  go_enter Try.func41, Try.ntmps41
  go_wp2
  go_returns
  exact gives rfl (by repeat' (first | (with_reducible exact Below.refl _ _) | (with_reducible assumption) | (with_reducible refine Below.alloc ?_ ?_ _) | (with_reducible refine Below.setCell ?_ ?_ _) | (with_reducible refine Below.drew ?_) | (with_reducible refine below_drewN ?_ _) | (apply bthen2; (with_reducible assumption)) | go_size))

theorem eqFraction_same (a b : Int) (w : World) : Calls Try.prog 28 #[.agg #[.int .i64 a, .int .i64 b], .agg #[.int .i64 a, .int .i64 b]] w (Gives (.bool true) w) := by
  go_enter Try.func28, Try.ntmps28
  go_wp2
  go_ret
  exact gives rfl (by repeat' (first | (with_reducible exact Below.refl _ _) | (with_reducible assumption) | (with_reducible refine Below.alloc ?_ ?_ _) | (with_reducible refine Below.setCell ?_ ?_ _) | (with_reducible refine Below.drew ?_) | (with_reducible refine below_drewN ?_ _) | (apply bthen2; (with_reducible assumption)) | go_size))

/-! ### two-curves -/
def isT (a b : Int) : Bool := inB a (-300) 300 && inB b (-300) 300 && b != 0 && wrap64 (a*a) != wrap64 (4*b)

theorem isTwoCurve_any (a b : Int) (w : World) : Calls Try.prog 66 #[.agg #[.int .i64 a, .int .i64 b]] w (Gives (.bool (isT a b)) w) := by
  cases g0 : inB a (-300) 300
  · go_enter Try.func66, Try.ntmps66
    go_wp2_with (go_at_call 67; refine (inside_any _ _ _ _).mono ?_; rintro e w1 ⟨rfl, rfl⟩)
    go_ret; exact gives (vbool (by simp [isT, g0])) (by repeat' (first | (with_reducible exact Below.refl _ _) | (with_reducible assumption) | (with_reducible refine Below.alloc ?_ ?_ _) | (with_reducible refine Below.setCell ?_ ?_ _) | (with_reducible refine Below.drew ?_) | (with_reducible refine below_drewN ?_ _) | (apply bthen2; (with_reducible assumption)) | go_size))
  cases g1 : inB b (-300) 300
  · go_enter Try.func66, Try.ntmps66
    go_wp2_with (go_at_call 67; refine (inside_any _ _ _ _).mono ?_; rintro e w1 ⟨rfl, rfl⟩)
    go_ret; exact gives (vbool (by simp [isT, g0, g1])) (by repeat' (first | (with_reducible exact Below.refl _ _) | (with_reducible assumption) | (with_reducible refine Below.alloc ?_ ?_ _) | (with_reducible refine Below.setCell ?_ ?_ _) | (with_reducible refine Below.drew ?_) | (with_reducible refine below_drewN ?_ _) | (apply bthen2; (with_reducible assumption)) | go_size))
  by_cases g2 : b = 0
  · have e : isT a b = false := by simp [isT, g2]
    have E := Lib.hid e; clear e
    subst g2
    go_enter Try.func66, Try.ntmps66
    go_wp2_with (go_at_call 67; refine (inside_any _ _ _ _).mono ?_; rintro e w1 ⟨rfl, rfl⟩)
    go_ret; exact gives (vbool (by rw [E.out])) (by repeat' (first | (with_reducible exact Below.refl _ _) | (with_reducible assumption) | (with_reducible refine Below.alloc ?_ ?_ _) | (with_reducible refine Below.setCell ?_ ?_ _) | (with_reducible refine Below.drew ?_) | (with_reducible refine below_drewN ?_ _) | (apply bthen2; (with_reducible assumption)) | go_size))
  · have g2' : (b != 0) = true := by simpa using g2
    have e : isT a b = (wrap64 (a*a) != wrap64 (4*b)) := by simp [isT, g0, g1, g2]
    have E := Lib.hid e; clear e
    go_enter Try.func66, Try.ntmps66
    go_wp2_with (go_at_call 67; refine (inside_any _ _ _ _).mono ?_; rintro e w1 ⟨rfl, rfl⟩)
    go_ret; exact gives (vbool (by rw [E.out])) (by repeat' (first | (with_reducible exact Below.refl _ _) | (with_reducible assumption) | (with_reducible refine Below.alloc ?_ ?_ _) | (with_reducible refine Below.setCell ?_ ?_ _) | (with_reducible refine Below.drew ?_) | (with_reducible refine below_drewN ?_ _) | (apply bthen2; (with_reducible assumption)) | go_size))

theorem tcGood_any (a b : Int) (w : World) : Calls Try.prog 60 #[.agg #[.int .i64 a, .int .i64 b]] w (Gives (.bool (isT a b)) w) := by
  cases g0 : inB a (-300) 300
  · go_enter Try.func60, Try.ntmps60
    go_wp2_with (go_at_call 62; refine (l1In_any _ _ _ _).mono ?_; rintro e w1 ⟨rfl, rfl⟩)
    go_ret; exact gives (vbool (by simp [isT, g0])) (by repeat' (first | (with_reducible exact Below.refl _ _) | (with_reducible assumption) | (with_reducible refine Below.alloc ?_ ?_ _) | (with_reducible refine Below.setCell ?_ ?_ _) | (with_reducible refine Below.drew ?_) | (with_reducible refine below_drewN ?_ _) | (apply bthen2; (with_reducible assumption)) | go_size))
  cases g1 : inB b (-300) 300
  · go_enter Try.func60, Try.ntmps60
    go_wp2_with (go_at_call 62; refine (l1In_any _ _ _ _).mono ?_; rintro e w1 ⟨rfl, rfl⟩)
    go_ret; exact gives (vbool (by simp [isT, g0, g1])) (by repeat' (first | (with_reducible exact Below.refl _ _) | (with_reducible assumption) | (with_reducible refine Below.alloc ?_ ?_ _) | (with_reducible refine Below.setCell ?_ ?_ _) | (with_reducible refine Below.drew ?_) | (with_reducible refine below_drewN ?_ _) | (apply bthen2; (with_reducible assumption)) | go_size))
  by_cases g2 : b = 0
  · have e : isT a b = false := by simp [isT, g2]
    have E := Lib.hid e; clear e
    subst g2
    go_enter Try.func60, Try.ntmps60
    go_wp2_with (go_at_call 62; refine (l1In_any _ _ _ _).mono ?_; rintro e w1 ⟨rfl, rfl⟩)
    go_ret; exact gives (vbool (by rw [E.out])) (by repeat' (first | (with_reducible exact Below.refl _ _) | (with_reducible assumption) | (with_reducible refine Below.alloc ?_ ?_ _) | (with_reducible refine Below.setCell ?_ ?_ _) | (with_reducible refine Below.drew ?_) | (with_reducible refine below_drewN ?_ _) | (apply bthen2; (with_reducible assumption)) | go_size))
  · have g2' : (b != 0) = true := by simpa using g2
    have e : isT a b = (wrap64 (a*a) != wrap64 (4*b)) := by simp [isT, g0, g1, g2]
    have E := Lib.hid e; clear e
    go_enter Try.func60, Try.ntmps60
    go_wp2_with (go_at_call 62; refine (l1In_any _ _ _ _).mono ?_; rintro e w1 ⟨rfl, rfl⟩)
    go_ret; exact gives (vbool (by rw [E.out])) (by repeat' (first | (with_reducible exact Below.refl _ _) | (with_reducible assumption) | (with_reducible refine Below.alloc ?_ ?_ _) | (with_reducible refine Below.setCell ?_ ?_ _) | (with_reducible refine Below.drew ?_) | (with_reducible refine below_drewN ?_ _) | (apply bthen2; (with_reducible assumption)) | go_size))

def tcD (b d : Int) : Bool := inB d (-300) 300 && d != 0 && b.tmod d == 0
theorem tcDivides_any (a b d : Int) (w : World) : Calls Try.prog 61 #[.agg #[.int .i64 a, .int .i64 b], .int .i64 d] w (Gives (.bool (tcD b d)) w) := by
  cases g0 : inB d (-300) 300
  · go_enter Try.func61, Try.ntmps61
    go_wp2_with (go_at_call 62; refine (l1In_any _ _ _ _).mono ?_; rintro e w1 ⟨rfl, rfl⟩)
    go_ret; exact gives (vbool (by simp [tcD, g0])) (by repeat' (first | (with_reducible exact Below.refl _ _) | (with_reducible assumption) | (with_reducible refine Below.alloc ?_ ?_ _) | (with_reducible refine Below.setCell ?_ ?_ _) | (with_reducible refine Below.drew ?_) | (with_reducible refine below_drewN ?_ _) | (apply bthen2; (with_reducible assumption)) | go_size))
  by_cases g2 : d = 0
  · subst g2
    have e : tcD b 0 = false := by simp [tcD]
    have E := Lib.hid e; clear e
    go_enter Try.func61, Try.ntmps61
    go_wp2_with (go_at_call 62; refine (l1In_any _ _ _ _).mono ?_; rintro e w1 ⟨rfl, rfl⟩)
    go_ret; exact gives (vbool (by rw [E.out])) (by repeat' (first | (with_reducible exact Below.refl _ _) | (with_reducible assumption) | (with_reducible refine Below.alloc ?_ ?_ _) | (with_reducible refine Below.setCell ?_ ?_ _) | (with_reducible refine Below.drew ?_) | (with_reducible refine below_drewN ?_ _) | (apply bthen2; (with_reducible assumption)) | go_size))
  · have g2' : (d != 0) = true := by simpa using g2
    have e : tcD b d = (b.tmod d == 0) := by simp [tcD, g0, g2]
    have E := Lib.hid e; clear e
    go_enter Try.func61, Try.ntmps61
    go_wp2_with (go_at_call 62; refine (l1In_any _ _ _ _).mono ?_; rintro e w1 ⟨rfl, rfl⟩)
    go_ret; exact gives (vbool (by rw [E.out])) (by repeat' (first | (with_reducible exact Below.refl _ _) | (with_reducible assumption) | (with_reducible refine Below.alloc ?_ ?_ _) | (with_reducible refine Below.setCell ?_ ?_ _) | (with_reducible refine Below.drew ?_) | (with_reducible refine below_drewN ?_ _) | (apply bthen2; (with_reducible assumption)) | go_size))

theorem tcQuartic_any (a b d : Int) (hd : ¬ d = 0) (h1 : -300 ≤ b) (h2 : b ≤ 300) (w : World) : Calls Try.prog 64 #[.agg #[.int .i64 a, .int .i64 b], .int .i64 d] w (Gives (.agg #[.int .i64 d, .int .i64 a, .int .i64 (b.tdiv d)]) w) := by
  have b1 := tdiv_bd b d
  have c1 : -9223372036854775808 ≤ b.tdiv d := by omega
  have c2 : b.tdiv d ≤ 9223372036854775807 := by omega
  clear b1
  go_enter Try.func64, Try.ntmps64
  go_wp2
  go_region
  all_goals go_wp2
  all_goals (go_returns; exact gives rfl (by repeat' (first | (with_reducible exact Below.refl _ _) | (with_reducible assumption) | (with_reducible refine Below.alloc ?_ ?_ _) | (with_reducible refine Below.setCell ?_ ?_ _) | (with_reducible refine Below.drew ?_) | (with_reducible refine below_drewN ?_ _) | (apply bthen2; (with_reducible assumption)) | go_size)))

end Go.Proofs.Ytaboopioocpkdaa
