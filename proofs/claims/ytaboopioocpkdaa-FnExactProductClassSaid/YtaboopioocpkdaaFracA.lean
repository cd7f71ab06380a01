import Derived.Test.YtaboopioocpkdaaNumC
set_option linter.unusedSimpArgs false
set_option linter.unusedVariables false
namespace Go.Proofs.Ytaboopioocpkdaa
open Go.RowKit

/-! ### fractions -/
def isF (n d : Int) : Bool := inB d 1 1000000000 && inB n (-1000000000) 1000000000 && ((Int.gcd n d : Nat) : Int) == 1
def mkD (num den : Int) : Int := if den < 0 then -((Int.gcd num den : Nat) : Int) else ((Int.gcd num den : Nat) : Int)
def mkOk (num den : Int) : Bool := isF (num.tdiv (mkD num den)) (den.tdiv (mkD num den))
def mkF (num den : Int) : Value := if mkOk num den then .tuple #[.agg #[.int .i64 (num.tdiv (mkD num den)), .int .i64 (den.tdiv (mkD num den))], .bool true] else .tuple #[.agg #[.int .i64 0, .int .i64 0], .bool false]
theorem gcd_ne (num den : Int) (h : den ≠ 0) : 1 ≤ Int.gcd num den := by
  have : Int.gcd num den ≠ 0 := by rw [Ne, Int.gcd_eq_zero_iff]; omega
  omega
theorem gcd_le (num den : Int) (h : den ≠ 0) : Int.gcd num den ≤ den.natAbs := Nat.le_of_dvd (by omega) (Nat.gcd_dvd_right _ _)
theorem tdiv_bd (a b : Int) : (a.tdiv b).natAbs ≤ a.natAbs := by rw [Int.natAbs_tdiv]; exact Nat.div_le_self _ _

theorem isFraction_any (n d : Int) (w : World) : Calls Try.prog 88 #[.agg #[.int .i64 n, .int .i64 d]] w (Gives (.bool (isF n d)) w) := by
  cases g0 : inB d 1 1000000000
  · go_enter Try.func88, Try.ntmps88
    go_wp2_with (first | (go_at_call 67; refine (inside_any _ _ _ _).mono ?_; rintro e w1 ⟨rfl, rfl⟩))
    go_ret; exact gives (vbool (by simp [isF, g0])) (by repeat' (first | (with_reducible exact Below.refl _ _) | (with_reducible assumption) | (with_reducible refine Below.alloc ?_ ?_ _) | (with_reducible refine Below.setCell ?_ ?_ _) | (with_reducible refine Below.drew ?_) | (with_reducible refine below_drewN ?_ _) | (apply bthen2; (with_reducible assumption)) | go_size))
  cases g1 : inB n (-1000000000) 1000000000
  · go_enter Try.func88, Try.ntmps88
    go_wp2_with (first | (go_at_call 67; refine (inside_any _ _ _ _).mono ?_; rintro e w1 ⟨rfl, rfl⟩))
    go_ret; exact gives (vbool (by simp [isF, g0, g1])) (by repeat' (first | (with_reducible exact Below.refl _ _) | (with_reducible assumption) | (with_reducible refine Below.alloc ?_ ?_ _) | (with_reducible refine Below.setCell ?_ ?_ _) | (with_reducible refine Below.drew ?_) | (with_reducible refine below_drewN ?_ _) | (apply bthen2; (with_reducible assumption)) | go_size))
  have a1 : -9223372036854775807 ≤ n := by have := (inB_iff.1 g1).1; omega
  have a2 : n ≤ 9223372036854775807 := by have := (inB_iff.1 g1).2; omega
  have a3 : -9223372036854775807 ≤ d := by have := (inB_iff.1 g0).1; omega
  have a4 : d ≤ 9223372036854775807 := by have := (inB_iff.1 g0).2; omega
  go_enter Try.func88, Try.ntmps88
  go_wp2_with (first | (go_at_call 67; refine (inside_any _ _ _ _).mono ?_; rintro e w1 ⟨rfl, rfl⟩) | (go_at_call 111; refine (gcd_any n d a1 a2 a3 a4 _).mono ?_; rintro e w1 ⟨rfl, nq, rfl⟩))
  go_ret; exact gives (vbool (by simp [isF, g0, g1])) (by repeat' (first | (with_reducible exact Below.refl _ _) | (with_reducible assumption) | (with_reducible refine Below.alloc ?_ ?_ _) | (with_reducible refine Below.setCell ?_ ?_ _) | (with_reducible refine Below.drew ?_) | (with_reducible refine below_drewN ?_ _) | (apply bthen2; (with_reducible assumption)) | go_size))

set_option maxHeartbeats 4000000 in
theorem frGood_any (n d : Int) (w : World) : Calls Try.prog 86 #[.agg #[.int .i64 n, .int .i64 d]] w (Gives (.bool (isF n d)) w) := by
  cases g0 : inB d 1 1000000000
  · go_enter Try.func86, Try.ntmps86
    go_wp2
    go_quiet ((go_at_call 62; exact qs (l1In_any _ _ _ _)))
    go_wp2
    go_ret; exact gives (vbool (by simp [isF, g0])) (by repeat' (first | (with_reducible exact Below.refl _ _) | (with_reducible assumption) | (with_reducible refine Below.alloc ?_ ?_ _) | (with_reducible refine Below.setCell ?_ ?_ _) | (with_reducible refine Below.drew ?_) | (with_reducible refine below_drewN ?_ _) | (apply bthen2; (with_reducible assumption)) | go_size))
  cases g1 : inB n (-1000000000) 1000000000
  · go_enter Try.func86, Try.ntmps86
    go_wp2
    go_quiet ((go_at_call 62; exact qs (l1In_any _ _ _ _)))
    go_wp2
    go_ret; exact gives (vbool (by simp [isF, g0, g1])) (by repeat' (first | (with_reducible exact Below.refl _ _) | (with_reducible assumption) | (with_reducible refine Below.alloc ?_ ?_ _) | (with_reducible refine Below.setCell ?_ ?_ _) | (with_reducible refine Below.drew ?_) | (with_reducible refine below_drewN ?_ _) | (apply bthen2; (with_reducible assumption)) | go_size))
  have a1 : -1000000000 ≤ n := (inB_iff.1 g1).1
  have a2 : n ≤ 1000000000 := (inB_iff.1 g1).2
  have a3 : 0 ≤ d := by have := (inB_iff.1 g0).1; omega
  have a5 : 0 ≤ max n (wrap64 (-n)) := by rw [win (by omega)]; omega
  have hg : ∀ w, Calls Try.prog 109 #[.int .i64 (max n (wrap64 (-n))), .int .i64 d] w (Same (.int .i64 (Int.gcd n d)) w) := fun w => by
    have e : Int.gcd (max n (wrap64 (-n))) d = Int.gcd n d := by
      have : (max n (wrap64 (-n))).natAbs = n.natAbs := by rw [win (by omega)]; omega
      show Nat.gcd _ _ = Nat.gcd _ _; rw [this]
    rw [← e]; exact bgCommon_any _ _ a5 a3 w
  have ha : ∀ w, Calls Try.prog 110 #[.int .i64 n] w (Same (.int .i64 (max n (wrap64 (-n)))) w) := fun w => l1Abs_any n w
  generalize max n (wrap64 (-n)) = A at hg ha
  have HG := Lib.hid hg; have HA := Lib.hid ha; clear hg a5 ha
  go_enter Try.func86, Try.ntmps86
  go_wp2
  go_quiet ((first | (go_at_call 62; exact qs (l1In_any _ _ _ _)) | (go_at_call 110; exact qs (HA.out _)) | (go_at_call 109; exact qs (HG.out _))))
  go_wp2
  go_ret; exact gives (vbool (by simp [isF, g0, g1])) (by repeat' (first | (with_reducible exact Below.refl _ _) | (with_reducible assumption) | (with_reducible refine Below.alloc ?_ ?_ _) | (with_reducible refine Below.setCell ?_ ?_ _) | (with_reducible refine Below.drew ?_) | (with_reducible refine below_drewN ?_ _) | (apply bthen2; (with_reducible assumption)) | go_size))

set_option maxHeartbeats 4000000 in
theorem makeFraction_any (num den : Int) (h0 : den ≠ 0) (a1 : -9223372036854775807 ≤ num) (a2 : num ≤ 9223372036854775807) (a3 : -9223372036854775807 ≤ den) (a4 : den ≤ 9223372036854775807) (w : World) : Calls Try.prog 69 #[.int .i64 num, .int .i64 den] w (Gives (mkF num den) w) := by
  have g1 := gcd_ne num den h0
  have g2 := gcd_le num den h0
  have HC := Lib.hid (fun w => gcd_any num den a1 a2 a3 a4 w)
  have b1 := tdiv_bd num (mkD num den)
  have b2 := tdiv_bd den (mkD num den)
  have c1 : -9223372036854775808 ≤ num.tdiv (mkD num den) := by omega
  have c2 : num.tdiv (mkD num den) ≤ 9223372036854775807 := by omega
  have c3 : -9223372036854775808 ≤ den.tdiv (mkD num den) := by omega
  have c4 : den.tdiv (mkD num den) ≤ 9223372036854775807 := by omega
  by_cases hs : den < 0
  case pos =>
    have hd : mkD num den = -((Int.gcd num den : Nat) : Int) := by unfold mkD; rw [if_pos hs]
    have hf : mkF num den = (if mkOk num den then .tuple #[.agg #[.int .i64 (num.tdiv (mkD num den)), .int .i64 (den.tdiv (mkD num den))], .bool true] else .tuple #[.agg #[.int .i64 0, .int .i64 0], .bool false]) := rfl
    have hk : isF (num.tdiv (mkD num den)) (den.tdiv (mkD num den)) = mkOk num den := rfl
    rw [hd] at hf hk c1 c2 c3 c4
    simp only [Int.tdiv_neg] at hf hk c1 c2 c3 c4
    cases gk : mkOk num den
    all_goals
      rw [gk] at hf hk
      simp only [Bool.false_eq_true, if_false, if_true] at hf
      generalize Int.gcd num den = G at *
      have HF := Lib.hid hf; clear hf b1 b2 hd gk
      have k0 : (-(G : Int) == 0) = false := by simp; omega
      have k1 : ((G : Int) == 0) = false := by simp; omega
      have k2 : (G == 0) = false := by simp; omega
      have k3 : ¬ G = 0 := by omega
      go_enter Try.func69, Try.ntmps69
      go_wp2_with (first | (go_at_call 111; refine (HC.out _).mono ?_; rintro e w1 ⟨rfl, nq, rfl⟩))
      go_region
      go_wp2_with (first | (go_at_call 88; refine (isFraction_any _ _ _).mono ?_; rintro e w1 ⟨rfl, hb⟩; have hz := hb.size; (try simp only [World.size_alloc, World.size_setCell, World.size_drew, World.heap_drewN] at hz); try (refine keepc hb (w.heap.size) ?_ ?_; (focus (first | omega | (simp <;> omega))); intro hc0 hf0 hl0); try (refine keepc hb (w.heap.size + 1) ?_ ?_; (focus (first | omega | (simp <;> omega))); intro hc1 hf1 hl1); try (refine keepc hb (w.heap.size + 1 + 1) ?_ ?_; (focus (first | omega | (simp <;> omega))); intro hc2 hf2 hl2)))
      first
        | exact bodyPost_ret (v := .tuple #[.agg #[.int .i64 0, .int .i64 0], .bool false]) (by simp [results, Try.results69, go_sem, hc0]) rfl (gives HF.out.symm (by repeat' (first | (with_reducible exact Below.refl _ _) | (with_reducible assumption) | (with_reducible refine Below.alloc ?_ ?_ _) | (with_reducible refine Below.setCell ?_ ?_ _) | (with_reducible refine Below.drew ?_) | (with_reducible refine below_drewN ?_ _) | (apply bthen2; (with_reducible assumption)) | go_size)))
        | exact bodyPost_ret (v := .tuple #[.agg #[.int .i64 _, .int .i64 _], .bool true]) (by simp [results, Try.results69, go_sem, hc0]) rfl (gives HF.out.symm (by repeat' (first | (with_reducible exact Below.refl _ _) | (with_reducible assumption) | (with_reducible refine Below.alloc ?_ ?_ _) | (with_reducible refine Below.setCell ?_ ?_ _) | (with_reducible refine Below.drew ?_) | (with_reducible refine below_drewN ?_ _) | (apply bthen2; (with_reducible assumption)) | go_size)))
        | (go_show; sorry)
  case neg =>
    have hd : mkD num den = ((Int.gcd num den : Nat) : Int) := by unfold mkD; rw [if_neg hs]
    have hf : mkF num den = (if mkOk num den then .tuple #[.agg #[.int .i64 (num.tdiv (mkD num den)), .int .i64 (den.tdiv (mkD num den))], .bool true] else .tuple #[.agg #[.int .i64 0, .int .i64 0], .bool false]) := rfl
    have hk : isF (num.tdiv (mkD num den)) (den.tdiv (mkD num den)) = mkOk num den := rfl
    rw [hd] at hf hk c1 c2 c3 c4
    cases gk : mkOk num den
    all_goals
      rw [gk] at hf hk
      simp only [Bool.false_eq_true, if_false, if_true] at hf
      generalize Int.gcd num den = G at *
      have HF := Lib.hid hf; clear hf b1 b2 hd gk
      have k0 : ((G : Int) == 0) = false := by simp; omega
      have k1 : ((G : Int) == 0) = false := by simp; omega
      have k2 : (G == 0) = false := by simp; omega
      have k3 : ¬ G = 0 := by omega
      go_enter Try.func69, Try.ntmps69
      go_wp2_with (first | (go_at_call 111; refine (HC.out _).mono ?_; rintro e w1 ⟨rfl, nq, rfl⟩))
      go_region
      go_wp2_with (first | (go_at_call 88; refine (isFraction_any _ _ _).mono ?_; rintro e w1 ⟨rfl, hb⟩; have hz := hb.size; (try simp only [World.size_alloc, World.size_setCell, World.size_drew, World.heap_drewN] at hz); try (refine keepc hb (w.heap.size) ?_ ?_; (focus (first | omega | (simp <;> omega))); intro hc0 hf0 hl0); try (refine keepc hb (w.heap.size + 1) ?_ ?_; (focus (first | omega | (simp <;> omega))); intro hc1 hf1 hl1); try (refine keepc hb (w.heap.size + 1 + 1) ?_ ?_; (focus (first | omega | (simp <;> omega))); intro hc2 hf2 hl2)))
      first
        | exact bodyPost_ret (v := .tuple #[.agg #[.int .i64 0, .int .i64 0], .bool false]) (by simp [results, Try.results69, go_sem, hc0]) rfl (gives HF.out.symm (by repeat' (first | (with_reducible exact Below.refl _ _) | (with_reducible assumption) | (with_reducible refine Below.alloc ?_ ?_ _) | (with_reducible refine Below.setCell ?_ ?_ _) | (with_reducible refine Below.drew ?_) | (with_reducible refine below_drewN ?_ _) | (apply bthen2; (with_reducible assumption)) | go_size)))
        | exact bodyPost_ret (v := .tuple #[.agg #[.int .i64 _, .int .i64 _], .bool true]) (by simp [results, Try.results69, go_sem, hc0]) rfl (gives HF.out.symm (by repeat' (first | (with_reducible exact Below.refl _ _) | (with_reducible assumption) | (with_reducible refine Below.alloc ?_ ?_ _) | (with_reducible refine Below.setCell ?_ ?_ _) | (with_reducible refine Below.drew ?_) | (with_reducible refine below_drewN ?_ _) | (apply bthen2; (with_reducible assumption)) | go_size)))
        | (go_show; sorry)

end Go.Proofs.Ytaboopioocpkdaa
