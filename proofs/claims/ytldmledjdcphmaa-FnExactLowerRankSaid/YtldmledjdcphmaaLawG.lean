import Derived.Test.YtldmledjdcphmaaClass
import Derived.Test.YtldmledjdcphmaaNumC
set_option linter.unusedSimpArgs false
set_option linter.unusedVariables false
namespace Go.Proofs.Ytldmledjdcphmaa
open Go.RowKit
/-! ### classes and their products -/

noncomputable def clB (d : Int) : Bool := inB d (-1000000) 1000000 && d != 0 && sqf d == d
theorem clB_f {d : Int} (h : clB d = true) : -1000000 ≤ d ∧ d ≤ 1000000 ∧ d ≠ 0 ∧ sqf d = d := by
  unfold clB at h
  simp only [Bool.and_eq_true, inB_iff, bne_iff_ne, ne_eq, beq_iff_eq] at h
  exact ⟨h.1.1.1, h.1.1.2, h.1.2, h.2⟩

theorem isClass_any (d : Int) (w : World) : Calls Try.prog 49 #[.int .i64 d] w (Gives (.bool (clB d)) w) := by
  by_cases h0 : d = 0
  · subst h0
    have E := Lib.hid (show clB 0 = false by simp [clB])
    go_enter Try.func49, Try.ntmps49
    go_wp2
    go_ret; exact gives (vbool E.out.symm) (by repeat' (first | (with_reducible exact Below.refl _ _) | (with_reducible assumption) | (with_reducible refine Below.alloc ?_ ?_ _) | (with_reducible refine Below.setCell ?_ ?_ _) | (with_reducible refine Below.drew ?_) | (with_reducible refine below_drewN ?_ _) | (apply bthen2; (with_reducible assumption)) | go_size))
  · have hd : (d != 0) = true := by simpa using h0
    cases g : inB d (-1000000) 1000000
    · have E := Lib.hid (show clB d = false by simp [clB, g])
      go_enter Try.func49, Try.ntmps49
      go_wp2_with (first | (go_at_call 48; refine (inside_any _ _ _ _).mono ?_; rintro e w1 ⟨rfl, rfl⟩))
      go_ret; exact gives (vbool E.out.symm) (by repeat' (first | (with_reducible exact Below.refl _ _) | (with_reducible assumption) | (with_reducible refine Below.alloc ?_ ?_ _) | (with_reducible refine Below.setCell ?_ ?_ _) | (with_reducible refine Below.drew ?_) | (with_reducible refine below_drewN ?_ _) | (apply bthen2; (with_reducible assumption)) | go_size))
    · have hb := inB_iff.1 g
      have HS := Lib.hid (fun w => squarefree_any d h0 (by omega) (by omega) w)
      have E := Lib.hid (show clB d = (sqf d == d) by simp [clB, g, h0])
      generalize sqf d = s at *
      clear h0
      go_enter Try.func49, Try.ntmps49
      go_wp2_with (first | (go_at_call 48; refine (inside_any _ _ _ _).mono ?_; rintro e w1 ⟨rfl, rfl⟩) | (go_at_call 77; refine (HS.out _).mono ?_; rintro e w1 ⟨rfl, hb⟩; have hz := hb.size; (try simp only [World.size_alloc, World.size_setCell, World.size_drew, World.heap_drewN] at hz); try (refine keepc hb (w.heap.size) ?_ ?_; (focus (first | omega | (simp <;> omega))); intro hc0 hf0 hl0); try (refine keepc hb (w.heap.size + 1) ?_ ?_; (focus (first | omega | (simp <;> omega))); intro hc1 hf1 hl1); try (refine keepc hb (w.heap.size + 1 + 1) ?_ ?_; (focus (first | omega | (simp <;> omega))); intro hc2 hf2 hl2)))
      go_ret; exact gives (vbool E.out.symm) (by repeat' (first | (with_reducible exact Below.refl _ _) | (with_reducible assumption) | (with_reducible refine Below.alloc ?_ ?_ _) | (with_reducible refine Below.setCell ?_ ?_ _) | (with_reducible refine Below.drew ?_) | (with_reducible refine below_drewN ?_ _) | (apply bthen2; (with_reducible assumption)) | go_size))

theorem dsClass_any (d : Int) (w : World) : Calls Try.prog 74 #[.int .i64 d] w (Gives (.bool (clB d)) w) := by
  cases g : inB d (-1000000) 1000000
  · have E := Lib.hid (show clB d = false by simp [clB, g])
    go_enter Try.func74, Try.ntmps74
    go_wp2_with (first | (go_at_call 61; refine (l1In_any _ _ _ _).mono ?_; rintro e w1 ⟨rfl, rfl⟩))
    go_ret; exact gives (vbool E.out.symm) (by repeat' (first | (with_reducible exact Below.refl _ _) | (with_reducible assumption) | (with_reducible refine Below.alloc ?_ ?_ _) | (with_reducible refine Below.setCell ?_ ?_ _) | (with_reducible refine Below.drew ?_) | (with_reducible refine below_drewN ?_ _) | (apply bthen2; (with_reducible assumption)) | go_size))
  · by_cases h0 : d = 0
    · have E := Lib.hid (show clB d = false by simp [clB, h0])
      have hd : (d != 0) = false := by simpa using h0
      clear h0
      go_enter Try.func74, Try.ntmps74
      go_wp2_with (first | (go_at_call 61; refine (l1In_any _ _ _ _).mono ?_; rintro e w1 ⟨rfl, rfl⟩))
      go_ret; exact gives (vbool E.out.symm) (by repeat' (first | (with_reducible exact Below.refl _ _) | (with_reducible assumption) | (with_reducible refine Below.alloc ?_ ?_ _) | (with_reducible refine Below.setCell ?_ ?_ _) | (with_reducible refine Below.drew ?_) | (with_reducible refine below_drewN ?_ _) | (apply bthen2; (with_reducible assumption)) | go_size))
    · have hd : (d != 0) = true := by simpa using h0
      have hb := inB_iff.1 g
      have HS := Lib.hid (fun w => tcClass_any d h0 (by omega) (by omega) w)
      have E := Lib.hid (show clB d = (sqf d == d) by simp [clB, g, h0])
      generalize sqf d = s at *
      clear h0
      go_enter Try.func74, Try.ntmps74
      go_wp2_with (first | (go_at_call 61; refine (l1In_any _ _ _ _).mono ?_; rintro e w1 ⟨rfl, rfl⟩) | (go_at_call 82; refine (HS.out _).mono ?_; rintro e w1 ⟨rfl, hb⟩; have hz := hb.size; (try simp only [World.size_alloc, World.size_setCell, World.size_drew, World.heap_drewN] at hz); try (refine keepc hb (w.heap.size) ?_ ?_; (focus (first | omega | (simp <;> omega))); intro hc0 hf0 hl0); try (refine keepc hb (w.heap.size + 1) ?_ ?_; (focus (first | omega | (simp <;> omega))); intro hc1 hf1 hl1); try (refine keepc hb (w.heap.size + 1 + 1) ?_ ?_; (focus (first | omega | (simp <;> omega))); intro hc2 hf2 hl2)))
      go_ret; exact gives (vbool E.out.symm) (by repeat' (first | (with_reducible exact Below.refl _ _) | (with_reducible assumption) | (with_reducible refine Below.alloc ?_ ?_ _) | (with_reducible refine Below.setCell ?_ ?_ _) | (with_reducible refine Below.drew ?_) | (with_reducible refine below_drewN ?_ _) | (apply bthen2; (with_reducible assumption)) | go_size))

def prd (d e : Int) : Int := d.tdiv (Int.gcd d e) * e.tdiv (Int.gcd d e)
theorem tdiv_b {a g : Int} (h1 : -1000000 ≤ a) (h2 : a ≤ 1000000) : -1000000 ≤ a.tdiv g ∧ a.tdiv g ≤ 1000000 := by
  have : (a.tdiv g).natAbs ≤ a.natAbs := by rw [Int.natAbs_tdiv]; exact Nat.div_le_self _ _
  omega
theorem mul_b {a b : Int} (h1 : -1000000 ≤ a) (h2 : a ≤ 1000000) (h3 : -1000000 ≤ b) (h4 : b ≤ 1000000) : -1000000000000 ≤ a * b ∧ a * b ≤ 1000000000000 := by
  have : (a * b).natAbs ≤ 1000000 * 1000000 := by rw [Int.natAbs_mul]; exact Nat.mul_le_mul (by omega) (by omega)
  omega
theorem tdiv_ne {a g : Int} (h : a ≠ 0) (hg : g ∣ a) : a.tdiv g ≠ 0 := by
  intro h0
  have := Int.tdiv_mul_cancel hg
  rw [h0] at this
  simp at this
  exact h this.symm
theorem prd_b {d e : Int} (h1 : clB d = true) (h2 : clB e = true) : -1000000000000 ≤ prd d e ∧ prd d e ≤ 1000000000000 ∧ prd d e ≠ 0 := by
  obtain ⟨a1, a2, a3, -⟩ := clB_f h1
  obtain ⟨b1, b2, b3, -⟩ := clB_f h2
  have t1 := tdiv_b (g := (Int.gcd d e : Int)) a1 a2
  have t2 := tdiv_b (g := (Int.gcd d e : Int)) b1 b2
  have m := mul_b t1.1 t1.2 t2.1 t2.2
  exact ⟨m.1, m.2, Int.mul_ne_zero (tdiv_ne a3 (Int.gcd_dvd_left ..)) (tdiv_ne b3 (Int.gcd_dvd_right ..))⟩
theorem gcd_1 {d e : Int} (h : d ≠ 0) : 1 ≤ (Int.gcd d e : Int) := by
  have : Int.gcd d e ≠ 0 := by intro h0; exact h (Int.eq_zero_of_gcd_eq_zero_left h0)
  omega
noncomputable def prR (d e : Int) : Value := if clB (prd d e) then .tuple #[.int .i64 (prd d e), .bool true] else .tuple #[.int .i64 0, .bool false]

theorem productClass_any (d e : Int) (h1 : clB d = true) (h2 : clB e = true) (w : World) : Calls Try.prog 79 #[.int .i64 d, .int .i64 e] w (Gives (prR d e) w) := by
  obtain ⟨a1, a2, a3, -⟩ := clB_f h1
  obtain ⟨b1, b2, b3, -⟩ := clB_f h2
  obtain ⟨m1, m2, m3⟩ := prd_b h1 h2
  have g1 := gcd_1 (e := e) a3
  have HG := Lib.hid (fun w => (gcd_any d e (by omega) (by omega) (by omega) (by omega) w).mono fun _ _ h => gives_of_quiet h)
  have hP : prd d e = d.tdiv (Int.gcd d e) * e.tdiv (Int.gcd d e) := rfl
  have hC := isClass_any (prd d e)
  have hR : prR d e = if clB (prd d e) then .tuple #[.int .i64 (prd d e), .bool true] else .tuple #[.int .i64 0, .bool false] := rfl
  generalize prR d e = R at *
  generalize prd d e = P at *
  generalize (Int.gcd d e : Int) = G at *
  have hw : IntKind.i64.wrap (d.tdiv G * e.tdiv G) = P := by rw [← hP]; exact IntWalk.i64_in _ (by omega)
  have g0 : ¬ G = 0 := by omega
  have HC := Lib.hid hC
  clear h1 h2 a3 b3 m3 hC hP
  cases c : clB P
  all_goals
    rw [c] at HC
    simp only [c, if_true, if_false, Bool.false_eq_true] at hR
    subst hR
    clear c
    go_enter Try.func79, Try.ntmps79
    go_wp2_with (first | (go_at_call 92; refine (HG.out _).mono ?_; rintro e w1 ⟨rfl, hb⟩; have hz := hb.size; (try simp only [World.size_alloc, World.size_setCell, World.size_drew, World.heap_drewN] at hz); try (refine keepc hb (w.heap.size) ?_ ?_; (focus (first | omega | (simp <;> omega))); intro hc0 hf0 hl0); try (refine keepc hb (w.heap.size + 1) ?_ ?_; (focus (first | omega | (simp <;> omega))); intro hc1 hf1 hl1); try (refine keepc hb (w.heap.size + 1 + 1) ?_ ?_; (focus (first | omega | (simp <;> omega))); intro hc2 hf2 hl2)))
    go_quiet (fail)
    go_wp2_with (first | (go_at_call 49; refine (HC.out _).mono ?_; rintro e w1 ⟨rfl, hb⟩; have hz := hb.size; (try simp only [World.size_alloc, World.size_setCell, World.size_drew, World.heap_drewN] at hz); try (refine keepc hb (w.heap.size) ?_ ?_; (focus (first | omega | (simp <;> omega))); intro hc0 hf0 hl0); try (refine keepc hb (w.heap.size + 1) ?_ ?_; (focus (first | omega | (simp <;> omega))); intro hc1 hf1 hl1); try (refine keepc hb (w.heap.size + 1 + 1) ?_ ?_; (focus (first | omega | (simp <;> omega))); intro hc2 hf2 hl2)))
    go_ret2; exact gives rfl (by repeat' (first | (with_reducible exact Below.refl _ _) | (with_reducible assumption) | (with_reducible refine Below.alloc ?_ ?_ _) | (with_reducible refine Below.setCell ?_ ?_ _) | (with_reducible refine Below.drew ?_) | (with_reducible refine below_drewN ?_ _) | (apply bthen2; (with_reducible assumption)) | go_size))

theorem gcd_abs (d e : Int) : Int.gcd (max d (-d)) (max e (-e)) = Int.gcd d e := by
  unfold Int.gcd
  have h1 : (max d (-d)).natAbs = d.natAbs := by omega
  have h2 : (max e (-e)).natAbs = e.natAbs := by omega
  rw [h1, h2]
theorem dsProduct_any (d e : Int) (h1 : clB d = true) (h2 : clB e = true) (w : World) : Calls Try.prog 76 #[.int .i64 d, .int .i64 e] w (Gives (.int .i64 (prd d e)) w) := by
  obtain ⟨a1, a2, a3, -⟩ := clB_f h1
  obtain ⟨b1, b2, b3, -⟩ := clB_f h2
  obtain ⟨m1, m2, m3⟩ := prd_b h1 h2
  have g1 := gcd_1 (e := e) a3
  have HA := Lib.hid (show ∀ x w, -1000000 ≤ x → x ≤ 1000000 → Calls Try.prog 63 #[.int .i64 x] w (Same (.int .i64 (max x (-x))) w) from fun x w hx1 hx2 => by have := l1Abs_any x w; rwa [win (n := -x) (by omega)] at this)
  have HG := Lib.hid (show ∀ w, Calls Try.prog 90 #[.int .i64 (max d (-d)), .int .i64 (max e (-e))] w (Same (.int .i64 (Int.gcd d e : Int)) w) from fun w => by have := bgCommon_any (max d (-d)) (max e (-e)) (by omega) (by omega) w; rwa [gcd_abs] at this)
  have hP : prd d e = d.tdiv (Int.gcd d e) * e.tdiv (Int.gcd d e) := rfl
  generalize prd d e = P at *
  generalize (Int.gcd d e : Int) = G at *
  have hw : IntKind.i64.wrap (d.tdiv G * e.tdiv G) = P := by rw [← hP]; exact IntWalk.i64_in _ (by omega)
  have g0 : ¬ G = 0 := by omega
  clear h1 h2 a3 b3 m3 hP
  go_enter Try.func76, Try.ntmps76
  go_wp2_with (first | (go_at_call 63; refine (HA.out _ _ (by omega) (by omega)).mono ?_; rintro e w1 ⟨rfl, rfl⟩) | (go_at_call 90; refine (HG.out _).mono ?_; rintro e w1 ⟨rfl, rfl⟩))
  go_quiet (fail)
  go_wp2
  go_ret; exact gives rfl (by repeat' (first | (with_reducible exact Below.refl _ _) | (with_reducible assumption) | (with_reducible refine Below.alloc ?_ ?_ _) | (with_reducible refine Below.setCell ?_ ?_ _) | (with_reducible refine Below.drew ?_) | (with_reducible refine below_drewN ?_ _) | (apply bthen2; (with_reducible assumption)) | go_size))

end Go.Proofs.Ytldmledjdcphmaa
