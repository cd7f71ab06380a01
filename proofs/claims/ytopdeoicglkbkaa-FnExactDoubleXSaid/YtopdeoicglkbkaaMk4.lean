import Derived.Test.YtopdeoicglkbkaaMk3
import Derived.Test.YtopdeoicglkbkaaFracA
set_option linter.unusedSimpArgs false
set_option linter.unusedVariables false
namespace Go.Proofs.Ytopdeoicglkbkaa
open Go.RowKit
/-! ### ratios that a call makes -/

/-- The two slices of the call's own, in blocks of their own. -/
def Two (w : World) (B : Nat) (a1 : Option Addr) (l1 c1 : Nat) (xs : List Int) (s2 : Value) (ys : List Int) : Prop := ∃ C, Own w B (.slice a1 l1 c1) xs ∧ Own w C s2 ys ∧ B ≤ C ∧ (∀ ad, a1 = some ad → ad.block < C)
def GivesRt (n1 : Bool) (xs : List Int) (n2 : Bool) (ys : List Int) (w : World) (e : Ending) (w' : World) : Prop := ∃ a1 l1 c1 a2 l2 c2, e = .returned (.agg #[.bool n1, .slice a1 l1 c1, .bool n2, .slice a2 l2 c2]) ∧ Two w' w.heap.size a1 l1 c1 xs (.slice a2 l2 c2) ys ∧ Below w.heap.size w w'
def GivesRB (b n1 : Bool) (xs : List Int) (n2 : Bool) (ys : List Int) (w : World) (e : Ending) (w' : World) : Prop := ∃ a1 l1 c1 a2 l2 c2, e = .returned (.tuple #[.agg #[.bool n1, .slice a1 l1 c1, .bool n2, .slice a2 l2 c2], .bool b]) ∧ Two w' w.heap.size a1 l1 c1 xs (.slice a2 l2 c2) ys ∧ Below w.heap.size w w'
theorem Two.set {w : World} {B : Nat} {a1 : Option Addr} {l1 c1 : Nat} {xs : List Int} {s2 : Value} {ys : List Int} {p : Addr} (h : Two w B a1 l1 c1 xs s2 ys) (hp : p.block < B) (u : Value) : Two (w.setCell p u) B a1 l1 c1 xs s2 ys := by
  obtain ⟨C, h1, h2, h3, h4⟩ := h
  exact ⟨C, h1.set hp u, h2.set (Nat.lt_of_lt_of_le hp h3) u, h3, h4⟩
theorem Two.mono {w : World} {B B' : Nat} {a1 : Option Addr} {l1 c1 : Nat} {xs : List Int} {s2 : Value} {ys : List Int} (h : Two w B a1 l1 c1 xs s2 ys) (hB : B' ≤ B) : Two w B' a1 l1 c1 xs s2 ys := by
  obtain ⟨C, h1, h2, h3, h4⟩ := h
  exact ⟨C, h1.mono hB, h2, Nat.le_trans hB h3, h4⟩
theorem Two.below {w w' : World} {B : Nat} {a1 : Option Addr} {l1 c1 : Nat} {xs : List Int} {s2 : Value} {ys : List Int} (h : Two w B a1 l1 c1 xs s2 ys) (hb : Below w.heap.size w w') : Two w' B a1 l1 c1 xs s2 ys := by
  obtain ⟨C, h1, h2, h3, h4⟩ := h
  exact ⟨C, h1.below hb, h2.below hb, h3, h4⟩
theorem Two.of {w w' : World} {B : Nat} {a1 : Option Addr} {l1 c1 : Nat} {xs : List Int} {s2 : Value} {ys : List Int} (h1 : Own w B (.slice a1 l1 c1) xs) (hB : B ≤ w.heap.size) (h2 : Own w' w.heap.size s2 ys) (hb : Below w.heap.size w w') : Two w' B a1 l1 c1 xs s2 ys := by
  refine ⟨w.heap.size, h1.below hb, h2, hB, ?_⟩
  rintro ad rfl
  exact (_root_.Go.World.ownsRow.lt h1 ad.block rfl).2
theorem Two.nil (w : World) (B : Nat) : Two w B none 0 0 [] (.slice none 0 0) [] := ⟨B, Own.nil _ _, Own.nil _ _, Nat.le_refl _, by simp⟩

theorem xdOf_any (n d : Int) (n1 : -9223372036854775807 ≤ n) (n2 : n ≤ 9223372036854775807) (d1 : -9223372036854775807 ≤ d) (d2 : d ≤ 9223372036854775807) (w : World) : Calls Try.prog 47 #[.int .i64 n, .int .i64 d] w (GivesRt (decide (n < 0)) (dg n.natAbs) (decide (d < 0)) (dg d.natAbs) w) := by
  have HN := Lib.hid (fun w => bgOf_any n n1 n2 w)
  have HD := Lib.hid (fun w => bgOf_any d d1 d2 w)
  generalize dg n.natAbs = X at *
  generalize dg d.natAbs = Y at *
  generalize decide (n < 0) = s1 at *
  generalize decide (d < 0) = s2 at *
  clear n1 n2 d1 d2
  go_enter Try.func47, Try.ntmps47
  go_wp2_with fail
  refine (HN.out _).mono ?_
  rintro e wb ⟨a1, l1, c1, rfl, ho, hbb⟩
  have hzb := hbb.size; (try simp only [World.size_alloc, World.size_setCell, World.size_drew, World.heap_drewN] at hzb); try (refine keepc hbb (w.heap.size) ?_ ?_; (focus (first | omega | (simp <;> omega))); intro hcb_0 hfb_0 hlb_0); try (refine keepc hbb (w.heap.size + 1) ?_ ?_; (focus (first | omega | (simp <;> omega))); intro hcb_1 hfb_1 hlb_1); try (refine keepc hbb (w.heap.size + 1 + 1) ?_ ?_; (focus (first | omega | (simp <;> omega))); intro hcb_2 hfb_2 hlb_2)
  go_wp2_with fail
  refine (HD.out _).mono ?_
  rintro e wc ⟨a2, l2, c2, rfl, ho2, hbc⟩
  have hzc := hbc.size; (try simp only [World.size_alloc, World.size_setCell, World.size_drew, World.heap_drewN] at hzc); try (refine keepc hbc (w.heap.size) ?_ ?_; (focus (first | omega | (simp <;> omega))); intro hcc_0 hfc_0 hlc_0); try (refine keepc hbc (w.heap.size + 1) ?_ ?_; (focus (first | omega | (simp <;> omega))); intro hcc_1 hfc_1 hlc_1); try (refine keepc hbc (w.heap.size + 1 + 1) ?_ ?_; (focus (first | omega | (simp <;> omega))); intro hcc_2 hfc_2 hlc_2)
  go_wp2_with fail
  have T := Two.of ho (by simpa using hbb.size) ho2 hbc
  refine bodyPost_ret (v := .agg #[.bool s1, .slice a1 l1 c1, .bool s2, .slice a2 l2 c2]) (by simp [results, Try.results47, go_sem, hcc_0, hcb_0, hlc_0, hlb_0]) rfl ⟨_, _, _, _, _, _, rfl, ((((T.set (p := ⟨w.heap.size, 0, none⟩) (by simp) _).set (p := ⟨w.heap.size, 1, none⟩) (by simp) _).set (p := ⟨w.heap.size, 2, none⟩) (by simp) _).set (p := ⟨w.heap.size, 3, none⟩) (by simp) _).mono (by simp), (by repeat' (first | (with_reducible exact Below.refl _ _) | (with_reducible assumption) | (with_reducible refine Below.alloc ?_ ?_ _) | (with_reducible refine Below.setCell ?_ ?_ _) | (with_reducible refine Below.drew ?_) | (with_reducible refine below_drewN ?_ _) | (apply bthen2; (with_reducible assumption)) | go_size))⟩

theorem isF_rng {n d : Int} (h : isF n d = true) : -1000000000 ≤ n ∧ n ≤ 1000000000 ∧ 1 ≤ d ∧ d ≤ 1000000000 := by
  unfold isF inB at h
  simp only [Bool.and_eq_true, decide_eq_true_eq] at h
  omega
def roN (n d : Int) : Bool := isF n d && decide (n < 0)
def roX (n d : Int) : List Int := if isF n d then dg n.natAbs else []
def roD (n d : Int) : Bool := isF n d && decide (d < 0)
def roY (n d : Int) : List Int := if isF n d then dg d.natAbs else []
theorem sRatioOf_any (n d : Int) (w : World) : Calls Try.prog 13 #[.agg #[.int .i64 n, .int .i64 d]] w (GivesRB (isF n d) (roN n d) (roX n d) (roD n d) (roY n d) w) := by
  have HF := Lib.hid (fun w => frGood_any n d w)
  unfold roN roX roD roY
  cases g : isF n d
  · rw [g] at HF
    go_enter Try.func13, Try.ntmps13
    go_wp2_with fail
    refine (HF.out _).mono ?_
    rintro e wa ⟨rfl, hba⟩; have hza := hba.size; (try simp only [World.size_alloc, World.size_setCell, World.size_drew, World.heap_drewN] at hza); try (refine keepc hba (w.heap.size) ?_ ?_; (focus (first | omega | (simp <;> omega))); intro hca_0 hfa_0 hla_0); try (refine keepc hba (w.heap.size + 1) ?_ ?_; (focus (first | omega | (simp <;> omega))); intro hca_1 hfa_1 hla_1); try (refine keepc hba (w.heap.size + 1 + 1) ?_ ?_; (focus (first | omega | (simp <;> omega))); intro hca_2 hfa_2 hla_2)
    go_wp2_with fail
    refine bodyPost_ret (v := .tuple #[.agg #[.bool false, .slice none 0 0, .bool false, .slice none 0 0], .bool false]) (by simp [results, Try.results13, go_sem, hca_1, hla_1]) rfl ⟨_, _, _, _, _, _, rfl, Two.nil _ _, (by repeat' (first | (with_reducible exact Below.refl _ _) | (with_reducible assumption) | (with_reducible refine Below.alloc ?_ ?_ _) | (with_reducible refine Below.setCell ?_ ?_ _) | (with_reducible refine Below.drew ?_) | (with_reducible refine below_drewN ?_ _) | (apply bthen2; (with_reducible assumption)) | go_size))⟩
  · rw [g] at HF
    obtain ⟨r1, r2, r3, r4⟩ := isF_rng g
    have HX := Lib.hid (fun w => xdOf_any n d (by omega) (by omega) (by omega) (by omega) w)
    simp only [Bool.true_and, if_true]
    generalize dg n.natAbs = X at *
    generalize dg d.natAbs = Y at *
    generalize decide (n < 0) = s1 at *
    generalize decide (d < 0) = s2 at *
    go_enter Try.func13, Try.ntmps13
    go_wp2_with fail
    refine (HF.out _).mono ?_
    rintro e wa ⟨rfl, hba⟩; have hza := hba.size; (try simp only [World.size_alloc, World.size_setCell, World.size_drew, World.heap_drewN] at hza); try (refine keepc hba (w.heap.size) ?_ ?_; (focus (first | omega | (simp <;> omega))); intro hca_0 hfa_0 hla_0); try (refine keepc hba (w.heap.size + 1) ?_ ?_; (focus (first | omega | (simp <;> omega))); intro hca_1 hfa_1 hla_1); try (refine keepc hba (w.heap.size + 1 + 1) ?_ ?_; (focus (first | omega | (simp <;> omega))); intro hca_2 hfa_2 hla_2)
    go_wp2_with fail
    refine (HX.out _).mono ?_
    rintro e wb ⟨a1, l1, c1, a2, l2, c2, rfl, T, hbb⟩
    have hzb := hbb.size; (try simp only [World.size_alloc, World.size_setCell, World.size_drew, World.heap_drewN] at hzb); try (refine keepc hbb (w.heap.size) ?_ ?_; (focus (first | omega | (simp <;> omega))); intro hcb_0 hfb_0 hlb_0); try (refine keepc hbb (w.heap.size + 1) ?_ ?_; (focus (first | omega | (simp <;> omega))); intro hcb_1 hfb_1 hlb_1); try (refine keepc hbb (w.heap.size + 1 + 1) ?_ ?_; (focus (first | omega | (simp <;> omega))); intro hcb_2 hfb_2 hlb_2)
    go_wp2_with fail
    refine bodyPost_ret (v := .tuple #[.agg #[.bool s1, .slice a1 l1 c1, .bool s2, .slice a2 l2 c2], .bool true]) (by simp [results, Try.results13, go_sem, hcb_1, hca_1, hla_1, hlb_1]) rfl ⟨_, _, _, _, _, _, rfl, ((((T.set (p := ⟨w.heap.size + 1, 0, none⟩) (by show w.heap.size + 1 < wa.heap.size; omega) _).set (p := ⟨w.heap.size + 1, 1, none⟩) (by show w.heap.size + 1 < wa.heap.size; omega) _).set (p := ⟨w.heap.size + 1, 2, none⟩) (by show w.heap.size + 1 < wa.heap.size; omega) _).set (p := ⟨w.heap.size + 1, 3, none⟩) (by show w.heap.size + 1 < wa.heap.size; omega) _).mono (by omega), (by repeat' (first | (with_reducible exact Below.refl _ _) | (with_reducible assumption) | (with_reducible refine Below.alloc ?_ ?_ _) | (with_reducible refine Below.setCell ?_ ?_ _) | (with_reducible refine Below.drew ?_) | (with_reducible refine below_drewN ?_ _) | (apply bthen2; (with_reducible assumption)) | go_size))⟩

end Go.Proofs.Ytopdeoicglkbkaa
